import Derived.Test.YtejdliehekjicaaGreatAwWa4
set_option maxRecDepth 100000
set_option linter.unusedSimpArgs false
namespace Go.AM.D32
open Go Go.AM
noncomputable section
open Nat renaming reduceEqDiff -> rQ, reduceAdd -> rA
def plainD(zs:List (Vc × Nat)):Bool:=zs.all fun z=>(match z.1.op with | .alloc _=>false | .mksl _ _ _ _ _=>false | _=>true)&&!z.1.op.isDefer
theorem drun_seq{Γ:Cg}:∀(zs:List (Vc × Nat)) (i id:Nat) (fr:Fr) (st:St) (fr':Fr) (st':St),plainD zs=true->Vj Γ (zs.map Prod.fst) fr st=.ok fr' st'->∃ its,Wq Γ zs i id fr st none=some (its,fr',st')/\JE its=none
 | [],i,id,fr,st,fr',st',_,h=>by
  simp only[QZ,Vj,RR.ok.injEq] at h
  obtain⟨rfl,rfl⟩:=h
  exact⟨[],rfl,rfl⟩
 | z::zs,i,id,fr,st,fr',st',hp,h=>by
  unfold plainD at hp
  simp only[QN,Qd,Xy] at hp
  obtain⟨⟨h1,h2⟩,h3⟩:=hp
  have ih:=drun_seq (Γ:=Γ) zs
  simp only[Q4,Vj] at h
  unfold Wq
  simp only[Ku,Qq]
  cases hw:Vv fr z.1.guard with
  | none=>rw[hw] at h;cases h
  | some b=>
   rw[hw] at h
   cases b with
   | false=>
    obtain⟨its,e1,e2⟩:=ih (i+1) (VJ id z.1.op) _ _ _ _ h3 h
    refine⟨.val fr st .undef st::its,?_,e2⟩
    simp only[e1];rfl
   | true=>
    simp only[h2,Qq] at h
    have ho:V5 Γ id fr st z.1.op=opr Γ fr st z.1.op:=by
     unfold V5
     split
     ·rename_i hh;rw[hh] at h1;cases h1
     ·rename_i hh;rw[hh] at h1;cases h1
     ·rfl
    simp only[ho]
    cases hr:opr Γ fr st z.1.op with
    | val v s1=>
     rw[hr] at h
     obtain⟨its,e1,e2⟩:=ih (i+1) (VJ id z.1.op) _ _ _ _ h3 h
     refine⟨.val fr st v s1::its,?_,e2⟩
     simp only[e1];rfl
    | pan v s1=>rw[hr] at h;cases h
    | stuck=>rw[hr] at h;cases h
theorem SN:∀(zs:List (Vc × Nat)),plainD zs=true->Ta zs=true
 | [],_=>rfl
 | z::zs,hp=>by
  unfold plainD at hp
  simp only[QN,Qd] at hp
  simp only[Ta,Qd]
  exact⟨hp.1.1,SN zs hp.2⟩
theorem Wj{Γ:Cg}{zs:List (Vc × Nat)}{fr fr':Fr}{st st':St}(hp:plainD zs=true)(h:Vj Γ (zs.map Prod.fst) fr st=.ok fr' st'):VK Γ zs [] fr st=.ok fr' st':=by
 obtain⟨its,e1,e2⟩:=drun_seq zs 0 st.next fr st fr' st' hp h
 unfold VK
 rw[TI zs _ st (SN zs hp),e1]
 simp only[QW,Qi,e2]
def wb158_0:Vn:=(ZQ [ZV 10 8,ZV 5 10]
 (ZQ [ZV 11 1,ZV 12 0,ZV 13 5,ZP 14 3 12 13,ZK 15 3 14,ZO 16 (.call (.t 11) [(.t 15)])]
 (.cond (.t 16)
 (ZR [ZV 17 5,ZV 4 17])
 .skip)))
def wf158:Vm:=⟨19,(ZQ [ZM 4 (ZC 0)]
 (.seq (ZQ [ZV 6 0,ZN 7 6,ZM 8 (ZC 0)]
 (.block 0 (.loop (lb 9 8 7 18 wb158_0))))
 (ZR [ZM 4 (.c (.int .i64 (.negSucc 0)))]))),[.t 4]⟩
theorem u158:tbl 158=some wf158:=by kernel_rfl
def wf109:Vm:=⟨9,(ZQ [ZM 4 (ZB false)]
 (ZR [ZV 5 0,ZV 6 1,ZX 7 158 [(.t 5),(.t 6)],ZO 8 (.bin false .geq (.t 7) (ZC 0)),ZV 4 8])),[.t 4]⟩
theorem u109:tbl 109=some wf109:=by kernel_rfl
theorem idx158_run{q n:Nat}{Y:Vi}{F:Nat->Prop}{st0:St}{sl:AV}{xs:List (List AV)}{caps:List AV}{Inv:Nat->St->Prop}{Fin:Nat->St->Prop}(hsl:SlN 3 F st0 sl xs)
  (hI:∀ k s,Inv k s->Vs F st0 s)
  (hcb:∀ k x s,xs[k]?=some x->Inv k s->∃ b s',R n Y q (.agg x::caps) s=.ret (.bool b) s'/\(b=true->Fin k s')/\(b=false->Inv (k+1) s'))
  (st:St) (h0:Inv 0 st) (hn:xs.length < n):
  ∃ r s',R (n+1) Y 158 [sl,.func (.func q) [] caps] st=.ret (.int .i64 r) s'/\((r=.negSucc 0/\Inv xs.length s')\/(∃ j:Nat,r=.ofNat j/\j < xs.length/\Fin j s')):=by
 have hlen:=hsl.len st
 obtain⟨fr0,hfr0,z0,z1,z7,z8,zd⟩:∃ fr0,(∀ L T,ac n Y (ZQ [ZM 4 (ZC 0)] (.seq (ZQ [ZV 6 0,ZN 7 6,ZM 8 (ZC 0)] L) T)) none (Vo 0 [sl,.func (.func q) [] caps] Fr.nil) st=match ac n Y L none fr0 st with
    | .norm fr st=>ac n Y T none fr st
    | r=>r)
   /\ fr0.get 0=some sl/\fr0.get 1=some (.func (.func q) [] caps)/\fr0.get 7=some (ZI xs.length)/\fr0.get 8=some Z0/\fr0.ds=[]:=by
  refine⟨?f0,?f1,?f2,?f3,?f4,?f5,?f7⟩
  case f1=>
   intro L T
   simp only[amE,rQ,↓reduceIte,rA,hlen]
   rfl
  case f2=>simp only[Vo,Fr.get_set,rA,rQ,↓reduceIte]
  case f3=>simp only[Vo,Fr.get_set,rA,rQ,↓reduceIte]
  case f4=>simp only[Fr.get_set,rQ,↓reduceIte]
  case f5=>simp only[Fr.get_set,↓reduceIte]
  case f7=>rfl
 have b00:Nat.beq 0 0=true:=rfl
 have hB:∀ k fr s,k < xs.length->Kp [0,1,7] fr0 fr->fr.get 8=some (ZI k)->Inv k s ->
   (∃ FR s',ac n Y wb158_0 none fr s=.norm FR s'/\Kp [8,0,1,7] fr FR/\Inv (k+1) s') ∨
   (∃ FR s',ac n Y wb158_0 none fr s=.ret FR s'/\(FR.ds=[]/\(∃ j:Nat,FR.get 4=some (ZI j)/\j < xs.length/\Fin j s'))):=by
  intro k fr s hk hkp g8 hi
  have hx:xs[k]?=some xs[k]:=Qn hk
  generalize xs[k]=x at hx
  obtain⟨p,ia,ld⟩:=hsl.at hx
  have ld:=ld s (hI k s hi)
  obtain⟨b,s',hc,h1,h2⟩:=hcb k x s hx hi
  have hc':((gT n).cg Y).fn q (.agg x::caps) s=.ret (.bool b) s':=hc
  have q0:=hkp.at (k:=0) (by decide) z0
  have q1:=hkp.at (k:=1) (by decide) z1
  cases b with
  | true=>
   refine .inr ⟨?r0,s',?r1,?r2,⟨k,?r3,hk,h1 rfl⟩⟩
   case r1=>
    simp only[amE,rQ,↓reduceIte,rA,wb158_0,q0,q1,g8,ia,ld,hc']
    rfl
   case r2=>exact hkp.1.trans zd
   case r3=>simp only[Fr.get_set,↓reduceIte]
  | false=>
   refine .inl ⟨?v0,s',?v1,?v2,h2 rfl⟩
   case v1=>
    simp only[amE,rQ,↓reduceIte,rA,wb158_0,q0,q1,g8,ia,ld,hc']
    rfl
   case v2=>repeat (first | exact Kp.refl | refine Kp.set (by decide) ?_)
 have hbd:=hsl.2.2.1
 rcases kloop (Γ:=gT n) (Y:=Y) (m:=n) (N:=xs.length) (c:=9) (i:=8) (n:=7) (i2:=18) (ro:=none) (L:=[0,1,7]) (fr0:=fr0) (by decide) (by decide) (by decide) (by decide) z7 (by omega)
  (Q:=fun k _ s=>Inv k s) (fun _ _ _ _ _ _ h=>h) hB xs.length 0 fr0 st n (by omega) (by omega) Kp.refl z8 h0
  with⟨FR,s',h1,h2,h3⟩|⟨FR,s',h1,h2,⟨j,h3,h4,h5⟩⟩
 ·refine⟨.negSucc 0,s',Ve (mf:=wf158) (fr:=FR.set 4 (some (.int .i64 (.negSucc 0)))) u158 rfl (.inl ?w1) (h2.1.trans zd) ?w2,.inl ⟨rfl,h3⟩⟩
  case w1=>
   refine (hfr0 _ _).trans ?_
   simp only[amE,rQ,↓reduceIte,rA,h1,b00]
  case w2=>simp only[wf158,amE,Fr.get_set,↓reduceIte]
 ·refine⟨.ofNat j,s',Ve (mf:=wf158) (fr:=FR) u158 rfl (.inl ?w3) h2 ?w4,.inr ⟨j,rfl,h4,h5⟩⟩
  case w3=>
   refine (hfr0 _ _).trans ?_
   simp only[amE,rQ,↓reduceIte,rA,h1,b00]
  case w4=>simp only[wf158,amE,h3]
theorem contains109_run{q n:Nat}{Y:Vi}{F:Nat->Prop}{st0:St}{sl:AV}{xs:List (List AV)}{caps:List AV}{Inv:Nat->St->Prop}{Fin:Nat->St->Prop}(hsl:SlN 3 F st0 sl xs)
  (hI:∀ k s,Inv k s->Vs F st0 s)
  (hcb:∀ k x s,xs[k]?=some x->Inv k s->∃ b s',R n Y q (.agg x::caps) s=.ret (.bool b) s'/\(b=true->Fin k s')/\(b=false->Inv (k+1) s'))
  (st:St) (h0:Inv 0 st) (hn:xs.length < n):
  ∃ b s',R (n+2) Y 109 [sl,.func (.func q) [] caps] st=.ret (.bool b) s'/\((b=false/\Inv xs.length s')\/(b=true/\∃ j,j < xs.length/\Fin j s')):=by
 obtain⟨r,s',hr,hc⟩:=idx158_run hsl hI hcb st h0 hn
 have hr':((gT (n+1)).cg Y).fn 158 [sl,.func (.func q) [] caps] st=.ret (.int .i64 r) s':=hr
 have hg:Vr false .geq (.int .i64 r) Z0=some (.bool (decide (r>=0))):=rfl
 refine⟨decide (r>=0),s',?_,?_⟩
 ·refine Ve (mf:=wf109) (fr:=?a0) u109 rfl (.inl ?a1) ?a2 ?a3
  case a1=>
   simp only[amE,rQ,↓reduceIte,rA,wf109,hr',hg]
   rfl
  case a2=>rfl
  case a3=>simp only[wf109,amE,Fr.get_set,↓reduceIte]
 ·rcases hc with⟨rfl,h⟩|⟨j,rfl,h1,h2⟩
  ·exact .inl ⟨rfl,h⟩
  ·exact .inr ⟨by simp,j,h1,h2⟩
def wg110_0:List Vc:=[ZO 1 (.box true (.t 0)),ZM 2 (ZB false)]
def wg110_1:List Vc:=[ZK 3 3 1,ZX 4 111 [(.t 3)],ZO 5 (.un .not (.t 4)),ZV 2 5]
def wf110:Vm:=⟨6,(ZQ wg110_0 (ZR wg110_1)),[.t 2]⟩
theorem t110:tbl 110=some wf110:=by kernel_rfl
theorem values1_run(t:Tm)(m:Nat)(Y:Vi)(F:Nat->Prop)(st:St)(cs:List AV)(hr:We F st t cs)(hF:∀ i,F i->i < st.next)(hn:t.fz+4<=m):
  ∃ st',R (m+1) Y 110 [.agg cs] st=.ret (.bool (!gr t)) st'/\Vd st st':=by
 have hc3:=hr.cells3
 obtain⟨st1,c1,k1⟩:=ground_run t m Y F st cs hr hF hn
 have c1':((gT m).cg Y).fn 111 [.agg cs] st=.ret (.bool (gr t)) st1:=c1
 obtain⟨a,b,c,rfl⟩:∃ a b c,cs=[a,b,c]:=by
  match cs,hc3.1 with
  | [a,b,c],_=>exact⟨a,b,c,rfl⟩
 generalize gr t=B at *
 obtain⟨fA1,hA1⟩:∃ fA,fA=Vo 0 [.agg [a,b,c]] Fr.nil:=⟨_,rfl⟩
 have gA1_0:=gAt hA1 0
 have dA1:fA1.ds=[]:=by rw[hA1];rfl
 obtain⟨J2,H2,O2_1⟩:∃ fr',ar m Y wg110_0 fA1 st=.ok fr' st/\fr'.get 1=some (.fptr [a,b,c] 0):=⟨_,by simp only[amE,rQ,↓reduceIte,rA,gA1_0,wg110_0]<;>rfl,gn gh⟩
 have W2:=ad H2 dA1
 obtain⟨J3,H3,O3_2⟩:∃ fr',ar m Y wg110_1 J2 st=.ok fr' st1/\fr'.get 2=some (.bool (!B)):=⟨_,by simp only[amE,rQ,↓reduceIte,rA,O2_1,wg110_1,Jh,c1',WN,Qc,Qb]<;>rfl,gh⟩
 have W3:=ad H3 W2
 refine⟨_,Ve (mf:=wf110) (fr:=J3) t110 rfl (.inl ?q3) W3 (by simp only[wf110,amE,O3_2]),k1⟩
 case q3=>
  rw[<-hA1]
  simp only[amE,rQ,↓reduceIte,rA,wf110,b00,H2,H3]
def wg67_0:List Vc:=[ZO 1 (.box true (.t 0)),ZM 2 (ZB false)]
def wg67_1:List Vc:=[ZA 3 1 1,ZL 4 3,ZN 5 4,ZO 6 (.bin false .leq (.t 5) (ZC 8)),ZV 7 6,ZG 8 (.faddr 1 (.t 1)) 7 true,ZG 9 (.load false 1 (.t 8)) 7 true,ZG 10 (.call (.c (.func (.func 109) [] [])) [(.t 9),(.c (.func (.func 110) [] []))]) 7 true,ZG 11 (.un .not (.t 10)) 7 true,ZO 12 (.pick (.t 7) (.t 11) (ZB false)),ZV 2 12]
def wf67:Vm:=⟨13,(ZQ wg67_0 (ZR wg67_1)),[.t 2]⟩
theorem t67:tbl 67=some wf67:=by kernel_rfl
theorem SlN.sl3(nl ex:Bool)(l:List Tm)(h:nl=true->l=[])(hb:l.length<=4611686018427387904)(F:Nat->Prop)(st:St):SlN 3 F st (V7 nl ex (Tm.cellsL l)) (Tm.cellsL l):=by
 cases nl with
 | true=>rw[h rfl];exact SlN.nil (by omega) F st
 | false=>exact SlN.lst (by omega) F st (Tm.cellsL3 l) (by rw[Tm.cellsL_len];omega) rfl rfl
theorem valuesP_run(e:En)(he:e.ok)(x:AV)(m:Nat)(Y:Vi)(st:St)(hn:e.fz<=m):
  ∃ st',R (m+1) Y 67 [.agg [x,e.vsl]] st=.ret (.bool (valsB e.vals)) st'/\Vd st st':=by
 obtain⟨o1,o2,o3,o4,o5,o6⟩:=he
 unfold En.fz at hn
 obtain⟨q,rfl⟩:∃ q,m=q+3:=⟨m - 3,by omega⟩
 have hS:SlN 3 (fun _=>False) st e.vsl (Tm.cellsL e.vals):=SlN.sl3 e.vnl e.vex e.vals o1 o2 _ st
 have hl:∀ st,(bif VD 0 e.vsl then Wm st e.vsl else none)=some (ZI e.vals.length):=fun st=>by
  have:=hS.len st
  rwa [Tm.cellsL_len] at this
 have hlq:=leqN e.vals.length 8
 unfold valsB
 by_cases hA:e.vals.length<=8
 ·rw[Qs hA] at hlq ⊢
  obtain⟨b,st1,c1,hc⟩:=contains109_run (q:=110) (n:=q+1) (Y:=Y) (caps:=[]) (Inv:=fun k s=>Vd st s/\(e.vals.take k).all gr=true) (Fin:=fun k s=>Vd st s/\e.vals.all gr=false) hS
   (fun k s h=>Vs.of h.1 fun _ h=>h.elim) (fun k x s hx hi=>by
    have hrs:Vy (fun _=>False) s e.vals (Tm.cellsL e.vals):=Vy.line _ s e.vals o3
    have hkl:k < e.vals.length:=by have:=(Qt.1 hx).1;rwa [Tm.cellsL_len] at this
    have ht:e.vals[k]?=some e.vals[k]:=Qn hkl
    generalize e.vals[k]=t at ht
    have hx2:=Tm.cellsL_at ht
    rw[hx] at hx2;injection hx2 with hx2;subst hx2
    obtain⟨s',r,k'⟩:=values1_run t q Y (fun _=>False) s t.cells (We.line _ s t (Tm.okL_mem o3 t (Qr ht))) (fun _ h=>h.elim) (by have:=Tm.fzL_mem (Qr ht);omega)
    have hat:=YR gr e.vals k t ht
    rw[hi.2,Q3] at hat
    refine⟨_,s',r,fun h=>⟨hi.1.trans k',WV (k:=k+1) (by rw[hat];simpa using h)⟩,fun h=>⟨hi.1.trans k',by rw[hat];simpa using h⟩⟩)
   st ⟨Vd.refl st,rfl⟩ (by rw[Tm.cellsL_len];omega)
  have c1':((gT (q+3)).cg Y).fn 109 [e.vsl,.func (.func 110) [] []] st=.ret (.bool b) st1:=c1
  have hb:b=!e.vals.all gr/\Vd st st1:=by
   rcases hc with⟨rfl,h1,h2⟩|⟨rfl,j,_,h1,h2⟩
   ·rw[Tm.cellsL_len,QH] at h2;rw[h2];exact⟨rfl,h1⟩
   ·rw[h2];exact⟨rfl,h1⟩
  obtain⟨hb,k1⟩:=hb
  have hr:(true&&e.vals.all gr)=!b:=by rw[hb];simp
  rw[hr]
  obtain⟨fA4,hA4⟩:∃ fA,fA=Vo 0 [.agg [x,e.vsl]] Fr.nil:=⟨_,rfl⟩
  have gA4_0:=gAt hA4 0
  have dA4:fA4.ds=[]:=by rw[hA4];rfl
  obtain⟨J5,H5,O5_1⟩:∃ fr',ar (q+3) Y wg67_0 fA4 st=.ok fr' st/\fr'.get 1=some (.fptr [x,e.vsl] 0):=⟨_,by simp only[amE,rQ,↓reduceIte,rA,gA4_0,wg67_0]<;>rfl,gn gh⟩
  have W5:=ad H5 dA4
  obtain⟨J6,H6,O6_2⟩:∃ fr',ar (q+3) Y wg67_1 J5 st=.ok fr' st1/\fr'.get 2=some (.bool (!b)):=⟨_,by simp only[amE,rQ,↓reduceIte,rA,O5_1,wg67_1,faF,ld2_1,hl,hlq,c1',WN,Qc,Qb]<;>rfl,gh⟩
  have W6:=ad H6 W5
  refine⟨_,Ve (mf:=wf67) (fr:=J6) t67 rfl (.inl ?q6) W6 (by simp only[wf67,amE,O6_2]),k1⟩
  case q6=>
   rw[<-hA4]
   simp only[amE,rQ,↓reduceIte,rA,wf67,b00,H5,H6]
 ·rw[Qp hA] at hlq ⊢
  obtain⟨fA7,hA7⟩:∃ fA,fA=Vo 0 [.agg [x,e.vsl]] Fr.nil:=⟨_,rfl⟩
  have gA7_0:=gAt hA7 0
  have dA7:fA7.ds=[]:=by rw[hA7];rfl
  obtain⟨J8,H8,O8_1⟩:∃ fr',ar (q+3) Y wg67_0 fA7 st=.ok fr' st/\fr'.get 1=some (.fptr [x,e.vsl] 0):=⟨_,by simp only[amE,rQ,↓reduceIte,rA,gA7_0,wg67_0]<;>rfl,gn gh⟩
  have W8:=ad H8 dA7
  obtain⟨J9,H9,O9_2⟩:∃ fr',ar (q+3) Y wg67_1 J8 st=.ok fr' st/\fr'.get 2=some (.bool false):=⟨_,by simp only[amE,rQ,↓reduceIte,rA,O8_1,wg67_1,faF,ld2_1,hl,hlq,WN,Qc,Qb]<;>rfl,gh⟩
  have W9:=ad H9 W8
  refine⟨_,Ve (mf:=wf67) (fr:=J9) t67 rfl (.inl ?q9) W9 (by simp only[wf67,amE,O9_2,Q8]),Vd.refl st⟩
  case q9=>
   rw[<-hA7]
   simp only[amE,rQ,↓reduceIte,rA,wf67,b00,H8,H9]
def wg8_0:List Vc:=[ZO 1 (.box true (.t 0)),ZM 2 (ZB false)]
def wg8_1:List Vc:=[ZA 4 2 1,ZL 5 4,ZO 6 (.bin false .lss (.t 5) (ZC 1)),ZV 7 6,ZG 8 (.faddr 2 (.t 1)) 7 false,ZG 9 (.load false 1 (.t 8)) 7 false,ZG 10 (.bin false .gtr (.t 9) (ZC 8)) 7 false,ZO 11 (.pick (.t 7) (ZB true) (.t 10)),ZV 12 11,ZG 13 (.faddr 0 (.t 1)) 12 false,ZG 14 (.load false 1 (.t 13)) 12 false,ZG 15 (.len 0 (.t 14)) 12 false,ZG 16 (.bin false .gtr (.t 15) (ZC 24)) 12 false,ZO 17 (.pick (.t 12) (ZB true) (.t 16)),ZV 18 17,ZG 19 (.faddr 1 (.t 1)) 18 false,ZG 20 (.load false 1 (.t 19)) 18 false,ZG 21 (.len 0 (.t 20)) 18 false,ZG 22 (.faddr 0 (.t 1)) 18 false,ZG 23 (.load false 1 (.t 22)) 18 false,ZG 24 (.len 0 (.t 23)) 18 false,ZG 25 (.bin false .neq (.t 21) (.t 24)) 18 false,ZO 26 (.pick (.t 18) (ZB true) (.t 25))]
def wg8_2:List Vc:=[ZM 2 (ZB false)]
def wg8_3:List Vc:=[ZM 3 (ZC 0)]
def wg8_4:List Vc:=[ZV 27 3,ZA 28 1 1,ZL 29 28,ZN 30 29,ZO 31 (.bin false .lss (.t 27) (.t 30))]
def wg8_5:List (Vc × Nat):=[(ZA 34 1 1,0),(ZL 35 34,1),(ZV 36 3,0),(ZP 37 1 35 36,7),(ZL 38 37,15),(ZO 39 (.bin false .lss (.t 38) (ZC 0)),31),(ZV 40 39,63),(ZG 41 (.faddr 1 (.t 1)) 40 false,127),(ZG 42 (.load false 1 (.t 41)) 40 false,255),(ZG 43 (.mv (.t 3)) 40 false,127),(ZG 44 (.iaddr 1 (.t 42) (.t 43)) 40 false,1023),(ZG 45 (.load false 1 (.t 44)) 40 false,2047),(ZG 46 (.faddr 2 (.t 1)) 40 false,127),(ZG 47 (.load false 1 (.t 46)) 40 false,4223),(ZG 48 (.bin false .geq (.t 45) (.t 47)) 40 false,16383),(ZO 49 (.pick (.t 40) (ZB true) (.t 48)),32767)]
def wg8_6:List Vc:=[ZM 2 (ZB false)]
def wg8_7:List Vc:=[ZV 32 3,ZO 33 (.bin false .add (.t 32) (ZC 1)),ZV 3 33]
def wg8_8:List Vc:=[ZM 2 (ZB true)]
def Us:Vn:=(.seq (ZQ wg8_4 (.cond (.t 31) .skip (.exit 0))) (.seq (.block 1 (.seq (.draw wg8_5 []) (.cond (.t 49) (ZR wg8_6) .skip))) (.region wg8_7)))
def wf8:Vm:=⟨50,(ZQ wg8_0 (.seq (ZQ wg8_1 (.cond (.t 26) (ZR wg8_2) .skip)) (.seq (ZQ wg8_3 (.block 0 (.loop Us))) (ZR wg8_8)))),[.t 2]⟩
theorem t8:tbl 8=some wf8:=by kernel_rfl
theorem YV(st:St)(x y z:AV):Vf false 1 st (.fptr [x,y,z] 0)=some x:=rfl
theorem Ks(st:St)(x y z:AV):Vf false 1 st (.fptr [x,y,z] 1)=some y:=rfl
theorem ld3_2(st:St)(x y z:AV):Vf false 1 st (.fptr [x,y,z] 2)=some z:=rfl
theorem lssI(x y:Int):Vr false .lss (.int .i64 x) (.int .i64 y)=some (.bool (decide (x < y))):=rfl
theorem geqI(x y:Int):Vr false .geq (.int .i64 x) (.int .i64 y)=some (.bool (decide (x>=y))):=rfl
theorem gtrI(x y:Int):Vr false .gtr (.int .i64 x) (.int .i64 y)=some (.bool (decide (x > y))):=rfl
theorem isPlan_run{F:Nat->Prop}{st:St}{lv pv:AV}{ls:List (List AV)}{ps:List Int}{N:Int}(hl:SlN 1 F st lv ls)(hp:SlI F st pv ps)(m:Nat)(Y:Vi)(hn:ps.length < m):
  R (m+1) Y 8 [.agg [lv,pv,.int .i64 N]] st=.ret (.bool (planB ls.length ps N)) st:=by
 have n0:=hl.len st
 have n1:=SlI.len hp st
 have hB:=SlI.bound hp
 unfold planB
 have hL:∀(fr:Fr),fr.ds=[]->fr.get 1=some (.fptr [lv,pv,.int .i64 N] 0)->fr.get 3=some Z0->∃ FR,FR.ds=[] ∧
   ((Vx (ac m Y Us none) m fr st=.exit 0 FR st/\(ps.all fun k=>decide (0<=k)&&decide (k < N))=true)\/(Vx (ac m Y Us none) m fr st=.ret FR st/\FR.get 2=some (.bool false)/\(ps.all fun k=>decide (0<=k)&&decide (k < N))=false)):=by
  intro fr d0 g1 g3
  refine Ws (B:=ac m Y Us none) (N:=ps.length) (Inv:=fun k fr st1=>fr.ds=[]/\fr.get 1=some (.fptr [lv,pv,.int .i64 N] 0)/\fr.get 3=some (ZI k)/\st1=st/\((ps.take k).all fun k=>decide (0<=k)&&decide (k < N))=true)
   (Out:=fun r=>∃ FR,FR.ds=[]/\((r=.exit 0 FR st/\(ps.all fun k=>decide (0<=k)&&decide (k < N))=true)\/(r=.ret FR st/\FR.get 2=some (.bool false)/\(ps.all fun k=>decide (0<=k)&&decide (k < N))=false))) ?_ ps.length 0 fr st m (by omega) (by omega) ⟨d0,g1,g3,rfl,rfl⟩
  intro k fr st1 hk ⟨d0,g1,g3,hst,hall⟩
  subst hst
  have hlt:=Wt k ps.length
  by_cases hkN:k < ps.length
  ·have hx:ps[k]?=some ps[k]:=Qn hkN
   generalize ps[k]=x at hx
   obtain⟨p,ia,ld⟩:=SlI.at hp hx
   have ld:=ld st1 (Vs.refl _ _)
   have had:=WC (i:=k) (by omega)
   have hat:=YR (fun k=>decide (0<=k)&&decide (k < N)) ps k x hx
   rw[hall,Q3] at hat
   rw[Qs hkN] at hlt
   have c1:=lssI x (.ofNat 0)
   have c2:=geqI x N
   have e1:decide (0<=x)=!decide (x < Int.ofNat 0):=by
    by_cases h:0<=x
    ·rw[Qs h,Qp (by simp;omega)];rfl
    ·rw[Qp h,Qs (by simp;omega)];rfl
   have e2:decide (x < N)=!decide (x>=N):=by
    by_cases h:x < N
    ·rw[Qs h,Qp (by omega)];rfl
    ·rw[Qp h,Qs (by omega)];rfl
   simp only[e1,e2] at hat
   generalize decide (x < Int.ofNat 0)=A at *
   generalize decide (x>=N)=B at *
   have hAB:((ps.take (k+1)).all fun k=>decide (0<=k)&&decide (k < N))=!(A||B):=by rw[hat];cases A<;>cases B<;>rfl
   obtain⟨J10,H10,O10_31⟩:∃ fr',ar m Y wg8_4 fr st1=.ok fr' st1/\fr'.get 31=some (.bool true):=⟨_,by simp only[amE,rQ,↓reduceIte,rA,g1,g3,wg8_4,faF,Ks,n1,hlt]<;>rfl,gh⟩
   have V10_1:=ag H10 g1
   have V10_3:=ag H10 g3
   have W10:=ad H10 d0
   obtain⟨J11,H11,K11,O11_49⟩:∃ fr',VK ((gT m).cg Y) wg8_5 [] J10 st1=.ok fr' st1/\Kp [1,3,31] J10 fr'/\fr'.get 49=some (.bool (A||B)):=by cases A<;>cases B<;>exact⟨_,Wj rfl (by simp only[amE,rQ,↓reduceIte,rA,V10_1,V10_3,wg8_5,faF,Ks,ld3_2,ia,ld,c1,c2,Qc,Qb]<;>rfl),Kp.refl.s.s.s.s.s.s.s.s.s.s.s.s.s.s.s.s,by simp only[Fr.get_set,rQ,↓reduceIte,amB,Qc,Qb]⟩
   have V11_1:=K11.g 1 V10_1
   have V11_3:=K11.g 3 V10_3
   have W11:=K11.1.trans W10
   generalize hC12:(A||B)=C12 at *
   cases C12 with
   | true=>
    obtain⟨J13,H13,O13_2⟩:∃ fr',ar m Y wg8_6 J11 st1=.ok fr' st1/\fr'.get 2=some (.bool false):=⟨_,by simp only[amE,rQ,↓reduceIte,rA,wg8_6]<;>rfl,gh⟩
    have W13:=ad H13 W11
    have hI13:ac m Y Us none fr st1=.ret J13 st1:=by
     simp only[amE,rQ,↓reduceIte,rA,Us,b00,b11,H10,H11,H13,O10_31,O11_49]
    rw[hI13]
    exact⟨_,W13,.inr ⟨rfl,O13_2,WV (k:=k+1) (by rw[hAB];rfl)⟩⟩
   | false=>
    obtain⟨J14,H14,O14_3⟩:∃ fr',ar m Y wg8_7 J11 st1=.ok fr' st1/\fr'.get 3=some (ZI ((k+1))):=⟨_,by simp only[amE,rQ,↓reduceIte,rA,V11_3,wg8_7,had]<;>rfl,gh⟩
    have V14_1:=ag H14 V11_1
    have W14:=ad H14 W11
    have hI14:ac m Y Us none fr st1=.norm J14 st1:=by
     simp only[amE,rQ,↓reduceIte,rA,Us,b00,b11,H10,H11,H14,O10_31,O11_49]
    rw[hI14]
    exact⟨hkN,W14,V14_1,O14_3,rfl,by rw[hAB];rfl⟩
  ·rw[Qp hkN] at hlt
   have hkl:k=ps.length:=by omega
   subst hkl
   rw[QH] at hall
   obtain⟨J15,H15,O15_31⟩:∃ fr',ar m Y wg8_4 fr st1=.ok fr' st1/\fr'.get 31=some (.bool false):=⟨_,by simp only[amE,rQ,↓reduceIte,rA,g1,g3,wg8_4,faF,Ks,n1,hlt]<;>rfl,gh⟩
   have W15:=ad H15 d0
   have hI15:ac m Y Us none fr st1=.exit 0 J15 st1:=by
    simp only[amE,rQ,↓reduceIte,rA,Us,b00,b11,H15,O15_31]
   rw[hI15]
   exact⟨_,W15,.inl ⟨rfl,hall⟩⟩
 have cA:=lssI N (.ofNat 1)
 have cB:=gtrI N (.ofNat 8)
 have cC:=gtrN ls.length 24
 have cD:=neqN ps.length ls.length
 have e1:decide (1<=N)=!decide (N < Int.ofNat 1):=by
  by_cases h:1<=N
  ·rw[Qs h,Qp (by simp;omega)];rfl
  ·rw[Qp h,Qs (by simp;omega)];rfl
 have e2:decide (N<=8)=!decide (N > Int.ofNat 8):=by
  by_cases h:N<=8
  ·rw[Qs h,Qp (by simp;omega)];rfl
  ·rw[Qp h,Qs (by simp;omega)];rfl
 have e3:decide (ls.length<=24)=!decide (24 < ls.length):=by
  by_cases h:ls.length<=24<;>simp[h]<;>omega
 rw[e1,e2,e3]
 generalize decide (N < Int.ofNat 1)=A at *
 generalize decide (N > Int.ofNat 8)=B at *
 generalize decide (24 < ls.length)=C at *
 generalize decide (ps.length=ls.length)=D at *
 obtain⟨fA16,hA16⟩:∃ fA,fA=Vo 0 [.agg [lv,pv,.int .i64 N]] Fr.nil:=⟨_,rfl⟩
 have gA16_0:=gAt hA16 0
 have dA16:fA16.ds=[]:=by rw[hA16];rfl
 obtain⟨J17,H17,O17_1⟩:∃ fr',ar m Y wg8_0 fA16 st=.ok fr' st/\fr'.get 1=some (.fptr [lv,pv,.int .i64 N] 0):=⟨_,by simp only[amE,rQ,↓reduceIte,rA,gA16_0,wg8_0]<;>rfl,gn gh⟩
 have W17:=ad H17 dA16
 obtain⟨J18,H18,O18_26⟩:∃ fr',ar m Y wg8_1 J17 st=.ok fr' st/\fr'.get 26=some (.bool (A||B||C||!D)):=by cases A<;>cases B<;>cases C<;>cases D<;>exact⟨_,by simp only[amE,rQ,↓reduceIte,rA,O17_1,wg8_1,faF,YV,Ks,ld3_2,n0,n1,cA,cB,cC,cD,Qc,Qb]<;>rfl,by simp only[Fr.get_set,rQ,↓reduceIte,amB,Qc,Qb]⟩
 have V18_1:=ag H18 O17_1
 have W18:=ad H18 W17
 generalize hC19:(A||B||C||!D)=C19 at *
 cases C19 with
 | true=>
  obtain⟨J20,H20,O20_2⟩:∃ fr',ar m Y wg8_2 J18 st=.ok fr' st/\fr'.get 2=some (.bool false):=⟨_,by simp only[amE,rQ,↓reduceIte,rA,wg8_2]<;>rfl,gh⟩
  have W20:=ad H20 W18
  have hz:(!A&&!B&&!C&&D&&ps.all fun k=>decide (0<=k)&&decide (k < N))=false:=by cases A<;>cases B<;>cases C<;>cases D<;>simp_all
  rw[hz]
  refine Ve (mf:=wf8) (fr:=J20) t8 rfl (.inl ?q20) W20 (by simp only[wf8,amE,O20_2,Q8,Q3,Qy,QK,Qc,Qb])
  case q20=>
   rw[<-hA16]
   simp only[amE,rQ,↓reduceIte,rA,wf8,b00,H17,H18,H20,O18_26]
 | false=>
  obtain⟨J21,H21,O21_3⟩:∃ fr',ar m Y wg8_3 J18 st=.ok fr' st/\fr'.get 3=some Z0:=⟨_,by simp only[amE,rQ,↓reduceIte,rA,wg8_3]<;>rfl,gh⟩
  have V21_1:=ag H21 V18_1
  have W21:=ad H21 W18
  have hz:A=false/\B=false/\C=false/\D=true:=by cases A<;>cases B<;>cases C<;>cases D<;>simp_all
  obtain⟨rfl,rfl,rfl,rfl⟩:=hz
  obtain⟨FR,dF,hL⟩:=hL J21 W21 V21_1 O21_3
  rcases hL with⟨hL,hal⟩|⟨hL,gF,hal⟩
  ·rw[hal]
   obtain⟨J23,H23,O23_2⟩:∃ fr',ar m Y wg8_8 FR st=.ok fr' st/\fr'.get 2=some (.bool true):=⟨_,by simp only[amE,rQ,↓reduceIte,rA,wg8_8]<;>rfl,gh⟩
   have W23:=ad H23 dF
   refine Ve (mf:=wf8) (fr:=J23) t8 rfl (.inl ?q23) W23 (by simp only[wf8,amE,O23_2,Q8,Q3,Qy,QK,Qc,Qb])
   case q23=>
    rw[<-hA16]
    simp only[amE,rQ,↓reduceIte,rA,wf8,b00,H17,H18,H21,hL,H23,O18_26]
  ·rw[hal]
   refine Ve (mf:=wf8) (fr:=FR) t8 rfl (.inl ?q24) dF (by simp only[wf8,amE,gF,Q8,Q3,Qy,QK,Qc,Qb])
   case q24=>
    rw[<-hA16]
    simp only[amE,rQ,↓reduceIte,rA,wf8,b00,H17,H18,H21,hL,O18_26]
end
noncomputable section
open Nat renaming reduceEqDiff -> rQ, reduceAdd -> rA
theorem En.cells9(e:En):e.cells.length=9/\e.cells.all AV.one=true:=by
 obtain⟨a,b,c,hd,ha,hb,hc⟩:=e.d.cells_abc
 unfold En.cells
 rw[hd]
 have h1:AV.one e.vsl=true:=by unfold En.vsl V7;cases e.vnl<;>rfl
 have h2:AV.one e.ssl=true:=by unfold En.ssl slI;cases e.snl<;>rfl
 refine⟨rfl,?_⟩
 simp only[QP,QR,QN,QW,ha,hb,hc,h1,h2]
 rfl
def YQ(F:Nat->Prop)(st:St)(jv:AV)(js:List (AV × List En)):Prop:=
 SlN 1 F st jv (js.map fun p=>[p.1])/\∀ p∈js,SlN 9 F st p.1 (p.2.map En.cells)/\∀ e∈p.2,e.ok
theorem YQ.mono{F G:Nat->Prop}{s a:St}{jv:AV}{js:List (AV × List En)}(h:YQ F s jv js)(k:Vs F s a)(hFG:∀ i,F i->G i):YQ G a jv js:=
 ⟨h.1.mono k hFG,fun p hp=>⟨(h.2 p hp).1.mono k hFG,(h.2 p hp).2⟩⟩
def tot(js:List (AV × List En)):Nat:=(js.map fun p=>p.2.length).sum
def fzJ(js:List (AV × List En)):Nat:=(js.map fun p=>(p.2.map En.fz).sum+p.2.length+1).sum
theorem mem_sum{l:List Nat}{x:Nat}(h:x∈l):x<=l.sum:=by
 induction l with
 | nil=>simp at h
 | cons a l ih=>
  simp only[Zq]
  rcases Qx.1 h with rfl | h
  ·omega
  ·have:=ih h;omega
theorem fzJ_mem{js:List (AV × List En)}{p:AV × List En}(h:p∈js):(p.2.map En.fz).sum+p.2.length+1<=fzJ js:=mem_sum (Q6.2 ⟨p,h,rfl⟩)
theorem fzJ_en{js:List (AV × List En)}{p:AV × List En}{e:En}(h:p∈js)(he:e∈p.2):e.fz<=fzJ js:=by
 have h1:=fzJ_mem h
 have h2:e.fz<=(p.2.map En.fz).sum:=mem_sum (Q6.2 ⟨e,he,rfl⟩)
 omega
theorem UT(js:List (AV × List En)):js.length<=fzJ js:=by
 unfold fzJ
 induction js with
 | nil=>simp
 | cons p js ih=>simp only[Q4,Zq,QC];omega
theorem tot_take{js:List (AV × List En)}{k:Nat}{p:AV × List En}(hp:js[k]?=some p):tot (js.take (k+1))=tot (js.take k)+p.2.length:=by
 unfold tot
 rw[QT,hp];simp
theorem tot_le(js:List (AV × List En))(k:Nat):tot (js.take k)<=tot js:=by
 have:tot js=tot (js.take k)+tot (js.drop k):=by
  unfold tot
  rw[<-List.sum_append_nat,<-QQ,Zb]
 omega
theorem addI(x y:Int):Vr false .add (.int .i64 x) (.int .i64 y)=some (.int .i64 (aw x y)):=rfl
theorem addN{i j:Nat}(h:i+j<=9223372036854775807):Vr false .add (ZI i) (ZI j)=some (ZI ((i+j))):=by
 show some (AV.int .i64 (wr .i64 (.ofNat (i+j))))=_
 rw[wr_nat h]
theorem leqI(x y:Int):Vr false .leq (.int .i64 x) (.int .i64 y)=some (.bool (decide (x<=y))):=rfl
theorem eqlI(x y:Int):Vr false .eql (.int .i64 x) (.int .i64 y)=some (.bool (x==y)):=rfl
def wg7_0:List Vc:=[ZM 2 (ZB false)]
def wg7_1:List Vc:=[ZM 3 (ZC 0)]
def wg7_2:List Vc:=[ZV 6 0,ZN 7 6,ZM 8 (ZC 0)]
def wg7_3:List Vc:=[ZO 9 (.bin false .lss (.t 8) (.t 7))]
def wg7_4:List Vc:=[ZP 10 1 6 8,ZL 11 10,ZV 5 11]
def wg7_5:List Vc:=[ZV 12 3,ZV 13 5,ZN 14 13,ZO 15 (.bin false .add (.t 12) (.t 14)),ZV 3 15]
def wg7_6:List Vc:=[ZO 16 (.bin false .add (.t 8) (ZC 1)),ZV 8 16]
def wg7_7:List Vc:=[ZV 17 3,ZO 18 (.bin false .leq (.t 17) (ZC 80)),ZV 19 18,ZG 20 (.mv (.t 0)) 19 true,ZG 21 (.len 0 (.t 20)) 19 true,ZG 22 (.bin false .leq (.t 21) (ZC 12)) 19 true,ZO 23 (.pick (.t 19) (.t 22) (ZB false)),ZV 2 23]
def wl7_0:Vn:=(ZQ wg7_3 (.seq (.cond (.t 9) .skip (.exit 0)) (.seq (.block 1 (ZQ wg7_4 (.region wg7_5))) (.region wg7_6))))
def wf7:Vm:=⟨24,(ZQ wg7_0 (ZQ wg7_1 (.seq (ZQ wg7_2 (.block 0 (.loop wl7_0))) (ZR wg7_7)))),[.t 2]⟩
theorem t7:tbl 7=some wf7:=by kernel_rfl
theorem little_run{F:Nat->Prop}{st:St}{jv:AV}{js:List (AV × List En)}(hj:YQ F st jv js)(m:Nat)(Y:Vi)(hn:js.length < m):
  ∃ b,R (m+1) Y 7 [jv] st=.ret (.bool b) st:=by
 obtain⟨h1,h2⟩:=hj
 have hln:=h1.len
 rw[Qu] at hln
 have hb:=h1.2.2.1
 rw[Qu] at hb
 have hL:∀(fr:Fr),fr.ds=[]->fr.get 0=some jv->fr.get 3=some Z0->fr.get 6=some jv->fr.get 7=some (ZI js.length)->fr.get 8=some Z0 ->
   ∃ FR x,FR.ds=[]/\FR.get 0=some jv/\FR.get 3=some (.int .i64 x)/\Vx (ac m Y wl7_0 none) m fr st=.exit 0 FR st:=by
  intro fr d0 g0 g3 g6 g7 g8
  refine Ws (B:=ac m Y wl7_0 none) (N:=js.length) (Inv:=fun k fr st1=>fr.ds=[]/\fr.get 0=some jv/\(∃ x,fr.get 3=some (.int .i64 x))/\fr.get 6=some jv/\fr.get 7=some (ZI js.length)/\fr.get 8=some (ZI k)/\st1=st)
   (Out:=fun r=>∃ FR x,FR.ds=[]/\FR.get 0=some jv/\FR.get 3=some (.int .i64 x)/\r=.exit 0 FR st) ?_ js.length 0 fr st m (by omega) (by omega) ⟨d0,g0,⟨_,g3⟩,g6,g7,g8,rfl⟩
  intro k fr st1 hk ⟨d0,g0,⟨x,g3⟩,g6,g7,g8,hst⟩
  subst hst
  have hlt:=Wt k js.length
  by_cases hkN:k < js.length
  ·have hx:js[k]?=some js[k]:=Qn hkN
   generalize js[k]=p at hx
   obtain⟨pa,ia,ld⟩:=SlN.at1 (xs:=js.map Prod.fst) (by rw[Xq];exact h1) (k:=k) (x:=p.1) (by rw[Q5,hx];rfl)
   have ld:=ld st1 (Vs.refl _ _)
   have hl2:=(h2 p (Qr hx)).1.len st1
   have had:=WC (i:=k) (by omega)
   have ha:=addI x (.ofNat (p.2.map En.cells).length)
   rw[Qs hkN] at hlt
   obtain⟨J1,H1,O1_9⟩:∃ fr',ar m Y wg7_3 fr st1=.ok fr' st1/\fr'.get 9=some (.bool true):=⟨_,by simp only[amE,rQ,↓reduceIte,rA,g7,g8,wg7_3,hlt]<;>rfl,gh⟩
   have V1_0:=ag H1 g0
   have V1_3:=ag H1 g3
   have V1_6:=ag H1 g6
   have V1_7:=ag H1 g7
   have V1_8:=ag H1 g8
   have W1:=ad H1 d0
   obtain⟨J2,H2,O2_5⟩:∃ fr',ar m Y wg7_4 J1 st1=.ok fr' st1/\fr'.get 5=some (p.1):=⟨_,by simp only[amE,rQ,↓reduceIte,rA,V1_6,V1_8,wg7_4,ia,ld]<;>rfl,gh⟩
   have V2_0:=ag H2 V1_0
   have V2_3:=ag H2 V1_3
   have V2_6:=ag H2 V1_6
   have V2_7:=ag H2 V1_7
   have V2_8:=ag H2 V1_8
   have W2:=ad H2 W1
   obtain⟨J3,H3,O3_3⟩:∃ fr',ar m Y wg7_5 J2 st1=.ok fr' st1/\fr'.get 3=some (.int .i64 (aw x (.ofNat (p.2.map En.cells).length))):=⟨_,by simp only[amE,rQ,↓reduceIte,rA,V2_3,O2_5,wg7_5,hl2,ha]<;>rfl,gh⟩
   have V3_0:=ag H3 V2_0
   have V3_6:=ag H3 V2_6
   have V3_7:=ag H3 V2_7
   have V3_8:=ag H3 V2_8
   have W3:=ad H3 W2
   obtain⟨J4,H4,O4_8⟩:∃ fr',ar m Y wg7_6 J3 st1=.ok fr' st1/\fr'.get 8=some (ZI ((k+1))):=⟨_,by simp only[amE,rQ,↓reduceIte,rA,V3_8,wg7_6,had]<;>rfl,gh⟩
   have V4_0:=ag H4 V3_0
   have V4_6:=ag H4 V3_6
   have V4_7:=ag H4 V3_7
   have V4_3:=ag H4 O3_3
   have W4:=ad H4 W3
   have hI4:ac m Y wl7_0 none fr st1=.norm J4 st1:=by
    simp only[amE,rQ,↓reduceIte,rA,wl7_0,b00,b11,b22,b33,H1,H2,H3,H4,O1_9]
   rw[hI4]
   exact⟨hkN,W4,V4_0,⟨_,V4_3⟩,V4_6,V4_7,O4_8,rfl⟩
  ·rw[Qp hkN] at hlt
   obtain⟨J5,H5,O5_9⟩:∃ fr',ar m Y wg7_3 fr st1=.ok fr' st1/\fr'.get 9=some (.bool false):=⟨_,by simp only[amE,rQ,↓reduceIte,rA,g7,g8,wg7_3,hlt]<;>rfl,gh⟩
   have V5_0:=ag H5 g0
   have V5_3:=ag H5 g3
   have W5:=ad H5 d0
   have hI5:ac m Y wl7_0 none fr st1=.exit 0 J5 st1:=by
    simp only[amE,rQ,↓reduceIte,rA,wl7_0,b00,b11,b22,b33,H5,O5_9]
   rw[hI5]
   exact⟨_,_,W5,V5_0,V5_3,rfl⟩
 obtain⟨fA6,hA6⟩:∃ fA,fA=Vo 0 [jv] Fr.nil:=⟨_,rfl⟩
 have gA6_0:=gAt hA6 0
 have dA6:fA6.ds=[]:=by rw[hA6];rfl
 obtain⟨J7,H7⟩:∃ fr',ar m Y wg7_0 fA6 st=.ok fr' st:=⟨_,by simp only[amE,rQ,↓reduceIte,rA,wg7_0]<;>rfl⟩
 have V7_0:=ag H7 gA6_0
 have W7:=ad H7 dA6
 obtain⟨J8,H8,O8_3⟩:∃ fr',ar m Y wg7_1 J7 st=.ok fr' st/\fr'.get 3=some Z0:=⟨_,by simp only[amE,rQ,↓reduceIte,rA,wg7_1]<;>rfl,gh⟩
 have V8_0:=ag H8 V7_0
 have W8:=ad H8 W7
 obtain⟨J9,H9,O9_6,O9_7,O9_8⟩:∃ fr',ar m Y wg7_2 J8 st=.ok fr' st/\fr'.get 6=some (jv)/\fr'.get 7=some (ZI js.length)/\fr'.get 8=some Z0:=⟨_,by simp only[amE,rQ,↓reduceIte,rA,V8_0,wg7_2,hln st]<;>rfl,gn (gn gh),gn gh,gh⟩
 have V9_0:=ag H9 V8_0
 have V9_3:=ag H9 O8_3
 have W9:=ad H9 W8
 obtain⟨FR,x,dF,F0,F3,hL⟩:=hL J9 W9 V9_0 V9_3 O9_6 O9_7 O9_8
 have c1:=leqI x (.ofNat 80)
 have c2:=leqN js.length 12
 generalize decide (x<=Int.ofNat 80)=A at *
 generalize decide (js.length<=12)=B at *
 obtain⟨J11,H11,O11_2⟩:∃ fr',ar m Y wg7_7 FR st=.ok fr' st/\fr'.get 2=some (.bool (A&&B)):=by cases A<;>exact⟨_,by simp only[amE,rQ,↓reduceIte,rA,F0,F3,wg7_7,hln,c1,c2,Qc,Qb]<;>rfl,by simp only[Fr.get_set,rQ,↓reduceIte,amB,Qc,Qb]⟩
 have W11:=ad H11 dF
 refine⟨A&&B,Ve (mf:=wf7) (fr:=J11) t7 rfl (.inl ?q11) W11 (by simp only[wf7,amE,O11_2])⟩
 case q11=>
  rw[<-hA6]
  simp only[amE,rQ,↓reduceIte,rA,wf7,b00,b11,b22,b33,H7,H8,H9,hL,H11]
def wg9_0:List Vc:=[ZO 2 (.box true (.t 0)),ZM 4 (ZB false)]
def wg9_1:List Vc:=[ZV 9 1,ZN 10 9,ZA 11 2 2,ZL 12 11,ZO 13 (.bin false .neq (.t 10) (.t 12))]
def wg9_2:List Vc:=[ZM 4 (ZB false)]
def wg9_3:List Vc:=[ZM 5 (ZC 0)]
def wg9_4:List Vc:=[ZM 6 (ZC 0)]
def wg9_5:List Vc:=[ZV 14 6,ZV 15 1,ZN 16 15,ZO 17 (.bin false .lss (.t 14) (.t 16))]
def wg9_6:List Vc:=[ZV 20 5,ZV 21 1,ZV 22 6,ZP 23 1 21 22,ZL 24 23,ZN 25 24,ZO 26 (.bin false .add (.t 20) (.t 25)),ZV 5 26]
def wg9_7:List Vc:=[ZV 27 5,ZO 28 (.bin false .gtr (.t 27) (ZC 4000))]
def wg9_8:List Vc:=[ZM 4 (ZB false)]
def wg9_9:List Vc:=[ZM 7 (ZC 0)]
def wg9_10:List Vc:=[ZV 29 7,ZV 30 1,ZV 31 6,ZP 32 1 30 31,ZL 33 32,ZN 34 33,ZO 35 (.bin false .lss (.t 29) (.t 34))]
def wg9_11:List (Vc × Nat):=[(ZA 38 0 2,0),(ZL 39 38,1),(ZN 40 39,3),(ZV 41 1,0),(ZV 42 6,0),(ZP 43 1 41 42,24),(ZL 44 43,56),(ZV 45 7,0),(ZP 46 9 44 45,248),(ZK 47 9 46,504),(ZX 48 28 [(.t 40),(.t 47)],1023),(ZV 8 48,2047)]
def wg9_12:List Vc:=[ZV 49 8,ZO 50 (.un .not (.t 49))]
def wg9_13:List Vc:=[ZM 4 (ZB false)]
def wg9_14:List Vc:=[ZV 36 7,ZO 37 (.bin false .add (.t 36) (ZC 1)),ZV 7 37]
def wg9_15:List Vc:=[ZV 18 6,ZO 19 (.bin false .add (.t 18) (ZC 1)),ZV 6 19]
def wg9_16:List Vc:=[ZM 4 (ZB true)]
def Uy:Vn:=(.seq (ZQ wg9_10 (.cond (.t 35) .skip (.exit 2))) (.seq (.block 3 (.seq (.draw wg9_11 []) (ZQ wg9_12 (.cond (.t 50) (ZR wg9_13) .skip)))) (.region wg9_14)))
def Kr:Vn:=(.seq (ZQ wg9_5 (.cond (.t 17) .skip (.exit 0))) (.seq (.block 1 (ZQ wg9_6 (.seq (ZQ wg9_7 (.cond (.t 28) (ZR wg9_8) .skip)) (ZQ wg9_9 (.block 2 (.loop Uy)))))) (.region wg9_15)))
def wf9:Vm:=⟨51,(ZQ wg9_0 (.seq (ZQ wg9_1 (.cond (.t 13) (ZR wg9_2) .skip)) (ZQ wg9_3 (.seq (ZQ wg9_4 (.block 0 (.loop Kr))) (ZR wg9_16))))),[.t 4]⟩
theorem t9:tbl 9=some wf9:=by kernel_rfl
def JK(k:Nat)(N:Int)(js:List (AV × List En)):Bool:=decide ((js.length:Int)=N)&&decide (tot js<=4000)&&js.all fun p=>p.2.all (En.good k)
theorem areJ_run{F:Nat->Prop}{st:St}{lv pv jv:AV}{ls:List (List AV)}{N:Int}{js:List (AV × List En)}(hl:SlN 1 F st lv ls)(hj:YQ F st jv js)(hF:∀ i,F i->i < st.next)(m:Nat)(Y:Vi)(hn:fzJ js < m):
  ∃ st',R (m+2) Y 9 [.agg [lv,pv,.int .i64 N],jv] st=.ret (.bool (JK ls.length N js)) st'/\Vd st st':=by
 obtain⟨h1,h2⟩:=hj
 have hln:=h1.len
 rw[Qu] at hln
 have hb:=h1.2.2.1
 rw[Qu] at hb
 have hjl:=UT js
 have hll:=hl.len
 have h1':SlN 1 F st jv ((js.map Prod.fst).map fun x=>[x]):=by rw[Xq];exact h1
 -- the entries of one journal
 have hI:∀(i:Nat) (p:AV × List En) (x:AV),js[i]?=some p->∀(fr:Fr) (st0:St),Vd st st0->fr.ds=[]->fr.get 1=some jv->fr.get 2=some (.fptr [lv,pv,.int .i64 N] 0)->fr.get 5=some x->fr.get 6=some (ZI i)->fr.get 7=some Z0 ->
   ∃ FR st',Vd st st'/\FR.ds=[]/\((Vx (ac (m+1) Y Uy none) (m+1) fr st0=.exit 2 FR st'/\p.2.all (En.good ls.length)=true/\FR.get 1=some jv/\FR.get 2=some (.fptr [lv,pv,.int .i64 N] 0)/\FR.get 5=some x/\FR.get 6=some (ZI i)) ∨
    (Vx (ac (m+1) Y Uy none) (m+1) fr st0=.ret FR st'/\p.2.all (En.good ls.length)=false/\FR.get 4=some (.bool false))):=by
  intro i p x hi fr st0 k0 d0 g1 g2 g5 g6 g7
  have hp:=Qr hi
  obtain⟨e1,e2⟩:=h2 p hp
  have hel:=e1.len
  rw[Qu] at hel
  have heb:=e1.2.2.1
  rw[Qu] at heb
  have hfp:=fzJ_mem hp
  obtain⟨pa,ia,lda⟩:=SlN.at1 h1' (k:=i) (x:=p.1) (by rw[Q5,hi];rfl)
  refine Ws (B:=ac (m+1) Y Uy none) (N:=p.2.length) (Inv:=fun k fr st1=>fr.ds=[]/\fr.get 1=some jv/\fr.get 2=some (.fptr [lv,pv,.int .i64 N] 0)/\fr.get 5=some x/\fr.get 6=some (ZI i)/\fr.get 7=some (ZI k)/\Vd st st1/\(p.2.take k).all (En.good ls.length)=true)
   (Out:=fun r=>∃ FR st',Vd st st'/\FR.ds=[]/\((r=.exit 2 FR st'/\p.2.all (En.good ls.length)=true/\FR.get 1=some jv/\FR.get 2=some (.fptr [lv,pv,.int .i64 N] 0)/\FR.get 5=some x/\FR.get 6=some (ZI i)) ∨
    (r=.ret FR st'/\p.2.all (En.good ls.length)=false/\FR.get 4=some (.bool false)))) ?_ p.2.length 0 fr st0 (m+1) (by omega) (by omega) ⟨d0,g1,g2,g5,g6,g7,k0,rfl⟩
  intro k fr st1 hk ⟨d0,g1,g2,g5,g6,g7,kp,hall⟩
  have hlt:=Wt k p.2.length
  have hS:=Vs.of kp hF
  have lda:=lda st1 hS
  by_cases hkN:k < p.2.length
  ·have hx:p.2[k]?=some p.2[k]:=Qn hkN
   generalize p.2[k]=e at hx
   obtain⟨pe,ie,lde⟩:=e1.at (k:=k) (x:=e.cells) (by rw[Q5,hx];rfl)
   have lde:=lde st1 hS
   have had:=WC (i:=k) (by omega)
   have hat:=YR (En.good ls.length) p.2 k e hx
   rw[hall,Q3] at hat
   have hem:=Qr hx
   obtain⟨st2,c1,k2⟩:=entry_run e (e2 e hem) ls.length m Y st1 (by have:=fzJ_en hp hem;omega)
   have c1':((gT (m+1)).cg Y).fn 28 [ZI ls.length,.agg e.cells] st1=.ret (.bool (e.good ls.length)) st2:=c1
   rw[Qs hkN] at hlt
   generalize e.good ls.length=B at *
   obtain⟨J12,H12,O12_35⟩:∃ fr',ar (m+1) Y wg9_10 fr st1=.ok fr' st1/\fr'.get 35=some (.bool true):=⟨_,by simp only[amE,rQ,↓reduceIte,rA,g1,g6,g7,wg9_10,ia,lda,hel,hlt]<;>rfl,gh⟩
   have V12_1:=ag H12 g1
   have V12_2:=ag H12 g2
   have V12_5:=ag H12 g5
   have V12_6:=ag H12 g6
   have V12_7:=ag H12 g7
   have W12:=ad H12 d0
   obtain⟨J13,H13,K13,O13_8⟩:∃ fr',VK ((gT (m+1)).cg Y) wg9_11 [] J12 st1=.ok fr' st2/\Kp [1,2,5,6,7,35] J12 fr'/\fr'.get 8=some (.bool B):=⟨_,Wj rfl (by simp only[amE,rQ,↓reduceIte,rA,V12_1,V12_2,V12_6,V12_7,wg9_11,faF,YV,hll,ia,lda,ie,lde,c1']<;>rfl),Kp.refl.s.s.s.s.s.s.s.s.s.s.s.s,gh⟩
   have V13_1:=K13.g 1 V12_1
   have V13_2:=K13.g 2 V12_2
   have V13_5:=K13.g 5 V12_5
   have V13_6:=K13.g 6 V12_6
   have V13_7:=K13.g 7 V12_7
   have W13:=K13.1.trans W12
   obtain⟨J14,H14,O14_50⟩:∃ fr',ar (m+1) Y wg9_12 J13 st2=.ok fr' st2/\fr'.get 50=some (.bool (!B)):=⟨_,by simp only[amE,rQ,↓reduceIte,rA,O13_8,wg9_12,WN,Qc,Qb]<;>rfl,gh⟩
   have V14_1:=ag H14 V13_1
   have V14_2:=ag H14 V13_2
   have V14_5:=ag H14 V13_5
   have V14_6:=ag H14 V13_6
   have V14_7:=ag H14 V13_7
   have W14:=ad H14 W13
   generalize hC15:(!B)=C15 at *
   cases C15 with
   | true=>
    obtain⟨J16,H16,O16_4⟩:∃ fr',ar (m+1) Y wg9_13 J14 st2=.ok fr' st2/\fr'.get 4=some (.bool false):=⟨_,by simp only[amE,rQ,↓reduceIte,rA,wg9_13]<;>rfl,gh⟩
    have W16:=ad H16 W14
    have hI16:ac (m+1) Y Uy none fr st1=.ret J16 st2:=by
     simp only[amE,rQ,↓reduceIte,rA,Uy,b00,b11,b22,b33,H12,H13,H14,H16,O12_35,O14_50]
    rw[hI16]
    exact⟨_,_,kp.trans k2,W16,.inr ⟨rfl,WV (k:=k+1) (by rw[hat];simpa using hC15),O16_4⟩⟩
   | false=>
    obtain⟨J17,H17,O17_7⟩:∃ fr',ar (m+1) Y wg9_14 J14 st2=.ok fr' st2/\fr'.get 7=some (ZI ((k+1))):=⟨_,by simp only[amE,rQ,↓reduceIte,rA,V14_7,wg9_14,had]<;>rfl,gh⟩
    have V17_1:=ag H17 V14_1
    have V17_2:=ag H17 V14_2
    have V17_5:=ag H17 V14_5
    have V17_6:=ag H17 V14_6
    have W17:=ad H17 W14
    have hI17:ac (m+1) Y Uy none fr st1=.norm J17 st2:=by
     simp only[amE,rQ,↓reduceIte,rA,Uy,b00,b11,b22,b33,H12,H13,H14,H17,O12_35,O14_50]
    rw[hI17]
    exact⟨hkN,W17,V17_1,V17_2,V17_5,V17_6,O17_7,kp.trans k2,by rw[hat];simpa using hC15⟩
  ·rw[Qp hkN] at hlt
   have hkl:k=p.2.length:=by omega
   rw[hkl,QH] at hall
   obtain⟨J18,H18,O18_35⟩:∃ fr',ar (m+1) Y wg9_10 fr st1=.ok fr' st1/\fr'.get 35=some (.bool false):=⟨_,by simp only[amE,rQ,↓reduceIte,rA,g1,g6,g7,wg9_10,ia,lda,hel,hlt]<;>rfl,gh⟩
   have V18_1:=ag H18 g1
   have V18_2:=ag H18 g2
   have V18_5:=ag H18 g5
   have V18_6:=ag H18 g6
   have W18:=ad H18 d0
   have hI18:ac (m+1) Y Uy none fr st1=.exit 2 J18 st1:=by
    simp only[amE,rQ,↓reduceIte,rA,Uy,b00,b11,b22,b33,H18,O18_35]
   rw[hI18]
   exact⟨_,_,kp,W18,.inl ⟨rfl,hall,V18_1,V18_2,V18_5,V18_6⟩⟩
 have hO:∀(fr:Fr),fr.ds=[]->fr.get 1=some jv->fr.get 2=some (.fptr [lv,pv,.int .i64 N] 0)->fr.get 5=some Z0->fr.get 6=some Z0 ->
   ∃ FR st',Vd st st'/\FR.ds=[]/\((Vx (ac (m+1) Y Kr none) (m+1) fr st=.exit 0 FR st'/\(decide (tot js<=4000)&&js.all fun p=>p.2.all (En.good ls.length))=true) ∨
    (Vx (ac (m+1) Y Kr none) (m+1) fr st=.ret FR st'/\(decide (tot js<=4000)&&js.all fun p=>p.2.all (En.good ls.length))=false/\FR.get 4=some (.bool false))):=by
  intro fr d0 g1 g2 g5 g6
  refine Ws (B:=ac (m+1) Y Kr none) (N:=js.length) (Inv:=fun k fr st1=>fr.ds=[]/\fr.get 1=some jv/\fr.get 2=some (.fptr [lv,pv,.int .i64 N] 0)/\fr.get 5=some (ZI ((tot (js.take k))))/\fr.get 6=some (ZI k)/\Vd st st1/\tot (js.take k)<=4000/\((js.take k).all fun p=>p.2.all (En.good ls.length))=true)
   (Out:=fun r=>∃ FR st',Vd st st'/\FR.ds=[]/\((r=.exit 0 FR st'/\(decide (tot js<=4000)&&js.all fun p=>p.2.all (En.good ls.length))=true) ∨
    (r=.ret FR st'/\(decide (tot js<=4000)&&js.all fun p=>p.2.all (En.good ls.length))=false/\FR.get 4=some (.bool false)))) ?_ js.length 0 fr st (m+1) (by omega) (by omega) ⟨d0,g1,g2,g5,g6,Vd.refl st,by simp[tot],rfl⟩
  intro i fr st1 hk ⟨d0,g1,g2,g5,g6,kp,ht,hall⟩
  have hlt:=Wt i js.length
  have hS:=Vs.of kp hF
  by_cases hiN:i < js.length
  ·have hx:js[i]?=some js[i]:=Qn hiN
   generalize js[i]=p at hx
   have hp:=Qr hx
   obtain⟨pa,ia,lda⟩:=SlN.at1 h1' (k:=i) (x:=p.1) (by rw[Q5,hx];rfl)
   have lda:=lda st1 hS
   obtain⟨e1,e2⟩:=h2 p hp
   have hel:=e1.len st1
   rw[Qu] at hel
   have heb:=e1.2.2.1
   rw[Qu] at heb
   have had:=WC (i:=i) (by omega)
   have ha:=addN (i:=tot (js.take i)) (j:=p.2.length) (by omega)
   have htt:=tot_take hx
   have hgt:=gtrN (tot (js.take i)+p.2.length) 4000
   have hat:=YR (fun p:AV × List En=>p.2.all (En.good ls.length)) js i p hx
   rw[hall,Q3] at hat
   have htl:=tot_le js (i+1)
   rw[Qs hiN] at hlt
   by_cases hbig:4000 < tot (js.take i)+p.2.length
   ·rw[Qs hbig] at hgt
    have hf:(decide (tot js<=4000)&&js.all fun p=>p.2.all (En.good ls.length))=false:=by rw[Qp (by omega)];rfl
    obtain⟨J19,H19,O19_17⟩:∃ fr',ar (m+1) Y wg9_5 fr st1=.ok fr' st1/\fr'.get 17=some (.bool true):=⟨_,by simp only[amE,rQ,↓reduceIte,rA,g1,g6,wg9_5,hln,hlt]<;>rfl,gh⟩
    have V19_1:=ag H19 g1
    have V19_5:=ag H19 g5
    have V19_6:=ag H19 g6
    have W19:=ad H19 d0
    obtain⟨J20,H20,O20_5⟩:∃ fr',ar (m+1) Y wg9_6 J19 st1=.ok fr' st1/\fr'.get 5=some (ZI ((tot (js.take i)+p.2.length))):=⟨_,by simp only[amE,rQ,↓reduceIte,rA,V19_1,V19_5,V19_6,wg9_6,ia,lda,hel,ha]<;>rfl,gh⟩
    have W20:=ad H20 W19
    obtain⟨J21,H21,O21_28⟩:∃ fr',ar (m+1) Y wg9_7 J20 st1=.ok fr' st1/\fr'.get 28=some (.bool true):=⟨_,by simp only[amE,rQ,↓reduceIte,rA,O20_5,wg9_7,hgt]<;>rfl,gh⟩
    have W21:=ad H21 W20
    obtain⟨J22,H22,O22_4⟩:∃ fr',ar (m+1) Y wg9_8 J21 st1=.ok fr' st1/\fr'.get 4=some (.bool false):=⟨_,by simp only[amE,rQ,↓reduceIte,rA,wg9_8]<;>rfl,gh⟩
    have W22:=ad H22 W21
    have hI22:ac (m+1) Y Kr none fr st1=.ret J22 st1:=by
     simp only[amE,rQ,↓reduceIte,rA,Kr,b00,b11,b22,b33,H19,H20,H21,H22,O19_17,O21_28]
    rw[hI22]
    exact⟨_,_,kp,W22,.inr ⟨rfl,hf,O22_4⟩⟩
   ·rw[Qp hbig] at hgt
    obtain⟨J23,H23,O23_17⟩:∃ fr',ar (m+1) Y wg9_5 fr st1=.ok fr' st1/\fr'.get 17=some (.bool true):=⟨_,by simp only[amE,rQ,↓reduceIte,rA,g1,g6,wg9_5,hln,hlt]<;>rfl,gh⟩
    have V23_1:=ag H23 g1
    have V23_2:=ag H23 g2
    have V23_5:=ag H23 g5
    have V23_6:=ag H23 g6
    have W23:=ad H23 d0
    obtain⟨J24,H24,O24_5⟩:∃ fr',ar (m+1) Y wg9_6 J23 st1=.ok fr' st1/\fr'.get 5=some (ZI ((tot (js.take i)+p.2.length))):=⟨_,by simp only[amE,rQ,↓reduceIte,rA,V23_1,V23_5,V23_6,wg9_6,ia,lda,hel,ha]<;>rfl,gh⟩
    have V24_1:=ag H24 V23_1
    have V24_2:=ag H24 V23_2
    have V24_6:=ag H24 V23_6
    have W24:=ad H24 W23
    obtain⟨J25,H25,O25_28⟩:∃ fr',ar (m+1) Y wg9_7 J24 st1=.ok fr' st1/\fr'.get 28=some (.bool false):=⟨_,by simp only[amE,rQ,↓reduceIte,rA,O24_5,wg9_7,hgt]<;>rfl,gh⟩
    have V25_1:=ag H25 V24_1
    have V25_2:=ag H25 V24_2
    have V25_6:=ag H25 V24_6
    have V25_5:=ag H25 O24_5
    have W25:=ad H25 W24
    obtain⟨J26,H26,O26_7⟩:∃ fr',ar (m+1) Y wg9_9 J25 st1=.ok fr' st1/\fr'.get 7=some Z0:=⟨_,by simp only[amE,rQ,↓reduceIte,rA,wg9_9]<;>rfl,gh⟩
    have V26_1:=ag H26 V25_1
    have V26_2:=ag H26 V25_2
    have V26_6:=ag H26 V25_6
    have V26_5:=ag H26 V25_5
    have W26:=ad H26 W25
    obtain⟨FR,st2,k2,dF,hL⟩:=hI i p _ hx J26 st1 kp W26 V26_1 V26_2 V26_5 V26_6 O26_7
    rcases hL with⟨hL,hal,F1,F2,F5,F6⟩|⟨hL,hal,F4⟩
    ·rw[hal] at hat
     obtain⟨J28,H28,O28_6⟩:∃ fr',ar (m+1) Y wg9_15 FR st2=.ok fr' st2/\fr'.get 6=some (ZI ((i+1))):=⟨_,by simp only[amE,rQ,↓reduceIte,rA,F6,wg9_15,had]<;>rfl,gh⟩
     have V28_1:=ag H28 F1
     have V28_2:=ag H28 F2
     have V28_5:=ag H28 F5
     have W28:=ad H28 dF
     have hI28:ac (m+1) Y Kr none fr st1=.norm J28 st2:=by
      simp only[amE,rQ,↓reduceIte,rA,Kr,b00,b11,b22,b33,H23,H24,H25,H26,hL,H28,O23_17,O25_28]
     rw[hI28]
     exact⟨hiN,W28,V28_1,V28_2,by rw[htt];exact V28_5,O28_6,k2,by omega,hat⟩
    ·rw[hal] at hat
     have hI29:ac (m+1) Y Kr none fr st1=.ret FR st2:=by
      simp only[amE,rQ,↓reduceIte,rA,Kr,b00,b11,b22,b33,H23,H24,H25,H26,hL,O23_17,O25_28]
     rw[hI29]
     exact⟨_,_,k2,dF,.inr ⟨rfl,by rw[WV (k:=i+1) hat,QK],F4⟩⟩
  ·rw[Qp hiN] at hlt
   have hkl:i=js.length:=by omega
   rw[hkl,QH] at hall ht
   obtain⟨J30,H30,O30_17⟩:∃ fr',ar (m+1) Y wg9_5 fr st1=.ok fr' st1/\fr'.get 17=some (.bool false):=⟨_,by simp only[amE,rQ,↓reduceIte,rA,g1,g6,wg9_5,hln,hlt]<;>rfl,gh⟩
   have W30:=ad H30 d0
   have hI30:ac (m+1) Y Kr none fr st1=.exit 0 J30 st1:=by
    simp only[amE,rQ,↓reduceIte,rA,Kr,b00,b11,b22,b33,H30,O30_17]
   rw[hI30]
   exact⟨_,_,kp,W30,.inl ⟨rfl,by rw[hall,Qs ht];rfl⟩⟩
 have hne:Vr false .neq (ZI js.length) (.int .i64 N)=some (.bool (!decide ((js.length:Int)=N))):=by
  rw[Yk];rfl
 unfold JK
 rw[Bool.and_assoc]
 generalize decide ((js.length:Int)=N)=A at *
 cases A with
 | false=>
  obtain⟨fA31,hA31⟩:∃ fA,fA=Vo 0 [.agg [lv,pv,.int .i64 N],jv] Fr.nil:=⟨_,rfl⟩
  have gA31_0:=gAt hA31 0
  have gA31_1:=gAt hA31 1
  have dA31:fA31.ds=[]:=by rw[hA31];rfl
  obtain⟨J32,H32,O32_2⟩:∃ fr',ar (m+1) Y wg9_0 fA31 st=.ok fr' st/\fr'.get 2=some (.fptr [lv,pv,.int .i64 N] 0):=⟨_,by simp only[amE,rQ,↓reduceIte,rA,gA31_0,wg9_0]<;>rfl,gn gh⟩
  have V32_1:=ag H32 gA31_1
  have W32:=ad H32 dA31
  obtain⟨J33,H33,O33_13⟩:∃ fr',ar (m+1) Y wg9_1 J32 st=.ok fr' st/\fr'.get 13=some (.bool true):=⟨_,by simp only[amE,rQ,↓reduceIte,rA,V32_1,O32_2,wg9_1,hln,faF,ld3_2,hne,Qb]<;>rfl,gh⟩
  have W33:=ad H33 W32
  obtain⟨J34,H34,O34_4⟩:∃ fr',ar (m+1) Y wg9_2 J33 st=.ok fr' st/\fr'.get 4=some (.bool false):=⟨_,by simp only[amE,rQ,↓reduceIte,rA,wg9_2]<;>rfl,gh⟩
  have W34:=ad H34 W33
  refine⟨_,Ve (mf:=wf9) (fr:=J34) t9 rfl (.inl ?q34) W34 (by simp only[wf9,amE,O34_4,Q8,Q3,Qy,QK,Qc,Qb]),Vd.refl st⟩
  case q34=>
   rw[<-hA31]
   simp only[amE,rQ,↓reduceIte,rA,wf9,b00,b11,b22,b33,H32,H33,H34,O33_13]
 | true=>
  obtain⟨fA35,hA35⟩:∃ fA,fA=Vo 0 [.agg [lv,pv,.int .i64 N],jv] Fr.nil:=⟨_,rfl⟩
  have gA35_0:=gAt hA35 0
  have gA35_1:=gAt hA35 1
  have dA35:fA35.ds=[]:=by rw[hA35];rfl
  obtain⟨J36,H36,O36_2⟩:∃ fr',ar (m+1) Y wg9_0 fA35 st=.ok fr' st/\fr'.get 2=some (.fptr [lv,pv,.int .i64 N] 0):=⟨_,by simp only[amE,rQ,↓reduceIte,rA,gA35_0,wg9_0]<;>rfl,gn gh⟩
  have V36_1:=ag H36 gA35_1
  have W36:=ad H36 dA35
  obtain⟨J37,H37,O37_13⟩:∃ fr',ar (m+1) Y wg9_1 J36 st=.ok fr' st/\fr'.get 13=some (.bool false):=⟨_,by simp only[amE,rQ,↓reduceIte,rA,V36_1,O36_2,wg9_1,hln,faF,ld3_2,hne,Qc]<;>rfl,gh⟩
  have V37_1:=ag H37 V36_1
  have V37_2:=ag H37 O36_2
  have W37:=ad H37 W36
  obtain⟨J38,H38,O38_5⟩:∃ fr',ar (m+1) Y wg9_3 J37 st=.ok fr' st/\fr'.get 5=some Z0:=⟨_,by simp only[amE,rQ,↓reduceIte,rA,wg9_3]<;>rfl,gh⟩
  have V38_1:=ag H38 V37_1
  have V38_2:=ag H38 V37_2
  have W38:=ad H38 W37
  obtain⟨J39,H39,O39_6⟩:∃ fr',ar (m+1) Y wg9_4 J38 st=.ok fr' st/\fr'.get 6=some Z0:=⟨_,by simp only[amE,rQ,↓reduceIte,rA,wg9_4]<;>rfl,gh⟩
  have V39_1:=ag H39 V38_1
  have V39_2:=ag H39 V38_2
  have V39_5:=ag H39 O38_5
  have W39:=ad H39 W38
  obtain⟨FR,st2,k2,dF,hL⟩:=hO J39 W39 V39_1 V39_2 V39_5 O39_6
  rcases hL with⟨hL,hal⟩|⟨hL,hal,F4⟩
  ·rw[hal]
   obtain⟨J41,H41,O41_4⟩:∃ fr',ar (m+1) Y wg9_16 FR st2=.ok fr' st2/\fr'.get 4=some (.bool true):=⟨_,by simp only[amE,rQ,↓reduceIte,rA,wg9_16]<;>rfl,gh⟩
   have W41:=ad H41 dF
   refine⟨_,Ve (mf:=wf9) (fr:=J41) t9 rfl (.inl ?q41) W41 (by simp only[wf9,amE,O41_4,Q8,Q3,Qy,QK,Qc,Qb]),k2⟩
   case q41=>
    rw[<-hA35]
    simp only[amE,rQ,↓reduceIte,rA,wf9,b00,b11,b22,b33,H36,H37,H38,H39,hL,H41,O37_13]
  ·rw[hal]
   refine⟨_,Ve (mf:=wf9) (fr:=FR) t9 rfl (.inl ?q42) dF (by simp only[wf9,amE,F4,Q8,Q3,Qy,QK,Qc,Qb]),k2⟩
   case q42=>
    rw[<-hA35]
    simp only[amE,rQ,↓reduceIte,rA,wf9,b00,b11,b22,b33,H36,H37,H38,H39,hL,O37_13]
end
end Go.AM.D32
