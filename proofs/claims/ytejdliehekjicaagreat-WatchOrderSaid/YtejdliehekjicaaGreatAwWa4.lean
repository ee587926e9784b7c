import Derived.Test.YtejdliehekjicaaGreatAwWa2
set_option maxRecDepth 100000
set_option linter.unusedSimpArgs false
namespace Go.AM.D32
open Go Go.AM
noncomputable section
open Nat renaming reduceEqDiff -> rQ, reduceAdd -> rA
theorem Ws{B:Fr->St->CR}{N:Nat}{Inv:Nat->Fr->St->Prop}{Out:CR->Prop}
  (hS:∀ k fr st,k<=N->Inv k fr st->match B fr st with
   | .norm fr' st'=>k < N/\Inv (k+1) fr' st'
   | r=>Out r):∀(j k:Nat) (fr:Fr) (st:St) (fuel:Nat),k+j=N->j < fuel->Inv k fr st->Out (Vx B fuel fr st)
 | _,_,_,_,0,_,h,_=>by omega
 | j,k,fr,st,fuel+1,hk,hf,hi=>by
  have h:=hS k fr st (by omega) hi
  rw[Vx]
  revert h
  cases B fr st with
  | norm fr' st'=>
   intro h
   cases j with
   | zero=>exact absurd h.1 (by omega)
   | succ j=>exact Ws hS j (k+1) fr' st' fuel (by omega) (by omega) h.2
  | ret fr st=>exact fun h=>h
  | exit e fr st=>exact fun h=>h
  | pan fr v st=>exact fun h=>h
  | stuck=>exact fun h=>h
theorem b11:Nat.beq 1 1=true:=rfl
theorem b22:Nat.beq 2 2=true:=rfl
theorem b33:Nat.beq 3 3=true:=rfl
theorem b00:Nat.beq 0 0=true:=rfl
theorem gtrN(a b:Nat):Vr false .gtr (ZI a) (ZI b)=some (.bool (decide (b < a))):=by
 show some (AV.bool (decide ((Int.ofNat a) > Int.ofNat b)))=_
 congr 2
 simp
theorem leqN(a b:Nat):Vr false .leq (ZI a) (ZI b)=some (.bool (decide (a<=b))):=by
 show some (AV.bool (decide ((Int.ofNat a)<=Int.ofNat b)))=_
 congr 2
 simp
theorem neqN(a b:Nat):Vr false .neq (ZI a) (ZI b)=some (.bool (!decide (a=b))):=by
 rw[Yk]
 congr 2
 by_cases h:a=b
 ·rw[Qs h,h];simp
 ·rw[Qp h];simp only[Qb,bne_iff_ne,ne_eq];intro e;injection e with e;exact h e
theorem WV{α:Type}{p:α->Bool}{l:List α}{k:Nat}(h:(l.take k).all p=false):l.all p=false:=by
 cases hl:l.all p with
 | false=>rfl
 | true=>
  have:(l.take k).all p=true:=by
   rw[QB] at hl ⊢
   exact fun x hx=>hl x (XE hx)
  rw[this] at h;cases h
theorem YR{α:Type}(p:α->Bool)(l:List α)(k:Nat)(x:α)(hx:l[k]?=some x):(l.take (k+1)).all p=((l.take k).all p&&p x):=by
 rw[QT,hx];simp
def wg61_0:List Vc:=[ZM 2 (ZB false)]
def wg61_1:List Vc:=[ZV 5 0,ZN 6 5,ZO 7 (.bin false .gtr (.t 6) (ZC 8))]
def wg61_2:List Vc:=[ZM 2 (ZB false)]
def wg61_3:List Vc:=[ZM 3 (ZC 0)]
def wg61_4:List Vc:=[ZV 8 3,ZV 9 0,ZN 10 9,ZO 11 (.bin false .lss (.t 8) (.t 10))]
def wg61_5:List Vc:=[ZV 14 0,ZV 15 3,ZP 16 3 14 15,ZK 17 3 16,ZX 18 105 [(.t 17)],ZV 4 18]
def wg61_6:List Vc:=[ZV 19 4,ZO 20 (.un .not (.t 19))]
def wg61_7:List Vc:=[ZM 2 (ZB false)]
def wg61_8:List Vc:=[ZV 12 3,ZO 13 (.bin false .add (.t 12) (ZC 1)),ZV 3 13]
def wg61_9:List Vc:=[ZM 2 (ZB true)]
def Kd:Vn:=(.seq (ZQ wg61_4 (.cond (.t 11) .skip (.exit 0))) (.seq (.block 1 (ZQ wg61_5 (ZQ wg61_6 (.cond (.t 20) (ZR wg61_7) .skip)))) (.region wg61_8)))
def wf61:Vm:=⟨21,(ZQ wg61_0 (.seq (ZQ wg61_1 (.cond (.t 7) (ZR wg61_2) .skip)) (.seq (ZQ wg61_3 (.block 0 (.loop Kd))) (ZR wg61_9)))),[.t 2]⟩
theorem t61:tbl 61=some wf61:=by kernel_rfl
theorem rvals_run{F:Nat->Prop}{st:St}{sl:AV}{xs:List (List AV)}{l:List Tm}(hsl:SlR F st sl xs)(hrs:Vy F st l xs)(hF:∀ i,F i->i < st.next)(m:Nat)(Y:Vi)(hn:Tm.fzL l+l.length+4002 < m):
  ∃ st',R (m+1) Y 61 [sl] st=.ret (.bool (decide (l.length<=8)&&l.all gr)) st'/\Vd st st':=by
 have hlx:=hrs.len
 have hln:=fun st'=>SlR.len hsl st'
 rw[hlx] at hln
 have cA:=gtrN l.length 8
 have hnot:decide (l.length<=8)=!decide (8 < l.length):=by by_cases h:l.length<=8<;>simp[h]<;>omega
 rw[hnot]
 have hL:∀(fr:Fr),fr.ds=[]->fr.get 0=some sl->fr.get 3=some Z0->∃ FR st',Vd st st'/\FR.ds=[] ∧
   ((Vx (ac m Y Kd none) m fr st=.exit 0 FR st'/\l.all gr=true)\/(Vx (ac m Y Kd none) m fr st=.ret FR st'/\FR.get 2=some (.bool false)/\l.all gr=false)):=by
  intro fr d0 g0 g3
  have hB:=hsl.2.1
  rw[hlx] at hB
  have hW:=Ws (B:=ac m Y Kd none) (N:=l.length) (Inv:=fun k fr st1=>fr.ds=[]/\fr.get 0=some sl/\fr.get 3=some (ZI k)/\Vd st st1/\(l.take k).all gr=true)
   (Out:=fun r=>∃ FR st',Vd st st'/\FR.ds=[]/\((r=.exit 0 FR st'/\l.all gr=true)\/(r=.ret FR st'/\FR.get 2=some (.bool false)/\l.all gr=false))) ?_ l.length 0 fr st m (by omega) (by omega) ⟨d0,g0,g3,Vd.refl st,rfl⟩
  ·exact hW
  ·intro k fr st1 hk ⟨d0,g0,g3,hkp,hall⟩
   have hlt:=Wt k l.length
   have hl1:=hln st1
   by_cases hkN:k < l.length
   ·have hx:l[k]?=some l[k]:=Qn hkN
    generalize l[k]=t at hx
    obtain⟨x,hx1,hx2⟩:=hrs.at hx
    obtain⟨p,ia,ld⟩:=hsl.at hx1
    have hS:=Vs.of hkp hF
    have ld:=ld st1 hS
    obtain⟨st2,hc,hk2⟩:=rGround_run t m Y F st1 x (hx2.mono hS (fun _ h=>h)) (fun i hi=>Qz (hF i hi) hkp.1) (by have:=Tm.fzL_mem (Qr hx);omega)
    have hc':((gT m).cg Y).fn 105 [.agg x] st1=.ret (.bool (gr t)) st2:=hc
    have had:=WC (i:=k) (by omega)
    have hat:=YR gr l k t hx
    rw[hall,Q3] at hat
    rw[Qs hkN] at hlt
    generalize hG:gr t=B at *
    obtain⟨J1,H1,O1_11⟩:∃ fr',ar m Y wg61_4 fr st1=.ok fr' st1/\fr'.get 11=some (.bool true):=⟨_,by simp only[amE,rQ,↓reduceIte,rA,g0,g3,wg61_4,hl1,hlt]<;>rfl,gh⟩
    have V1_0:=ag H1 g0
    have V1_3:=ag H1 g3
    have W1:=ad H1 d0
    obtain⟨J2,H2,O2_4⟩:∃ fr',ar m Y wg61_5 J1 st1=.ok fr' st2/\fr'.get 4=some (.bool B):=⟨_,by simp only[amE,rQ,↓reduceIte,rA,V1_0,V1_3,wg61_5,ia,ld,hc']<;>rfl,gh⟩
    have V2_0:=ag H2 V1_0
    have V2_3:=ag H2 V1_3
    have W2:=ad H2 W1
    obtain⟨J3,H3,O3_20⟩:∃ fr',ar m Y wg61_6 J2 st2=.ok fr' st2/\fr'.get 20=some (.bool (!B)):=⟨_,by simp only[amE,rQ,↓reduceIte,rA,O2_4,wg61_6,WN,Qc,Qb]<;>rfl,gh⟩
    have V3_0:=ag H3 V2_0
    have V3_3:=ag H3 V2_3
    have W3:=ad H3 W2
    generalize hC4:(!B)=C4 at *
    cases C4 with
    | true=>
     obtain⟨J5,H5,O5_2⟩:∃ fr',ar m Y wg61_7 J3 st2=.ok fr' st2/\fr'.get 2=some (.bool false):=⟨_,by simp only[amE,rQ,↓reduceIte,rA,wg61_7]<;>rfl,gh⟩
     have W5:=ad H5 W3
     have hI5:ac m Y Kd none fr st1=.ret J5 st2:=by
      simp only[amE,rQ,↓reduceIte,rA,Kd,b00,b11,H1,H2,H3,H5,O1_11,O3_20]
     rw[hI5]
     exact⟨_,_,hkp.trans hk2,W5,.inr ⟨rfl,O5_2,by
        have:(l.take (k+1)).all gr=false:=by rw[hat];simpa using hC4
        exact WV this⟩⟩
    | false=>
     obtain⟨J6,H6,O6_3⟩:∃ fr',ar m Y wg61_8 J3 st2=.ok fr' st2/\fr'.get 3=some (ZI ((k+1))):=⟨_,by simp only[amE,rQ,↓reduceIte,rA,V3_3,wg61_8,had]<;>rfl,gh⟩
     have V6_0:=ag H6 V3_0
     have W6:=ad H6 W3
     have hI6:ac m Y Kd none fr st1=.norm J6 st2:=by
      simp only[amE,rQ,↓reduceIte,rA,Kd,b00,b11,H1,H2,H3,H6,O1_11,O3_20]
     rw[hI6]
     exact⟨hkN,W6,V6_0,O6_3,hkp.trans hk2,by rw[hat];simpa using hC4⟩
   ·rw[Qp hkN] at hlt
    have hkl:k=l.length:=by omega
    subst hkl
    rw[QH] at hall
    obtain⟨J7,H7,O7_11⟩:∃ fr',ar m Y wg61_4 fr st1=.ok fr' st1/\fr'.get 11=some (.bool false):=⟨_,by simp only[amE,rQ,↓reduceIte,rA,g0,g3,wg61_4,hl1,hlt]<;>rfl,gh⟩
    have W7:=ad H7 d0
    have hI7:ac m Y Kd none fr st1=.exit 0 J7 st1:=by
     simp only[amE,rQ,↓reduceIte,rA,Kd,b00,b11,H7,O7_11]
    rw[hI7]
    exact⟨_,_,hkp,W7,.inl ⟨rfl,hall⟩⟩
 generalize decide (8 < l.length)=A at *
 obtain⟨fA8,hA8⟩:∃ fA,fA=Vo 0 [sl] Fr.nil:=⟨_,rfl⟩
 have gA8_0:=gAt hA8 0
 have dA8:fA8.ds=[]:=by rw[hA8];rfl
 obtain⟨J9,H9⟩:∃ fr',ar m Y wg61_0 fA8 st=.ok fr' st:=⟨_,by simp only[amE,rQ,↓reduceIte,rA,wg61_0]<;>rfl⟩
 have V9_0:=ag H9 gA8_0
 have W9:=ad H9 dA8
 obtain⟨J10,H10,O10_7⟩:∃ fr',ar m Y wg61_1 J9 st=.ok fr' st/\fr'.get 7=some (.bool A):=⟨_,by simp only[amE,rQ,↓reduceIte,rA,V9_0,wg61_1,hln st,cA]<;>rfl,gh⟩
 have V10_0:=ag H10 V9_0
 have W10:=ad H10 W9
 cases A with
 | true=>
  obtain⟨J11,H11,O11_2⟩:∃ fr',ar m Y wg61_2 J10 st=.ok fr' st/\fr'.get 2=some (.bool false):=⟨_,by simp only[amE,rQ,↓reduceIte,rA,wg61_2]<;>rfl,gh⟩
  have W11:=ad H11 W10
  refine⟨_,Ve (mf:=wf61) (fr:=J11) t61 rfl (.inl ?q11) W11 (by simp only[wf61,amE,O11_2,Q8,Q3,Qy,QK,Qc,Qb]),Vd.refl st⟩
  case q11=>
   rw[<-hA8]
   simp only[amE,rQ,↓reduceIte,rA,wf61,b00,H9,H10,H11,O10_7]
 | false=>
  obtain⟨J12,H12,O12_3⟩:∃ fr',ar m Y wg61_3 J10 st=.ok fr' st/\fr'.get 3=some Z0:=⟨_,by simp only[amE,rQ,↓reduceIte,rA,wg61_3]<;>rfl,gh⟩
  have V12_0:=ag H12 V10_0
  have W12:=ad H12 W10
  obtain⟨FR,st2,hk2,dF,hL⟩:=hL J12 W12 V12_0 O12_3
  rcases hL with⟨hL,hal⟩|⟨hL,gF,hal⟩
  ·rw[hal]
   obtain⟨J14,H14,O14_2⟩:∃ fr',ar m Y wg61_9 FR st2=.ok fr' st2/\fr'.get 2=some (.bool true):=⟨_,by simp only[amE,rQ,↓reduceIte,rA,wg61_9]<;>rfl,gh⟩
   have W14:=ad H14 dF
   refine⟨_,Ve (mf:=wf61) (fr:=J14) t61 rfl (.inl ?q14) W14 (by simp only[wf61,amE,O14_2,Q8,Q3,Qy,QK,Qc,Qb]),hk2⟩
   case q14=>
    rw[<-hA8]
    simp only[amE,rQ,↓reduceIte,rA,wf61,b00,H9,H10,H12,hL,H14,O10_7]
  ·rw[hal]
   refine⟨_,Ve (mf:=wf61) (fr:=FR) t61 rfl (.inl ?q15) dF (by simp only[wf61,amE,gF,Q8,Q3,Qy,QK,Qc,Qb]),hk2⟩
   case q15=>
    rw[<-hA8]
    simp only[amE,rQ,↓reduceIte,rA,wf61,b00,H9,H10,H12,hL,O10_7]
end
noncomputable section
open Nat renaming reduceEqDiff -> rQ, reduceAdd -> rA
structure En where
 leaf:Int
 ver:Int
 prop:Int
 gate:Int
 vnl:Bool
 vex:Bool
 vals:List Tm
 d:Dv
 snl:Bool
 sex:Bool
 seen:List Int
def slI(nl ex:Bool)(l:List Int):AV:=bif nl then .nilsl else .lst l.length (l.map (AV.int .i64)) ex
def En.vsl(e:En):AV:=V7 e.vnl e.vex (Tm.cellsL e.vals)
def En.ssl(e:En):AV:=slI e.snl e.sex e.seen
def En.cells(e:En):List AV:=[.int .i64 e.leaf,.int .i64 e.ver,.int .i64 e.prop,.int .i64 e.gate,e.vsl]++e.d.cells++[e.ssl]
def En.ok(e:En):Prop:=(e.vnl=true->e.vals=[])/\e.vals.length<=4611686018427387904/\Tm.okL e.vals/\e.d.ok/\(e.snl=true->e.seen=[])/\e.seen.length<=4611686018427387904
def En.fz(e:En):Nat:=Tm.fzL e.vals+e.vals.length+e.d.fz+e.seen.length+4200
def valsB(l:List Tm):Bool:=decide (l.length<=8)&&l.all gr
def En.good(k:Nat)(e:En):Bool:=okN e.leaf&&okN e.ver&&okN e.prop&&valsB e.vals&&isDv e.d&&decide (e.seen.length=k)&&e.seen.all okN
theorem Dv.cells_abc(d:Dv):∃ a b c,d.cells=[a,b,c]/\a.one=true/\b.one=true/\c.one=true:=by
 cases d with
 | mk r nv ev vs nl ex l=>
  simp only[Dv.cells]
  exact⟨_,_,_,rfl,rfl,by cases nv<;>rfl,by cases nl<;>rfl⟩
theorem JA(nl ex:Bool)(l:List Int)(h:nl=true->l=[])(hb:l.length<=4611686018427387904)(F:Nat->Prop)(st:St):SlI F st (slI nl ex l) l:=by
 unfold slI
 cases nl with
 | true=>rw[h rfl];exact SlN.nil (by omega) F st
 | false=>
  refine SlN.lst (by omega) F st (fun x hx=>?_) (by simpa using hb) (by simp) ?_
  ·simp only[Xq,Q6,Function.comp] at hx
   obtain⟨y,_,rfl⟩:=hx
   exact⟨rfl,rfl⟩
  ·induction l with
   | nil=>rfl
   | cons a l ih=>simp only[Q4,Xc,Zt,XK,true_and];exact ih (by simp at hb;omega) (fun h=>by cases h)
theorem slAV_SlR(nl ex:Bool)(l:List Tm)(h:nl=true->l=[])(hb:l.length<=4611686018427387904)(F:Nat->Prop)(st:St):SlR F st (V7 nl ex (Tm.cellsL l)) (Tm.cellsL l):=
 SlR.sl F st (Tm.cellsL3 l) (by rw[Tm.cellsL_len];omega) fun e=>by rw[h e];rfl
theorem faF(cs:List AV)(j k:Nat):WG k (.fptr cs j)=some (.fptr cs (j+k)):=rfl
theorem ld9_0(st:St)(x0 x1 x2 x3 x4 x5 x6 x7 x8:AV):Vf false 1 st (.fptr [x0,x1,x2,x3,x4,x5,x6,x7,x8] 0)=some x0:=rfl
theorem ld9_1(st:St)(x0 x1 x2 x3 x4 x5 x6 x7 x8:AV):Vf false 1 st (.fptr [x0,x1,x2,x3,x4,x5,x6,x7,x8] 1)=some x1:=rfl
theorem ld9_2(st:St)(x0 x1 x2 x3 x4 x5 x6 x7 x8:AV):Vf false 1 st (.fptr [x0,x1,x2,x3,x4,x5,x6,x7,x8] 2)=some x2:=rfl
theorem ld9_4(st:St)(x0 x1 x2 x3 x4 x5 x6 x7 x8:AV):Vf false 1 st (.fptr [x0,x1,x2,x3,x4,x5,x6,x7,x8] 4)=some x4:=rfl
theorem Uq(st:St)(x0 x1 x2 x3 x4 x5 x6 x7 x8:AV):Vf false 1 st (.fptr [x0,x1,x2,x3,x4,x5,x6,x7,x8] 8)=some x8:=rfl
theorem ld9_d(st:St)(x0 x1 x2 x3 x4 x5 x6 x7 x8:AV):Vf true 3 st (.fptr [x0,x1,x2,x3,x4,x5,x6,x7,x8] 5)=some (.agg [x5,x6,x7]):=rfl
theorem Jh(st:St)(x y z:AV):Vf true 3 st (.fptr [x,y,z] 0)=some (.agg [x,y,z]):=rfl
theorem ld2_1(st:St)(x y:AV):Vf false 1 st (.fptr [x,y] 1)=some y:=rfl
theorem TV{m:Nat}(h:1<=m)(Y:Vi)(x:Int)(st:St):R m Y 60 [.int .i64 x] st=.ret (.bool (okN x)) st:=by
 obtain⟨n,rfl⟩:∃ n,m=n+1:=⟨m - 1,by omega⟩
 exact number_run n Y x st
theorem ne00:Vr false .neq Z0 Z0=some (.bool false):=rfl
theorem ne16:Vr false .neq (ZI 160) Z0=some (.bool true):=rfl
def wg62_0:List Vc:=[ZO 1 (.box true (.t 0)),ZM 2 (ZC 0)]
def wg62_1:List Vc:=[ZK 3 3 1,ZX 4 106 [(.t 3)],ZO 5 (.un .not (.t 4))]
def wg62_2:List Vc:=[ZM 2 (ZC 160)]
def wg62_3:List Vc:=[ZM 2 (ZC 0)]
def wf62:Vm:=⟨6,(ZQ wg62_0 (.seq (ZQ wg62_1 (.cond (.t 5) (ZR wg62_2) .skip)) (ZR wg62_3))),[.t 2]⟩
theorem t62:tbl 62=some wf62:=by kernel_rfl
theorem check62_run(d:Dv)(m:Nat)(Y:Vi)(F:Nat->Prop)(st:St)(cs:List AV)(hr:VU F st d cs)(hF:∀ i,F i->i < st.next)(hn:d.fz+4101<=m):
  ∃ st',R (m+1) Y 62 [.agg cs] st=.ret (ZI ((bif isDv d then 0 else 160))) st'/\Vd st st':=by
 have hc3:=hr.cells3
 obtain⟨st1,c1,k1⟩:=rIsD_run d m Y F st cs hr hF hn
 have c1':((gT m).cg Y).fn 106 [.agg cs] st=.ret (.bool (isDv d)) st1:=c1
 obtain⟨a,b,c,rfl⟩:∃ a b c,cs=[a,b,c]:=by
  match cs,hc3.1 with
  | [a,b,c],_=>exact⟨a,b,c,rfl⟩
 generalize isDv d=B at *
 have hu:∀ b,unA .not (.bool b)=some (.bool (!b)):=fun _=>rfl
 cases B with
 | true=>
  obtain⟨fA1,hA1⟩:∃ fA,fA=Vo 0 [.agg [a,b,c]] Fr.nil:=⟨_,rfl⟩
  have gA1_0:=gAt hA1 0
  have dA1:fA1.ds=[]:=by rw[hA1];rfl
  obtain⟨J2,H2,O2_1⟩:∃ fr',ar m Y wg62_0 fA1 st=.ok fr' st/\fr'.get 1=some (.fptr [a,b,c] 0):=⟨_,by simp only[amE,rQ,↓reduceIte,rA,gA1_0,wg62_0]<;>rfl,gn gh⟩
  have W2:=ad H2 dA1
  obtain⟨J3,H3,O3_5⟩:∃ fr',ar m Y wg62_1 J2 st=.ok fr' st1/\fr'.get 5=some (.bool false):=⟨_,by simp only[amE,rQ,↓reduceIte,rA,O2_1,wg62_1,Jh,c1',hu,Qc,Qb,Qc,Qb]<;>rfl,gh⟩
  have W3:=ad H3 W2
  obtain⟨J4,H4,O4_2⟩:∃ fr',ar m Y wg62_3 J3 st1=.ok fr' st1/\fr'.get 2=some Z0:=⟨_,by simp only[amE,rQ,↓reduceIte,rA,wg62_3]<;>rfl,gh⟩
  have W4:=ad H4 W3
  refine⟨_,Ve (mf:=wf62) (fr:=J4) t62 rfl (.inl ?q4) W4 (by simp only[wf62,amE,O4_2,Qi,Qq]),k1⟩
  case q4=>
   rw[<-hA1]
   simp only[amE,rQ,↓reduceIte,rA,wf62,b00,H2,H3,H4,O3_5]
 | false=>
  obtain⟨fA5,hA5⟩:∃ fA,fA=Vo 0 [.agg [a,b,c]] Fr.nil:=⟨_,rfl⟩
  have gA5_0:=gAt hA5 0
  have dA5:fA5.ds=[]:=by rw[hA5];rfl
  obtain⟨J6,H6,O6_1⟩:∃ fr',ar m Y wg62_0 fA5 st=.ok fr' st/\fr'.get 1=some (.fptr [a,b,c] 0):=⟨_,by simp only[amE,rQ,↓reduceIte,rA,gA5_0,wg62_0]<;>rfl,gn gh⟩
  have W6:=ad H6 dA5
  obtain⟨J7,H7,O7_5⟩:∃ fr',ar m Y wg62_1 J6 st=.ok fr' st1/\fr'.get 5=some (.bool true):=⟨_,by simp only[amE,rQ,↓reduceIte,rA,O6_1,wg62_1,Jh,c1',hu,Qc,Qb,Qc,Qb]<;>rfl,gh⟩
  have W7:=ad H7 W6
  obtain⟨J8,H8,O8_2⟩:∃ fr',ar m Y wg62_2 J7 st1=.ok fr' st1/\fr'.get 2=some (ZI 160):=⟨_,by simp only[amE,rQ,↓reduceIte,rA,wg62_2]<;>rfl,gh⟩
  have W8:=ad H8 W7
  refine⟨_,Ve (mf:=wf62) (fr:=J8) t62 rfl (.inl ?q8) W8 (by simp only[wf62,amE,O8_2,Qi,Qq]),k1⟩
  case q8=>
   rw[<-hA5]
   simp only[amE,rQ,↓reduceIte,rA,wf62,b00,H6,H7,H8,O7_5]
def wg68_0:List Vc:=[ZO 1 (.box true (.t 0)),ZM 2 (ZC 0)]
def wg68_1:List Vc:=[ZK 3 3 1,ZX 4 112 [(.t 3)],ZO 5 (.un .not (.t 4))]
def wg68_2:List Vc:=[ZM 2 (ZC 160)]
def wg68_3:List Vc:=[ZM 2 (ZC 0)]
def wf68:Vm:=⟨6,(ZQ wg68_0 (.seq (ZQ wg68_1 (.cond (.t 5) (ZR wg68_2) .skip)) (ZR wg68_3))),[.t 2]⟩
theorem t68:tbl 68=some wf68:=by kernel_rfl
theorem check68_run(d:Dv)(m:Nat)(Y:Vi)(F:Nat->Prop)(st:St)(cs:List AV)(hr:VU F st d cs)(hF:∀ i,F i->i < st.next)(hn:d.fz < m):
  ∃ st',R (m+1) Y 68 [.agg cs] st=.ret (ZI ((bif isDv d then 0 else 160))) st'/\Vd st st':=by
 have hc3:=hr.cells3
 obtain⟨st1,c1,k1⟩:=isDeriv_run d m Y F st cs hr hF hn
 have c1':((gT m).cg Y).fn 112 [.agg cs] st=.ret (.bool (isDv d)) st1:=c1
 obtain⟨a,b,c,rfl⟩:∃ a b c,cs=[a,b,c]:=by
  match cs,hc3.1 with
  | [a,b,c],_=>exact⟨a,b,c,rfl⟩
 generalize isDv d=B at *
 have hu:∀ b,unA .not (.bool b)=some (.bool (!b)):=fun _=>rfl
 cases B with
 | true=>
  obtain⟨fA9,hA9⟩:∃ fA,fA=Vo 0 [.agg [a,b,c]] Fr.nil:=⟨_,rfl⟩
  have gA9_0:=gAt hA9 0
  have dA9:fA9.ds=[]:=by rw[hA9];rfl
  obtain⟨J10,H10,O10_1⟩:∃ fr',ar m Y wg68_0 fA9 st=.ok fr' st/\fr'.get 1=some (.fptr [a,b,c] 0):=⟨_,by simp only[amE,rQ,↓reduceIte,rA,gA9_0,wg68_0]<;>rfl,gn gh⟩
  have W10:=ad H10 dA9
  obtain⟨J11,H11,O11_5⟩:∃ fr',ar m Y wg68_1 J10 st=.ok fr' st1/\fr'.get 5=some (.bool false):=⟨_,by simp only[amE,rQ,↓reduceIte,rA,O10_1,wg68_1,Jh,c1',hu,Qc,Qb,Qc,Qb]<;>rfl,gh⟩
  have W11:=ad H11 W10
  obtain⟨J12,H12,O12_2⟩:∃ fr',ar m Y wg68_3 J11 st1=.ok fr' st1/\fr'.get 2=some Z0:=⟨_,by simp only[amE,rQ,↓reduceIte,rA,wg68_3]<;>rfl,gh⟩
  have W12:=ad H12 W11
  refine⟨_,Ve (mf:=wf68) (fr:=J12) t68 rfl (.inl ?q12) W12 (by simp only[wf68,amE,O12_2,Qi,Qq]),k1⟩
  case q12=>
   rw[<-hA9]
   simp only[amE,rQ,↓reduceIte,rA,wf68,b00,H10,H11,H12,O11_5]
 | false=>
  obtain⟨fA13,hA13⟩:∃ fA,fA=Vo 0 [.agg [a,b,c]] Fr.nil:=⟨_,rfl⟩
  have gA13_0:=gAt hA13 0
  have dA13:fA13.ds=[]:=by rw[hA13];rfl
  obtain⟨J14,H14,O14_1⟩:∃ fr',ar m Y wg68_0 fA13 st=.ok fr' st/\fr'.get 1=some (.fptr [a,b,c] 0):=⟨_,by simp only[amE,rQ,↓reduceIte,rA,gA13_0,wg68_0]<;>rfl,gn gh⟩
  have W14:=ad H14 dA13
  obtain⟨J15,H15,O15_5⟩:∃ fr',ar m Y wg68_1 J14 st=.ok fr' st1/\fr'.get 5=some (.bool true):=⟨_,by simp only[amE,rQ,↓reduceIte,rA,O14_1,wg68_1,Jh,c1',hu,Qc,Qb,Qc,Qb]<;>rfl,gh⟩
  have W15:=ad H15 W14
  obtain⟨J16,H16,O16_2⟩:∃ fr',ar m Y wg68_2 J15 st1=.ok fr' st1/\fr'.get 2=some (ZI 160):=⟨_,by simp only[amE,rQ,↓reduceIte,rA,wg68_2]<;>rfl,gh⟩
  have W16:=ad H16 W15
  refine⟨_,Ve (mf:=wf68) (fr:=J16) t68 rfl (.inl ?q16) W16 (by simp only[wf68,amE,O16_2,Qi,Qq]),k1⟩
  case q16=>
   rw[<-hA13]
   simp only[amE,rQ,↓reduceIte,rA,wf68,b00,H14,H15,H16,O15_5]
def Y1:List Vc:=[ZO 3 (.box true (.t 1)),ZM 4 (ZB false)]
def Yz:List Vc:=[ZA 7 0 3,ZL 8 7,ZX 9 60 [(.t 8)],ZO 10 (.un .not (.t 9)),ZV 11 10,ZG 12 (.faddr 1 (.t 3)) 11 false,ZG 13 (.load false 1 (.t 12)) 11 false,ZG 14 (.call (.c (.func (.func 60) [] [])) [(.t 13)]) 11 false,ZG 15 (.un .not (.t 14)) 11 false,ZO 16 (.pick (.t 11) (ZB true) (.t 15)),ZV 17 16,ZG 18 (.faddr 2 (.t 3)) 17 false,ZG 19 (.load false 1 (.t 18)) 17 false,ZG 20 (.call (.c (.func (.func 60) [] [])) [(.t 19)]) 17 false,ZG 21 (.un .not (.t 20)) 17 false,ZO 22 (.pick (.t 17) (ZB true) (.t 21)),ZV 23 22,ZG 24 (.faddr 3 (.t 3)) 23 false,ZG 25 (.faddr 1 (.t 24)) 23 false,ZG 26 (.load false 1 (.t 25)) 23 false,ZG 27 (.call (.c (.func (.func 61) [] [])) [(.t 26)]) 23 false,ZG 28 (.un .not (.t 27)) 23 false,ZO 29 (.pick (.t 23) (ZB true) (.t 28)),ZV 30 29,ZG 31 (.faddr 5 (.t 3)) 30 false,ZG 32 (.load true 3 (.t 31)) 30 false,ZG 33 (.call (.c (.func (.func 62) [] [])) [(.t 32)]) 30 false,ZG 34 (.bin false .neq (.t 33) (ZC 0)) 30 false,ZO 35 (.pick (.t 30) (ZB true) (.t 34)),ZV 36 35,ZG 37 (.faddr 8 (.t 3)) 36 false,ZG 38 (.load false 1 (.t 37)) 36 false,ZG 39 (.len 0 (.t 38)) 36 false,ZG 40 (.mv (.t 0)) 36 false,ZG 41 (.bin false .neq (.t 39) (.t 40)) 36 false,ZO 42 (.pick (.t 36) (ZB true) (.t 41))]
def YY:List Vc:=[ZM 4 (ZB false)]
def wg28_3:List Vc:=[ZM 5 (ZC 0)]
def wg28_4:List Vc:=[ZV 43 5,ZA 44 8 3,ZL 45 44,ZN 46 45,ZO 47 (.bin false .lss (.t 43) (.t 46))]
def wg28_5:List Vc:=[ZA 50 8 3,ZL 51 50,ZV 52 5,ZP 53 1 51 52,ZL 54 53,ZX 55 60 [(.t 54)],ZV 6 55]
def wg28_6:List Vc:=[ZV 56 6,ZO 57 (.un .not (.t 56))]
def wg28_7:List Vc:=[ZM 4 (ZB false)]
def wg28_8:List Vc:=[ZV 48 5,ZO 49 (.bin false .add (.t 48) (ZC 1)),ZV 5 49]
def wg28_9:List Vc:=[ZM 4 (ZB true)]
def Ke:Vn:=(.seq (ZQ wg28_4 (.cond (.t 47) .skip (.exit 0))) (.seq (.block 1 (ZQ wg28_5 (ZQ wg28_6 (.cond (.t 57) (ZR wg28_7) .skip)))) (.region wg28_8)))
def Yd:Vm:=⟨58,(ZQ Y1 (.seq (ZQ Yz (.cond (.t 42) (ZR YY) .skip)) (.seq (ZQ wg28_3 (.block 0 (.loop Ke))) (ZR wg28_9)))),[.t 4]⟩
theorem t28:tbl 28=some Yd:=by kernel_rfl
theorem entry_run(e:En)(he:e.ok)(k:Nat)(m:Nat)(Y:Vi)(st:St)(hn:e.fz<=m):
  ∃ st',R (m+1) Y 28 [ZI k,.agg e.cells] st=.ret (.bool (e.good k)) st'/\Vd st st':=by
 obtain⟨o1,o2,o3,o4,o5,o6⟩:=he
 unfold En.fz at hn
 obtain⟨q,rfl⟩:∃ q,m=q+1:=⟨m - 1,by omega⟩
 have n1:∀ st,((gT (q+1)).cg Y).fn 60 [.int .i64 e.leaf] st=.ret (.bool (okN e.leaf)) st:=fun st=>TV (by omega) Y _ st
 have n2:∀ st,((gT (q+1)).cg Y).fn 60 [.int .i64 e.ver] st=.ret (.bool (okN e.ver)) st:=fun st=>TV (by omega) Y _ st
 have n3:∀ st,((gT (q+1)).cg Y).fn 60 [.int .i64 e.prop] st=.ret (.bool (okN e.prop)) st:=fun st=>TV (by omega) Y _ st
 have n4:∀ x st,((gT (q+1)).cg Y).fn 60 [.int .i64 x] st=.ret (.bool (okN x)) st:=fun x st=>TV (by omega) Y _ st
 obtain⟨st1,v1,k1⟩:=rvals_run (F:=fun _=>False) (st:=st) (sl:=e.vsl) (slAV_SlR e.vnl e.vex e.vals o1 o2 _ st) (Vy.line _ st e.vals o3) (fun _ h=>h.elim) q Y (by omega)
 have v1:((gT (q+1)).cg Y).fn 61 [e.vsl] st=.ret (.bool (valsB e.vals)) st1:=v1
 obtain⟨st2,d1,k2⟩:=check62_run e.d q Y (fun _=>False) st1 e.d.cells (VU.line _ st1 e.d o4) (fun _ h=>h.elim) (by omega)
 have d1:((gT (q+1)).cg Y).fn 62 [.agg e.d.cells] st1=.ret (ZI ((bif isDv e.d then 0 else 160))) st2:=d1
 have hS:=JA e.snl e.sex e.seen o5 o6 (fun _=>False) st2
 have hl:∀ st,(bif VD 0 e.ssl then Wm st e.ssl else none)=some (ZI e.seen.length):=fun st=>SlI.len hS st
 have hne:=neqN e.seen.length k
 obtain⟨a,b,c,hd,_⟩:=e.d.cells_abc
 have hcs:e.cells=[.int .i64 e.leaf,.int .i64 e.ver,.int .i64 e.prop,.int .i64 e.gate,e.vsl,a,b,c,e.ssl]:=by unfold En.cells;rw[hd];rfl
 rw[hcs]
 rw[hd] at d1
 unfold En.good
 have hL:∀(fr:Fr),fr.ds=[]->fr.get 3=some (.fptr [.int .i64 e.leaf,.int .i64 e.ver,.int .i64 e.prop,.int .i64 e.gate,e.vsl,a,b,c,e.ssl] 0)->fr.get 5=some Z0->∃ FR,FR.ds=[] ∧
   ((Vx (ac (q+1) Y Ke none) (q+1) fr st2=.exit 0 FR st2/\e.seen.all okN=true)\/(Vx (ac (q+1) Y Ke none) (q+1) fr st2=.ret FR st2/\FR.get 4=some (.bool false)/\e.seen.all okN=false)):=by
  intro fr d0 g3 g5
  refine Ws (B:=ac (q+1) Y Ke none) (N:=e.seen.length) (Inv:=fun k fr st1=>fr.ds=[]/\fr.get 3=some (.fptr [.int .i64 e.leaf,.int .i64 e.ver,.int .i64 e.prop,.int .i64 e.gate,e.vsl,a,b,c,e.ssl] 0)/\fr.get 5=some (ZI k)/\st1=st2/\(e.seen.take k).all okN=true)
   (Out:=fun r=>∃ FR,FR.ds=[]/\((r=.exit 0 FR st2/\e.seen.all okN=true)\/(r=.ret FR st2/\FR.get 4=some (.bool false)/\e.seen.all okN=false))) ?_ e.seen.length 0 fr st2 (q+1) (by omega) (by omega) ⟨d0,g3,g5,rfl,rfl⟩
  intro k fr st hk ⟨d0,g3,g5,hst,hall⟩
  subst hst
  have hlt:=Wt k e.seen.length
  by_cases hkN:k < e.seen.length
  ·have hx:e.seen[k]?=some e.seen[k]:=Qn hkN
   generalize e.seen[k]=x at hx
   obtain⟨p,ia,ld⟩:=SlI.at hS hx
   have ia:VC 1 e.ssl (ZI k)=some p:=ia
   have ld:=ld st (Vs.refl _ _)
   have nx:=n4 x
   have had:=WC (i:=k) (by omega)
   have hat:=YR okN e.seen k x hx
   rw[hall,Q3] at hat
   rw[Qs hkN] at hlt
   generalize hG:okN x=B at *
   obtain⟨J17,H17,O17_47⟩:∃ fr',ar (q+1) Y wg28_4 fr st=.ok fr' st/\fr'.get 47=some (.bool true):=⟨_,by simp only[amE,rQ,↓reduceIte,rA,g3,g5,wg28_4,faF,Uq,hl,hlt]<;>rfl,gh⟩
   have V17_3:=ag H17 g3
   have V17_5:=ag H17 g5
   have W17:=ad H17 d0
   obtain⟨J18,H18,O18_6⟩:∃ fr',ar (q+1) Y wg28_5 J17 st=.ok fr' st/\fr'.get 6=some (.bool B):=⟨_,by simp only[amE,rQ,↓reduceIte,rA,V17_3,V17_5,wg28_5,faF,Uq,ia,ld,nx]<;>rfl,gh⟩
   have V18_3:=ag H18 V17_3
   have V18_5:=ag H18 V17_5
   have W18:=ad H18 W17
   obtain⟨J19,H19,O19_57⟩:∃ fr',ar (q+1) Y wg28_6 J18 st=.ok fr' st/\fr'.get 57=some (.bool (!B)):=⟨_,by simp only[amE,rQ,↓reduceIte,rA,O18_6,wg28_6,WN,Qc,Qb]<;>rfl,gh⟩
   have V19_3:=ag H19 V18_3
   have V19_5:=ag H19 V18_5
   have W19:=ad H19 W18
   generalize hC20:(!B)=C20 at *
   cases C20 with
   | true=>
    obtain⟨J21,H21,O21_4⟩:∃ fr',ar (q+1) Y wg28_7 J19 st=.ok fr' st/\fr'.get 4=some (.bool false):=⟨_,by simp only[amE,rQ,↓reduceIte,rA,wg28_7]<;>rfl,gh⟩
    have W21:=ad H21 W19
    have hI21:ac (q+1) Y Ke none fr st=.ret J21 st:=by
     simp only[amE,rQ,↓reduceIte,rA,Ke,b00,b11,H17,H18,H19,H21,O17_47,O19_57]
    rw[hI21]
    exact⟨_,W21,.inr ⟨rfl,O21_4,WV (k:=k+1) (by rw[hat];simpa using hC20)⟩⟩
   | false=>
    obtain⟨J22,H22,O22_5⟩:∃ fr',ar (q+1) Y wg28_8 J19 st=.ok fr' st/\fr'.get 5=some (ZI ((k+1))):=⟨_,by simp only[amE,rQ,↓reduceIte,rA,V19_5,wg28_8,had]<;>rfl,gh⟩
    have V22_3:=ag H22 V19_3
    have W22:=ad H22 W19
    have hI22:ac (q+1) Y Ke none fr st=.norm J22 st:=by
     simp only[amE,rQ,↓reduceIte,rA,Ke,b00,b11,H17,H18,H19,H22,O17_47,O19_57]
    rw[hI22]
    exact⟨hkN,W22,V22_3,O22_5,rfl,by rw[hat];simpa using hC20⟩
  ·rw[Qp hkN] at hlt
   have hkl:k=e.seen.length:=by omega
   subst hkl
   rw[QH] at hall
   obtain⟨J23,H23,O23_47⟩:∃ fr',ar (q+1) Y wg28_4 fr st=.ok fr' st/\fr'.get 47=some (.bool false):=⟨_,by simp only[amE,rQ,↓reduceIte,rA,g3,g5,wg28_4,faF,Uq,hl,hlt]<;>rfl,gh⟩
   have W23:=ad H23 d0
   have hI23:ac (q+1) Y Ke none fr st=.exit 0 J23 st:=by
    simp only[amE,rQ,↓reduceIte,rA,Ke,b00,b11,H23,O23_47]
   rw[hI23]
   exact⟨_,W23,.inl ⟨rfl,hall⟩⟩
 generalize okN e.leaf=A at *
 generalize okN e.ver=B at *
 generalize okN e.prop=C at *
 generalize valsB e.vals=V at *
 generalize isDv e.d=D at *
 generalize decide (e.seen.length=k)=S at *
 cases A with
 | false=>
  obtain⟨fA24,hA24⟩:∃ fA,fA=Vo 0 [ZI k,.agg [.int .i64 e.leaf,.int .i64 e.ver,.int .i64 e.prop,.int .i64 e.gate,e.vsl,a,b,c,e.ssl]] Fr.nil:=⟨_,rfl⟩
  have gA24_0:=gAt hA24 0
  have gA24_1:=gAt hA24 1
  have dA24:fA24.ds=[]:=by rw[hA24];rfl
  obtain⟨J25,H25,O25_3⟩:∃ fr',ar (q+1) Y Y1 fA24 st=.ok fr' st/\fr'.get 3=some (.fptr [.int .i64 e.leaf,.int .i64 e.ver,.int .i64 e.prop,.int .i64 e.gate,e.vsl,a,b,c,e.ssl] 0):=⟨_,by simp only[amE,rQ,↓reduceIte,rA,gA24_1,Y1]<;>rfl,gn gh⟩
  have V25_0:=ag H25 gA24_0
  have W25:=ad H25 dA24
  obtain⟨J26,H26,O26_42⟩:∃ fr',ar (q+1) Y Yz J25 st=.ok fr' st/\fr'.get 42=some (.bool true):=⟨_,by simp only[amE,rQ,↓reduceIte,rA,V25_0,O25_3,Yz,faF,ld9_0,ld9_1,ld9_2,Uq,ld9_d,ld9_4,n1,n2,n3,v1,d1,WN,ne00,ne16,hl,hne,Q8,Q3,Qy,QK,Qc,Qb,Qi,Qq,Qc,Qb]<;>rfl,gh⟩
  have W26:=ad H26 W25
  obtain⟨J27,H27,O27_4⟩:∃ fr',ar (q+1) Y YY J26 st=.ok fr' st/\fr'.get 4=some (.bool false):=⟨_,by simp only[amE,rQ,↓reduceIte,rA,YY]<;>rfl,gh⟩
  have W27:=ad H27 W26
  refine⟨_,Ve (mf:=Yd) (fr:=J27) t28 rfl (.inl ?q27) W27 (by simp only[Yd,amE,O27_4,Q8,Q3,Qy,QK,Qc,Qb]),Vd.refl st⟩
  case q27=>
   rw[<-hA24]
   simp only[amE,rQ,↓reduceIte,rA,Yd,b00,H25,H26,H27,O26_42]
 | true=>
  cases B with
  | false=>
   obtain⟨fA28,hA28⟩:∃ fA,fA=Vo 0 [ZI k,.agg [.int .i64 e.leaf,.int .i64 e.ver,.int .i64 e.prop,.int .i64 e.gate,e.vsl,a,b,c,e.ssl]] Fr.nil:=⟨_,rfl⟩
   have gA28_0:=gAt hA28 0
   have gA28_1:=gAt hA28 1
   have dA28:fA28.ds=[]:=by rw[hA28];rfl
   obtain⟨J29,H29,O29_3⟩:∃ fr',ar (q+1) Y Y1 fA28 st=.ok fr' st/\fr'.get 3=some (.fptr [.int .i64 e.leaf,.int .i64 e.ver,.int .i64 e.prop,.int .i64 e.gate,e.vsl,a,b,c,e.ssl] 0):=⟨_,by simp only[amE,rQ,↓reduceIte,rA,gA28_1,Y1]<;>rfl,gn gh⟩
   have V29_0:=ag H29 gA28_0
   have W29:=ad H29 dA28
   obtain⟨J30,H30,O30_42⟩:∃ fr',ar (q+1) Y Yz J29 st=.ok fr' st/\fr'.get 42=some (.bool true):=⟨_,by simp only[amE,rQ,↓reduceIte,rA,V29_0,O29_3,Yz,faF,ld9_0,ld9_1,ld9_2,Uq,ld9_d,ld9_4,n1,n2,n3,v1,d1,WN,ne00,ne16,hl,hne,Q8,Q3,Qy,QK,Qc,Qb,Qi,Qq,Qc,Qb]<;>rfl,gh⟩
   have W30:=ad H30 W29
   obtain⟨J31,H31,O31_4⟩:∃ fr',ar (q+1) Y YY J30 st=.ok fr' st/\fr'.get 4=some (.bool false):=⟨_,by simp only[amE,rQ,↓reduceIte,rA,YY]<;>rfl,gh⟩
   have W31:=ad H31 W30
   refine⟨_,Ve (mf:=Yd) (fr:=J31) t28 rfl (.inl ?q31) W31 (by simp only[Yd,amE,O31_4,Q8,Q3,Qy,QK,Qc,Qb]),Vd.refl st⟩
   case q31=>
    rw[<-hA28]
    simp only[amE,rQ,↓reduceIte,rA,Yd,b00,H29,H30,H31,O30_42]
  | true=>
   cases C with
   | false=>
    obtain⟨fA32,hA32⟩:∃ fA,fA=Vo 0 [ZI k,.agg [.int .i64 e.leaf,.int .i64 e.ver,.int .i64 e.prop,.int .i64 e.gate,e.vsl,a,b,c,e.ssl]] Fr.nil:=⟨_,rfl⟩
    have gA32_0:=gAt hA32 0
    have gA32_1:=gAt hA32 1
    have dA32:fA32.ds=[]:=by rw[hA32];rfl
    obtain⟨J33,H33,O33_3⟩:∃ fr',ar (q+1) Y Y1 fA32 st=.ok fr' st/\fr'.get 3=some (.fptr [.int .i64 e.leaf,.int .i64 e.ver,.int .i64 e.prop,.int .i64 e.gate,e.vsl,a,b,c,e.ssl] 0):=⟨_,by simp only[amE,rQ,↓reduceIte,rA,gA32_1,Y1]<;>rfl,gn gh⟩
    have V33_0:=ag H33 gA32_0
    have W33:=ad H33 dA32
    obtain⟨J34,H34,O34_42⟩:∃ fr',ar (q+1) Y Yz J33 st=.ok fr' st/\fr'.get 42=some (.bool true):=⟨_,by simp only[amE,rQ,↓reduceIte,rA,V33_0,O33_3,Yz,faF,ld9_0,ld9_1,ld9_2,Uq,ld9_d,ld9_4,n1,n2,n3,v1,d1,WN,ne00,ne16,hl,hne,Q8,Q3,Qy,QK,Qc,Qb,Qi,Qq,Qc,Qb]<;>rfl,gh⟩
    have W34:=ad H34 W33
    obtain⟨J35,H35,O35_4⟩:∃ fr',ar (q+1) Y YY J34 st=.ok fr' st/\fr'.get 4=some (.bool false):=⟨_,by simp only[amE,rQ,↓reduceIte,rA,YY]<;>rfl,gh⟩
    have W35:=ad H35 W34
    refine⟨_,Ve (mf:=Yd) (fr:=J35) t28 rfl (.inl ?q35) W35 (by simp only[Yd,amE,O35_4,Q8,Q3,Qy,QK,Qc,Qb]),Vd.refl st⟩
    case q35=>
     rw[<-hA32]
     simp only[amE,rQ,↓reduceIte,rA,Yd,b00,H33,H34,H35,O34_42]
   | true=>
    cases V with
    | false=>
     obtain⟨fA36,hA36⟩:∃ fA,fA=Vo 0 [ZI k,.agg [.int .i64 e.leaf,.int .i64 e.ver,.int .i64 e.prop,.int .i64 e.gate,e.vsl,a,b,c,e.ssl]] Fr.nil:=⟨_,rfl⟩
     have gA36_0:=gAt hA36 0
     have gA36_1:=gAt hA36 1
     have dA36:fA36.ds=[]:=by rw[hA36];rfl
     obtain⟨J37,H37,O37_3⟩:∃ fr',ar (q+1) Y Y1 fA36 st=.ok fr' st/\fr'.get 3=some (.fptr [.int .i64 e.leaf,.int .i64 e.ver,.int .i64 e.prop,.int .i64 e.gate,e.vsl,a,b,c,e.ssl] 0):=⟨_,by simp only[amE,rQ,↓reduceIte,rA,gA36_1,Y1]<;>rfl,gn gh⟩
     have V37_0:=ag H37 gA36_0
     have W37:=ad H37 dA36
     obtain⟨J38,H38,O38_42⟩:∃ fr',ar (q+1) Y Yz J37 st=.ok fr' st1/\fr'.get 42=some (.bool true):=⟨_,by simp only[amE,rQ,↓reduceIte,rA,V37_0,O37_3,Yz,faF,ld9_0,ld9_1,ld9_2,Uq,ld9_d,ld9_4,n1,n2,n3,v1,d1,WN,ne00,ne16,hl,hne,Q8,Q3,Qy,QK,Qc,Qb,Qi,Qq,Qc,Qb]<;>rfl,gh⟩
     have W38:=ad H38 W37
     obtain⟨J39,H39,O39_4⟩:∃ fr',ar (q+1) Y YY J38 st1=.ok fr' st1/\fr'.get 4=some (.bool false):=⟨_,by simp only[amE,rQ,↓reduceIte,rA,YY]<;>rfl,gh⟩
     have W39:=ad H39 W38
     refine⟨_,Ve (mf:=Yd) (fr:=J39) t28 rfl (.inl ?q39) W39 (by simp only[Yd,amE,O39_4,Q8,Q3,Qy,QK,Qc,Qb]),k1⟩
     case q39=>
      rw[<-hA36]
      simp only[amE,rQ,↓reduceIte,rA,Yd,b00,H37,H38,H39,O38_42]
    | true=>
     cases D with
     | false=>
      obtain⟨fA40,hA40⟩:∃ fA,fA=Vo 0 [ZI k,.agg [.int .i64 e.leaf,.int .i64 e.ver,.int .i64 e.prop,.int .i64 e.gate,e.vsl,a,b,c,e.ssl]] Fr.nil:=⟨_,rfl⟩
      have gA40_0:=gAt hA40 0
      have gA40_1:=gAt hA40 1
      have dA40:fA40.ds=[]:=by rw[hA40];rfl
      obtain⟨J41,H41,O41_3⟩:∃ fr',ar (q+1) Y Y1 fA40 st=.ok fr' st/\fr'.get 3=some (.fptr [.int .i64 e.leaf,.int .i64 e.ver,.int .i64 e.prop,.int .i64 e.gate,e.vsl,a,b,c,e.ssl] 0):=⟨_,by simp only[amE,rQ,↓reduceIte,rA,gA40_1,Y1]<;>rfl,gn gh⟩
      have V41_0:=ag H41 gA40_0
      have W41:=ad H41 dA40
      obtain⟨J42,H42,O42_42⟩:∃ fr',ar (q+1) Y Yz J41 st=.ok fr' st2/\fr'.get 42=some (.bool true):=⟨_,by simp only[amE,rQ,↓reduceIte,rA,V41_0,O41_3,Yz,faF,ld9_0,ld9_1,ld9_2,Uq,ld9_d,ld9_4,n1,n2,n3,v1,d1,WN,ne00,ne16,hl,hne,Q8,Q3,Qy,QK,Qc,Qb,Qi,Qq,Qc,Qb]<;>rfl,gh⟩
      have W42:=ad H42 W41
      obtain⟨J43,H43,O43_4⟩:∃ fr',ar (q+1) Y YY J42 st2=.ok fr' st2/\fr'.get 4=some (.bool false):=⟨_,by simp only[amE,rQ,↓reduceIte,rA,YY]<;>rfl,gh⟩
      have W43:=ad H43 W42
      refine⟨_,Ve (mf:=Yd) (fr:=J43) t28 rfl (.inl ?q43) W43 (by simp only[Yd,amE,O43_4,Q8,Q3,Qy,QK,Qc,Qb]),k1.trans k2⟩
      case q43=>
       rw[<-hA40]
       simp only[amE,rQ,↓reduceIte,rA,Yd,b00,H41,H42,H43,O42_42]
     | true=>
      cases S with
      | false=>
       obtain⟨fA44,hA44⟩:∃ fA,fA=Vo 0 [ZI k,.agg [.int .i64 e.leaf,.int .i64 e.ver,.int .i64 e.prop,.int .i64 e.gate,e.vsl,a,b,c,e.ssl]] Fr.nil:=⟨_,rfl⟩
       have gA44_0:=gAt hA44 0
       have gA44_1:=gAt hA44 1
       have dA44:fA44.ds=[]:=by rw[hA44];rfl
       obtain⟨J45,H45,O45_3⟩:∃ fr',ar (q+1) Y Y1 fA44 st=.ok fr' st/\fr'.get 3=some (.fptr [.int .i64 e.leaf,.int .i64 e.ver,.int .i64 e.prop,.int .i64 e.gate,e.vsl,a,b,c,e.ssl] 0):=⟨_,by simp only[amE,rQ,↓reduceIte,rA,gA44_1,Y1]<;>rfl,gn gh⟩
       have V45_0:=ag H45 gA44_0
       have W45:=ad H45 dA44
       obtain⟨J46,H46,O46_42⟩:∃ fr',ar (q+1) Y Yz J45 st=.ok fr' st2/\fr'.get 42=some (.bool true):=⟨_,by simp only[amE,rQ,↓reduceIte,rA,V45_0,O45_3,Yz,faF,ld9_0,ld9_1,ld9_2,Uq,ld9_d,ld9_4,n1,n2,n3,v1,d1,WN,ne00,ne16,hl,hne,Q8,Q3,Qy,QK,Qc,Qb,Qi,Qq,Qc,Qb]<;>rfl,gh⟩
       have W46:=ad H46 W45
       obtain⟨J47,H47,O47_4⟩:∃ fr',ar (q+1) Y YY J46 st2=.ok fr' st2/\fr'.get 4=some (.bool false):=⟨_,by simp only[amE,rQ,↓reduceIte,rA,YY]<;>rfl,gh⟩
       have W47:=ad H47 W46
       refine⟨_,Ve (mf:=Yd) (fr:=J47) t28 rfl (.inl ?q47) W47 (by simp only[Yd,amE,O47_4,Q8,Q3,Qy,QK,Qc,Qb]),k1.trans k2⟩
       case q47=>
        rw[<-hA44]
        simp only[amE,rQ,↓reduceIte,rA,Yd,b00,H45,H46,H47,O46_42]
      | true=>
       obtain⟨fA48,hA48⟩:∃ fA,fA=Vo 0 [ZI k,.agg [.int .i64 e.leaf,.int .i64 e.ver,.int .i64 e.prop,.int .i64 e.gate,e.vsl,a,b,c,e.ssl]] Fr.nil:=⟨_,rfl⟩
       have gA48_0:=gAt hA48 0
       have gA48_1:=gAt hA48 1
       have dA48:fA48.ds=[]:=by rw[hA48];rfl
       obtain⟨J49,H49,O49_3⟩:∃ fr',ar (q+1) Y Y1 fA48 st=.ok fr' st/\fr'.get 3=some (.fptr [.int .i64 e.leaf,.int .i64 e.ver,.int .i64 e.prop,.int .i64 e.gate,e.vsl,a,b,c,e.ssl] 0):=⟨_,by simp only[amE,rQ,↓reduceIte,rA,gA48_1,Y1]<;>rfl,gn gh⟩
       have V49_0:=ag H49 gA48_0
       have W49:=ad H49 dA48
       obtain⟨J50,H50,O50_42⟩:∃ fr',ar (q+1) Y Yz J49 st=.ok fr' st2/\fr'.get 42=some (.bool false):=⟨_,by simp only[amE,rQ,↓reduceIte,rA,V49_0,O49_3,Yz,faF,ld9_0,ld9_1,ld9_2,Uq,ld9_d,ld9_4,n1,n2,n3,v1,d1,WN,ne00,ne16,hl,hne,Q8,Q3,Qy,QK,Qc,Qb,Qi,Qq,Qc,Qb]<;>rfl,gh⟩
       have V50_3:=ag H50 O49_3
       have W50:=ad H50 W49
       obtain⟨J51,H51,O51_5⟩:∃ fr',ar (q+1) Y wg28_3 J50 st2=.ok fr' st2/\fr'.get 5=some Z0:=⟨_,by simp only[amE,rQ,↓reduceIte,rA,wg28_3]<;>rfl,gh⟩
       have V51_3:=ag H51 V50_3
       have W51:=ad H51 W50
       obtain⟨FR,dF,hL⟩:=hL J51 W51 V51_3 O51_5
       rcases hL with⟨hL,hal⟩|⟨hL,gF,hal⟩
       ·rw[hal]
        obtain⟨J53,H53,O53_4⟩:∃ fr',ar (q+1) Y wg28_9 FR st2=.ok fr' st2/\fr'.get 4=some (.bool true):=⟨_,by simp only[amE,rQ,↓reduceIte,rA,wg28_9]<;>rfl,gh⟩
        have W53:=ad H53 dF
        refine⟨_,Ve (mf:=Yd) (fr:=J53) t28 rfl (.inl ?q53) W53 (by simp only[Yd,amE,O53_4,Q8,Q3,Qy,QK,Qc,Qb]),k1.trans k2⟩
        case q53=>
         rw[<-hA48]
         simp only[amE,rQ,↓reduceIte,rA,Yd,b00,H49,H50,H51,hL,H53,O50_42]
       ·rw[hal]
        refine⟨_,Ve (mf:=Yd) (fr:=FR) t28 rfl (.inl ?q54) dF (by simp only[Yd,amE,gF,Q8,Q3,Qy,QK,Qc,Qb]),k1.trans k2⟩
        case q54=>
         rw[<-hA48]
         simp only[amE,rQ,↓reduceIte,rA,Yd,b00,H49,H50,H51,hL,O50_42]
end
end Go.AM.D32
