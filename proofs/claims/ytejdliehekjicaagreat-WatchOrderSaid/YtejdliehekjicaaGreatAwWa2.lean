import Derived.Test.YtejdliehekjicaaGreatAwSh5
import Derived.Test.YtejdliehekjicaaGreatAwSh3
set_option maxRecDepth 100000
set_option linter.unusedSimpArgs false
namespace Go.AM.D32
open Go Go.AM
noncomputable section
open Nat renaming reduceEqDiff -> rQ, reduceAdd -> rA
def g76_0:List Vc:=[ZA 38 1 1,ZL 39 38,ZV 40 3,ZP 41 3 39 40,ZK 42 3 41,ZX 43 105 [(.t 42)],ZO 44 (.un .not (.t 43))]
def g76_2:List Vc:=[ZA 52 2 1,ZL 53 52,ZV 54 4,ZP 55 3 53 54,ZK 56 3 55,ZX 57 157 [(.t 56)],ZO 58 (.un .not (.t 57))]
def g76_5:List (Vc × Nat):=[(ZA 5 0 1,0),(ZL 6 5,1),(ZO 7 (.bin false .lss (.t 6) (ZC 1)),3),(ZV 8 7,7),(ZG 9 (.faddr 0 (.t 1)) 8 false,15),(ZG 10 (.load false 1 (.t 9)) 8 false,31),(ZG 11 (.bin false .gtr (.t 10) (ZC 19)) 8 false,63),(ZO 12 (.pick (.t 8) (ZB true) (.t 11)),127),(ZV 13 12,255),(ZG 14 (.faddr 2 (.t 1)) 13 false,511),(ZG 15 (.load false 1 (.t 14)) 13 false,1023),(ZG 16 (.len 0 (.t 15)) 13 false,2047),(ZG 17 (.faddr 0 (.t 1)) 13 false,511),(ZG 18 (.load false 1 (.t 17)) 13 false,4607),(ZG 19 (.call (.c (.func (.func 214) [] [])) [(.t 18)]) 13 false,12799),(ZG 20 (.bin false .neq (.t 16) (.t 19)) 13 false,32767),(ZO 21 (.pick (.t 13) (ZB true) (.t 20)),65535),(ZV 22 21,131071),(ZG 23 (.faddr 1 (.t 1)) 22 false,262143),(ZG 24 (.load false 1 (.t 23)) 22 false,524287),(ZG 25 (.len 0 (.t 24)) 22 false,1048575),(ZG 26 (.faddr 0 (.t 1)) 22 false,262143),(ZG 27 (.load false 1 (.t 26)) 22 false,2359295),(ZG 28 (.call (.c (.func (.func 215) [] [])) [(.t 27)]) 22 false,6553599),(ZG 29 (.bin false .gtr (.t 25) (.t 28)) 22 false,16777215),(ZO 30 (.pick (.t 22) (ZB true) (.t 29)),33554431)]
def bf76_0:Vn:=(ZQ g76_0
 (.cond (.t 44)
 (ZR [ZM 2 (ZB false)])
 .skip))
def cf76_0:List Vc:=[ZV 31 3,ZA 32 1 1,ZL 33 32,ZN 34 33,ZO 35 (.bin false .lss (.t 31) (.t 34))]
def bf76_1:Vn:=(ZQ g76_2
 (.cond (.t 58)
 (ZR [ZM 2 (ZB false)])
 .skip))
def cf76_1:List Vc:=[ZV 45 4,ZA 46 2 1,ZL 47 46,ZN 48 47,ZO 49 (.bin false .lss (.t 45) (.t 48))]
def kf76:Vm:=⟨59,(ZQ [ZO 1 (.box true (.t 0)),ZM 2 (ZB false)]
 (.seq (.seq (.draw g76_5 [(10,some 14),(10,some 23),(11,some 14),(11,some 23),(19,some 23),(19,none),(20,some 23),(20,none)])
 (.cond (.t 30)
 (ZR [ZM 2 (ZB false)])
 .skip))
 (.seq (ZQ [ZM 3 (ZC 0)]
 (.block 0 (.loop (lb2 35 3 36 37 0 1 cf76_0 bf76_0))))
 (.seq (ZQ [ZM 4 (ZC 0)]
 (.block 2 (.loop (lb2 49 4 50 51 2 3 cf76_1 bf76_1))))
 (ZR [ZM 2 (ZB true)]))))),[.t 2]⟩
theorem t157:tbl 157=some kf76:=by kernel_rfl
def g49_1:List Vc:=[ZK 6 3 1,ZX 7 156 [(.t 6),(ZC 4000),(ZC 1)],ZV 5 7,ZO 8 (.extract 0 (.t 5)),ZO 9 (.extract 1 (.t 5)),ZV 3 8,ZV 4 9]
def g49_2:List Vc:=[ZV 10 4,ZV 11 10,ZG 12 (.load true 3 (.t 1)) 11 true,ZG 13 (.call (.c (.func (.func 157) [] [])) [(.t 12)]) 11 true,ZO 14 (.pick (.t 11) (.t 13) (ZB false)),ZV 2 14]
def kf49:Vm:=⟨15,(ZQ [ZO 1 (.box true (.t 0)),ZM 2 (ZB false)]
 (ZQ g49_1
 (ZR g49_2))),[.t 2]⟩
theorem t106:tbl 106=some kf49:=by kernel_rfl
theorem drun_g{Γ:Cg}{d:Option Nat}{op:MOp}{a:Nat}{g:Nat × Bool}{zs:List (Vc × Nat)}{i id:Nat}{fr:Fr}{st:St}:Wq Γ ((⟨d,op,some g⟩,a)::zs) i id fr st none=match Vv fr (some g) with
  | some true=>(match V5 Γ id fr st op with
   | .val v st'=>DR.cons (.val fr st v st') (Wq Γ zs (i+1) (VJ id op) (Fr.put fr d v) st' none)
   | .pan v st'=>DR.cons (.pan fr st v st') (Wq Γ zs (i+1) (VJ id op) fr st (some i))
   | .stuck=>none)
  | some false=>DR.cons (.val fr st .undef st) (Wq Γ zs (i+1) (VJ id op) (Fr.put fr d .undef) st none)
  | none=>none:=by
 conv=>lhs;unfold Wq
 simp only[Ku,Qq]
 cases Vv fr (some g) with
 | none=>rfl
 | some b=>
  cases b with
  | false=>rfl
  | true=>cases V5 Γ id fr st op<;>rfl
theorem drun_item{Γ:Cg}:∀(zs:List (Vc × Nat)) (i id:Nat) (fr:Fr) (st:St) (pan:Option Nat) (its:List DIt) (frE:Fr) (stE:St),Wq Γ zs i id fr st pan=some (its,frE,stE) ->
  ∀(j:Nat) (z:Vc × Nat) (f:Fr) (s:St) (v:AV) (s':St),zs[j]?=some z->its[j]?=some (.val f s v s')->Vv f z.1.guard=some true->V5 Γ (Wf zs j id) f s z.1.op=.val v s'
 | [],_,_,_,_,_,_,_,_,_,j,z,_,_,_,_,hz,_,_=>by simp at hz
 | y::zs,i,id,fr,st,pan,its,frE,stE,h,j,z,f,s,v,s',hz,hi,hw=>by
  have key:∀(it:DIt) (x:Option DR) (p:Option Nat) (fr1:Fr) (st1:St),DR.cons it x=some (its,frE,stE)->x=Wq Γ zs (i+1) (VJ id y.1.op) fr1 st1 p ->
    (j=0->it=.val f s v s'->V5 Γ (Wf (y::zs) j id) f s z.1.op=.val v s')->V5 Γ (Wf (y::zs) j id) f s z.1.op=.val v s':=by
   intro it x p fr1 st1 hc hx h0
   cases hx':x with
   | none=>rw[hx'] at hc;simp[DR.cons] at hc
   | some q=>
    rw[hx'] at hc
    simp only[DR.cons,Qa,Q2] at hc
    obtain⟨hc1,hc2⟩:=hc
    cases j with
    | zero=>
     refine h0 rfl ?_
     rw[<-hc1] at hi;simpa using hi
    | succ j=>
     have:Wq Γ zs (i+1) (VJ id y.1.op) fr1 st1 p=some (q.1,q.2.1,q.2.2):=by rw[<-hx,hx']
     refine drun_item zs (i+1) (VJ id y.1.op) fr1 st1 p q.1 q.2.1 q.2.2 this j z f s v s' (by simpa using hz) (by rw[<-hc1] at hi;simpa using hi) hw
  unfold Wq at h
  cases hd:Ku pan y.2 with
  | true=>
   rw[hd] at h
   simp only[Qi] at h
   exact key _ _ _ _ _ h rfl fun _ h=>by cases h
  | false=>
   rw[hd] at h
   simp only[Qq] at h
   cases hw2:Vv fr y.1.guard with
   | none=>rw[hw2] at h;cases h
   | some b=>
    rw[hw2] at h
    cases b with
    | false=>
     simp only at h
     refine key _ _ _ _ _ h rfl fun hj he=>?_
     subst hj
     simp only[Q0,Qa] at hz;subst hz
     injection he with e1
     rw[<-e1,hw2] at hw;cases hw
    | true=>
     simp only at h
     cases ho:V5 Γ id fr st y.1.op with
     | val u s1=>
      rw[ho] at h
      refine key _ _ _ _ _ h rfl fun hj he=>?_
      subst hj
      simp only[Q0,Qa] at hz;subst hz
      injection he with e1 e2 e3 e4
      rw[<-e1,<-e2,<-e3,<-e4];exact ho
     | pan u s1=>
      rw[ho] at h
      cases pan with
      | none=>
       simp only at h
       exact key _ _ _ _ _ h rfl fun _ h=>by cases h
      | some p=>simp at h
     | stuck=>rw[ho] at h;cases h
def allSt(st:St):List DIt->Prop
 | []=>True
 | .val _ s _ _::l=>s=st/\allSt st l
 | _::_=>False
theorem allSt_at{st:St}:∀{l:List DIt},allSt st l->∀{j:Nat} {it:DIt},l[j]?=some it->∃ f v s',it=.val f st v s'
 | [],_,j,it,h=>by simp at h
 | x::l,h,j,it,hj=>by
  cases x with
  | val f s v s'=>
   simp only[allSt] at h
   cases j with
   | zero=>simp only[Q0,Qa] at hj;subst hj;exact⟨f,v,s',by rw[h.1]⟩
   | succ j=>exact allSt_at h.2 (by simpa using hj)
  | pan=>simp[allSt] at h
  | dead=>simp[allSt] at h
def beqIts(its:List DIt)(chk:List (Nat × Option Nat)):Prop:=∀ q∈chk,∀ f s v s',its[q.1]?=some (.val f s v s')->V8 v v=true
theorem Km{Γ:Cg}{zs:List (Vc × Nat)}{chk:List (Nat × Option Nat)}{fr frE:Fr}{st:St}{its:List DIt}(hpre:VT zs [] st=st)(h:Wq Γ zs 0 st.next fr st none=some (its,frE,st))(hp:JE its=none)
  (hs:allSt st its) (hb:beqIts its chk) (hl:lens Γ zs fr st=[]:=by rfl):VK Γ zs chk fr st=.ok frE st:=by
 refine KB (by rw[hpre];exact h) hp (QB.2 fun q hq=>?_) hl
 unfold KE
 split
 ·rename_i z f s v s' hz hi
  cases hw:Vv f z.1.guard with
  | none=>rfl
  | some b=>
   cases b with
   | false=>rfl
   | true=>
    obtain⟨f',v',s'',he⟩:=allSt_at hs hi
    injection he with e1 e2 e3 e4
    have hit:=drun_item zs 0 st.next fr st none its frE st h q.1 z f s v s' hz hi hw
    have hb':=hb q hq f s v s' hi
    have key:(W0 z.1.op f||YF Γ (Wf zs q.1 st.next) f st z.1.op v)=true:=by
     rw[e2] at hit
     simp only[YF,hit,hb',XS]
    simp only
    split
    ·exact key
    ·split
     ·rename_i hk
      obtain⟨_,_,_,he'⟩:=allSt_at hs hk
      injection he' with _ e5
      rw[e5];exact key
     ·rename_i hk
      obtain⟨_,_,_,he'⟩:=allSt_at hs hk
      cases he'
     ·rfl
 ·rfl
theorem goodL_cons(d:Dv)(l:List Dv):Dv.goodL gr (d::l)=(d.good gr&&Dv.goodL gr l):=by simp only[Dv.goodL]
theorem bint(n:Int):V8 (.int .i64 n) (.int .i64 n)=true:=by simp only[V8,Sy,Z3,Qy]
set_option maxHeartbeats 4000000 in
theorem right_run(d:Dv):∀(n:Nat) (Y:Vi) (F:Nat->Prop) (st:St) (cs:List AV),VU F st d cs->(∀ i,F i->i < st.next)->d.fz+4100<=n->∃ st',R n Y 157 [.agg cs] st=.ret (.bool (d.good gr)) st'/\Vd st st':=by
 induction hs:d.fz using Nat.strongRecOn generalizing d with
 | _ s ih=>
 intro n Y F st cs hr hF hn
 cases d with
 | mk r nv ev vs nl ex l=>
 simp only[VU] at hr
 obtain⟨sv,xv,sl,xs,rfl,hsv,hrv,hsl,hrs⟩:=hr
 simp only[Dv.fz] at hs
 obtain⟨m,rfl⟩:∃ m,n=m+1:=⟨n - 1,by omega⟩
 have b00:Nat.beq 0 0=true:=rfl
 have b22:Nat.beq 2 2=true:=rfl
 have hxl:=hrs.len
 have hxv:=hrv.len
 have hbl:=hsl.beq (VI.beq l xs hrs)
 have hbv:=hsv.beq (Vy.beq vs xv hrv)
 have lenl:=hsl.len st
 have lenv:=hsv.len st
 have car:((gT m).cg Y).fn 214 [.int .i64 r] st=.ret (ZI ((arN r))) st:=by
  obtain⟨m',rfl⟩:∃ m',m=m'+1:=⟨m - 1,by omega⟩
  exact arity2_run m' Y r st
 have cva:((gT m).cg Y).fn 215 [.int .i64 r] st=.ret (ZI ((vaN r))) st:=by
  obtain⟨m',rfl⟩:∃ m',m=m'+1:=⟨m - 1,by omega⟩
  exact values2_run m' Y r st
 have e1:Vr false .lss (.int .i64 r) (ZI 1)=some (.bool (decide (r < 1))):=rfl
 have e2:Vr false .gtr (.int .i64 r) (ZI 19)=some (.bool (decide (r > 19))):=rfl
 have e3:Vr false .neq (ZI xs.length) (ZI ((arN r)))=some (.bool (Int.ofNat l.length != Int.ofNat (arN r))):=by rw[hxl];rfl
 have e4:Vr false .gtr (ZI xv.length) (ZI ((vaN r)))=some (.bool (decide (Int.ofNat vs.length > Int.ofNat (vaN r)))):=by rw[hxv];rfl
 have hgood:Dv.good gr (.mk r nv ev vs nl ex l)=(!(((decide (r < 1)||decide (r > 19))||(Int.ofNat l.length != Int.ofNat (arN r)))||decide (Int.ofNat vs.length > Int.ofNat (vaN r)))&&(vs.all gr&&Dv.goodL gr l)):=by
  simp only[Dv.good,Bool.not_or,Bool.and_assoc]
  have h1:decide (1<=r)=!decide (r < 1):=by by_cases h:r < 1<;>simp[h]<;>omega
  have h2:decide (r<=19)=!decide (r > 19):=by by_cases h:r > 19<;>simp[h]<;>omega
  have h3:(l.length==arN r)=!(Int.ofNat l.length != Int.ofNat (arN r)):=by
   by_cases h:l.length=arN r
   ·simp[h]
   ·have a1:(Int.ofNat l.length != Int.ofNat (arN r))=true:=by simp;omega
    have a2:(l.length==arN r)=false:=by simpa using h
    rw[a1,a2];rfl
  have h4:decide (vs.length<=vaN r)=!decide (Int.ofNat vs.length > Int.ofNat (vaN r)):=by
   by_cases h:vs.length<=vaN r
   ·have a1:decide (Int.ofNat vs.length > Int.ofNat (vaN r))=false:=Qp (by simp;omega)
    rw[a1,Qs h];rfl
   ·have a1:decide (Int.ofNat vs.length > Int.ofNat (vaN r))=true:=Qs (by simp;omega)
    rw[a1,Qp h];rfl
  rw[h1,h2,h3,h4]
 rw[hgood]
 generalize decide (r < 1)=B1 at *
 generalize decide (r > 19)=B2 at *
 generalize (Int.ofNat l.length != Int.ofNat (arN r))=B3 at *
 generalize decide (Int.ofNat vs.length > Int.ofNat (vaN r))=B4 at *
 obtain⟨fA14,hA14⟩:∃ fA,fA=Vo 0 [.agg [.int .i64 r,sv,sl]] Fr.nil:=⟨_,rfl⟩
 have gA14_0:=gAt hA14 0
 have dA14:fA14.ds=[]:=by rw[hA14];rfl
 obtain⟨J15,H15,O15_1,O15_2⟩:∃ fr',ar m Y [ZO 1 (.box true (.t 0)),ZM 2 (ZB false)] fA14 st=.ok fr' st/\fr'.get 1=some (.fptr [.int .i64 r,sv,sl] 0)/\fr'.get 2=some (.bool false):=⟨_,by simp only[amE,rQ,↓reduceIte,rA,gA14_0]<;>rfl,gn gh,gh⟩
 have W15:=ad H15 dA14
 obtain⟨fD,hD,kD,oD⟩:∃ fr',VK ((gT m).cg Y) g76_5 [(10,some 14),(10,some 23),(11,some 14),(11,some 23),(19,some 23),(19,none),(20,some 23),(20,none)] J15 st=.ok fr' st/\Kp [1] J15 fr'/\fr'.get 30=some (.bool (((B1||B2)||B3)||B4)):=by
  cases B1 with
  | true=>
   refine⟨?v1ta,?v1tb,?v1tc,?v1td⟩
   case v1tb=>
    refine Km (its:=?v1ti) rfl ?v1tx ?v1ty ?v1tz ?v1tw
    case v1tx=>
     simp only[amE,rQ,↓reduceIte,rA,g76_5,WH,drun_g,WU,DR.cons,V5,VJ,O15_1,faf,Y7,Yg,WB,lenl,lenv,car,cva,e1,e2,e3,e4,Qc,Qb]
     rfl
    case v1ty=>rfl
    case v1tz=>
     repeat' first | exact trivial | refine⟨rfl,?_⟩
    case v1tw=>
     intro q hq f s v s' hi
     simp only[Qx,QI,Xh] at hq
     rcases hq with rfl | rfl | rfl | rfl | rfl | rfl | rfl | rfl<;>(have e:=(DIt.val.inj (XW hi)).2.2.1;rw[<-e];first | exact hbl | exact hbv | exact bint _ | rfl)
   case v1tc=>repeat (first | exact Kp.refl | refine Kp.set (by decide) ?_)
   case v1td=>simp only[Fr.get_set,rQ,↓reduceIte,QU,QL]
  | false=>
   cases B2 with
   | true=>
    refine⟨?v2ta,?v2tb,?v2tc,?v2td⟩
    case v2tb=>
     refine Km (its:=?v2ti) rfl ?v2tx ?v2ty ?v2tz ?v2tw
     case v2tx=>
      simp only[amE,rQ,↓reduceIte,rA,g76_5,WH,drun_g,WU,DR.cons,V5,VJ,O15_1,faf,Y7,Yg,WB,lenl,lenv,car,cva,e1,e2,e3,e4,Qc,Qb]
      rfl
     case v2ty=>rfl
     case v2tz=>
      repeat' first | exact trivial | refine⟨rfl,?_⟩
     case v2tw=>
      intro q hq f s v s' hi
      simp only[Qx,QI,Xh] at hq
      rcases hq with rfl | rfl | rfl | rfl | rfl | rfl | rfl | rfl<;>(have e:=(DIt.val.inj (XW hi)).2.2.1;rw[<-e];first | exact hbl | exact hbv | exact bint _ | rfl)
    case v2tc=>repeat (first | exact Kp.refl | refine Kp.set (by decide) ?_)
    case v2td=>simp only[Fr.get_set,rQ,↓reduceIte,QU,QL]
   | false=>
    cases B3 with
    | true=>
     refine⟨?v3ta,?v3tb,?v3tc,?v3td⟩
     case v3tb=>
      refine Km (its:=?v3ti) rfl ?v3tx ?v3ty ?v3tz ?v3tw
      case v3tx=>
       simp only[amE,rQ,↓reduceIte,rA,g76_5,WH,drun_g,WU,DR.cons,V5,VJ,O15_1,faf,Y7,Yg,WB,lenl,lenv,car,cva,e1,e2,e3,e4,Qc,Qb]
       rfl
      case v3ty=>rfl
      case v3tz=>
       repeat' first | exact trivial | refine⟨rfl,?_⟩
      case v3tw=>
       intro q hq f s v s' hi
       simp only[Qx,QI,Xh] at hq
       rcases hq with rfl | rfl | rfl | rfl | rfl | rfl | rfl | rfl<;>(have e:=(DIt.val.inj (XW hi)).2.2.1;rw[<-e];first | exact hbl | exact hbv | exact bint _ | rfl)
     case v3tc=>repeat (first | exact Kp.refl | refine Kp.set (by decide) ?_)
     case v3td=>simp only[Fr.get_set,rQ,↓reduceIte,QU,QL]
    | false=>
     cases B4 with
     | true=>
      refine⟨?v4ta,?v4tb,?v4tc,?v4td⟩
      case v4tb=>
       refine Km (its:=?v4ti) rfl ?v4tx ?v4ty ?v4tz ?v4tw
       case v4tx=>
        simp only[amE,rQ,↓reduceIte,rA,g76_5,WH,drun_g,WU,DR.cons,V5,VJ,O15_1,faf,Y7,Yg,WB,lenl,lenv,car,cva,e1,e2,e3,e4,Qc,Qb]
        rfl
       case v4ty=>rfl
       case v4tz=>
        repeat' first | exact trivial | refine⟨rfl,?_⟩
       case v4tw=>
        intro q hq f s v s' hi
        simp only[Qx,QI,Xh] at hq
        rcases hq with rfl | rfl | rfl | rfl | rfl | rfl | rfl | rfl<;>(have e:=(DIt.val.inj (XW hi)).2.2.1;rw[<-e];first | exact hbl | exact hbv | exact bint _ | rfl)
      case v4tc=>repeat (first | exact Kp.refl | refine Kp.set (by decide) ?_)
      case v4td=>simp only[Fr.get_set,rQ,↓reduceIte,QU,QL]
     | false=>
      refine⟨?v4fa,?v4fb,?v4fc,?v4fd⟩
      case v4fb=>
       refine Km (its:=?v4fi) rfl ?v4fx ?v4fy ?v4fz ?v4fw
       case v4fx=>
        simp only[amE,rQ,↓reduceIte,rA,g76_5,WH,drun_g,WU,DR.cons,V5,VJ,O15_1,faf,Y7,Yg,WB,lenl,lenv,car,cva,e1,e2,e3,e4,Qc,Qb]
        rfl
       case v4fy=>rfl
       case v4fz=>
        repeat' first | exact trivial | refine⟨rfl,?_⟩
       case v4fw=>
        intro q hq f s v s' hi
        simp only[Qx,QI,Xh] at hq
        rcases hq with rfl | rfl | rfl | rfl | rfl | rfl | rfl | rfl<;>(have e:=(DIt.val.inj (XW hi)).2.2.1;rw[<-e];first | exact hbl | exact hbv | exact bint _ | rfl)
      case v4fc=>repeat (first | exact Kp.refl | refine Kp.set (by decide) ?_)
      case v4fd=>simp only[Fr.get_set,rQ,↓reduceIte,QU,QL]
 have qD:=kD.at (k:=1) (by decide) O15_1
 have dD:=kD.1.trans W15
 generalize (((B1||B2)||B3)||B4)=BB at *
 cases BB with
 | true=>
  obtain⟨J16,H16,O16_2⟩:∃ fr',ar m Y [ZM 2 (ZB false)] fD st=.ok fr' st/\fr'.get 2=some (.bool false):=⟨_,by simp only[amE,rQ,↓reduceIte,rA]<;>rfl,gh⟩
  have W16:=ad H16 dD
  refine⟨st,Ve (mf:=kf76) (fr:=J16) t157 rfl (.inl ?q16) W16 (by simp only[kf76,Vg,Vu,V0,O16_2,Qg,Ql,Qc,Q8]),Vd.refl st⟩
  case q16=>
   rw[<-hA14]
   simp only[amE,rQ,↓reduceIte,rA,kf76,b00,H15,hD,H16,oD]
 | false=>
  rw[Qb,Q3]
  obtain⟨J17,H17,O17_3⟩:∃ fr',ar m Y [ZM 3 (ZC 0)] fD st=.ok fr' st/\fr'.get 3=some Z0:=⟨_,by simp only[amE,rQ,↓reduceIte,rA]<;>rfl,gh⟩
  have V17_1:=ag H17 qD
  have W17:=ad H17 dD
  have hC0:∀ k fr s,k<=xv.length->Kp [1] J17 fr->fr.get 3=some (ZI k)->(Vd st s/\(vs.drop k).all gr=vs.all gr) ->
    ∃ fr',ar m Y cf76_0 fr s=.ok fr' s/\Kp [3,1] fr fr'/\fr'.get 35=some (.bool (decide (k < xv.length)))/\(Vd st s/\(vs.drop k).all gr=vs.all gr):=by
   intro k fr s hk hkp gi hq
   have q1:=hkp.at (k:=1) (by decide) V17_1
   have hlen:=hsv.len s
   refine⟨?m0,?m1,?m2,?m03,hq⟩
   case m1=>
    simp only[amE,rQ,↓reduceIte,rA,cf76_0,q1,gi,faf,Yg,hlen,lssD]
    rfl
   case m2=>repeat (first | exact Kp.refl | refine Kp.set (by decide) ?_)
   case m03=>simp only[Fr.get_set,rQ,↓reduceIte]
  have hB0:∀ k fr s,k < xv.length->Kp [1] J17 fr->fr.get 3=some (ZI k)->(Vd st s/\(vs.drop k).all gr=vs.all gr) ->
    (∃ FR s',ac m Y bf76_0 none fr s=.norm FR s'/\Kp [3,1] fr FR/\(Vd st s'/\(vs.drop (k+1)).all gr=vs.all gr)) ∨
    (∃ FR s',ac m Y bf76_0 none fr s=.ret FR s'/\(FR.ds=[]/\FR.get 2=some (.bool false)/\Vd st s'/\vs.all gr=false)):=by
   intro k fr s hk hkp gi ⟨hks,hq⟩
   obtain⟨t,ht,hdr⟩:=WR (l:=vs) (k:=k) (by omega)
   obtain⟨x,hx,hrx⟩:=hrv.at ht
   obtain⟨p,ia,ld⟩:=hsv.at hx
   have hsame:Vs F st s:=Vs.of (hks) hF
   have ld:=ld s hsame
   have hfz:=Tm.fzL_mem (Qr ht)
   obtain⟨s',hcall0,hk'⟩:=rGround_run t m Y F s x (hrx.mono hsame fun _ h=>h) (fun i hi=>Qz (hF i hi) hks.1) (by omega)
   have hcall:((gT m).cg Y).fn 105 [.agg x] s=.ret (.bool (gr t)) s':=hcall0
   have q1:=hkp.at (k:=1) (by decide) V17_1
   rw[hdr,QN] at hq
   generalize gr t=ok at *
   obtain⟨J18,H18,K18,O18_44⟩:∃ fr',ar m Y g76_0 fr s=.ok fr' s'/\Kp [1,3] fr fr'/\fr'.get 44=some (.bool (!ok)):=⟨_,by simp only[amE,rQ,↓reduceIte,rA,q1,gi,g76_0,faf,Yg,ia,ld,hcall,unN,Qc,Qb]<;>rfl,Kp.refl.s.s.s.s.s.s.s,gh⟩
   cases ok with
   | true=>
    refine .inl ⟨J18,s',?q18,K18.sub (by decide),hks.trans hk',by simpa using hq⟩
    case q18=>simp only[amE,rQ,↓reduceIte,rA,bf76_0,H18,O18_44,Qc]
   | false=>
    obtain⟨J19,H19,O19_2⟩:∃ fr',ar m Y [ZM 2 (ZB false)] J18 s'=.ok fr' s'/\fr'.get 2=some (.bool false):=⟨_,by simp only[amE,rQ,↓reduceIte,rA]<;>rfl,gh⟩
    refine .inr ⟨J19,s',?q19,ad H19 (K18.1.trans (hkp.1.trans W17)),O19_2,hks.trans hk',by rw[<-hq];rfl⟩
    case q19=>simp only[amE,rQ,↓reduceIte,rA,bf76_0,H18,H19,O18_44,Qb]
  rcases U4 (Γ:=(gT m)) (Y:=Y) (m:=m) (N:=xv.length) (c:=35) (i:=3) (j1:=36) (j2:=37) (b:=0) (b1:=1) (ro:=none) (C:=cf76_0) (B:=bf76_0) (L:=[1]) (fr0:=J17) (by decide) (by decide) (by decide) hsv.2.1
   (Q:=fun k _ s=>Vd st s/\(vs.drop k).all gr=vs.all gr) (fun _ _ _ _ _ _ h=>h) hC0 hB0 xv.length 0 J17 st m (by omega) (by omega) Kp.refl O17_3 ⟨Vd.refl st,rfl⟩
   with⟨FR,s2,h1,h2,h3,h4⟩|⟨FR,s2,h1,h2,h3,h4,h5⟩
  rotate_left
  ·rw[h5,Q8]
   refine⟨s2,Ve (mf:=kf76) (fr:=FR) t157 rfl (.inl ?w3) h2 (by simp only[kf76,Vg,Vu,V0,h3,Qg,Ql]),h4⟩
   case w3=>
    rw[<-hA14]
    simp only[amE,rQ,↓reduceIte,rA,kf76,b00,H15,hD,H17,oD,h1]
  rw[hxv,Xr,QW] at h4
  rw[<-h4,Q3]
  have z1:=h2.at (k:=1) (by decide) V17_1
  have dF:=h2.1.trans W17
  obtain⟨J20,H20,O20_4⟩:∃ fr',ar m Y [ZM 4 (ZC 0)] FR s2=.ok fr' s2/\fr'.get 4=some Z0:=⟨_,by simp only[amE,rQ,↓reduceIte,rA]<;>rfl,gh⟩
  have V20_1:=ag H20 z1
  have W20:=ad H20 dF
  have hC1:∀ k fr s,k<=xs.length->Kp [1] J20 fr->fr.get 4=some (ZI k)->(Vd s2 s/\Dv.goodL gr (l.drop k)=Dv.goodL gr l) ->
    ∃ fr',ar m Y cf76_1 fr s=.ok fr' s/\Kp [4,1] fr fr'/\fr'.get 49=some (.bool (decide (k < xs.length)))/\(Vd s2 s/\Dv.goodL gr (l.drop k)=Dv.goodL gr l):=by
   intro k fr s hk hkp gi hq
   have q1:=hkp.at (k:=1) (by decide) V20_1
   have hlen:=hsl.len s
   refine⟨?m115,?m11,?m12,?m13,hq⟩
   case m11=>
    simp only[amE,rQ,↓reduceIte,rA,cf76_1,q1,gi,faf,WB,hlen,lssD]
    rfl
   case m12=>repeat (first | exact Kp.refl | refine Kp.set (by decide) ?_)
   case m13=>simp only[Fr.get_set,rQ,↓reduceIte]
  have hB1:∀ k fr s,k < xs.length->Kp [1] J20 fr->fr.get 4=some (ZI k)->(Vd s2 s/\Dv.goodL gr (l.drop k)=Dv.goodL gr l) ->
    (∃ FR s',ac m Y bf76_1 none fr s=.norm FR s'/\Kp [4,1] fr FR/\(Vd s2 s'/\Dv.goodL gr (l.drop (k+1))=Dv.goodL gr l)) ∨
    (∃ FR s',ac m Y bf76_1 none fr s=.ret FR s'/\(FR.ds=[]/\FR.get 2=some (.bool false)/\Vd s2 s'/\Dv.goodL gr l=false)):=by
   intro k fr s hk hkp gi ⟨hks,hq⟩
   obtain⟨t,ht,hdr⟩:=WR (l:=l) (k:=k) (by omega)
   obtain⟨x,hx,hrx⟩:=hrs.at ht
   obtain⟨p,ia,ld⟩:=hsl.at hx
   have hsame:Vs F st s:=Vs.of (h3.trans hks) hF
   have ld:=ld s hsame
   have hfz:=Dv.fzL_mem (Qr ht)
   obtain⟨s',hcall0,hk'⟩:=ih t.fz (by omega) t rfl m Y F s x (hrx.mono hsame fun _ h=>h) (fun i hi=>Qz (hF i hi) (h3.trans hks).1) (by omega)
   have hcall:((gT m).cg Y).fn 157 [.agg x] s=.ret (.bool (t.good gr)) s':=hcall0
   have q1:=hkp.at (k:=1) (by decide) V20_1
   rw[hdr,goodL_cons] at hq
   generalize Dv.good gr t=ok at *
   obtain⟨J21,H21,K21,O21_58⟩:∃ fr',ar m Y g76_2 fr s=.ok fr' s'/\Kp [1,4] fr fr'/\fr'.get 58=some (.bool (!ok)):=⟨_,by simp only[amE,rQ,↓reduceIte,rA,q1,gi,g76_2,faf,WB,ia,ld,hcall,unN,Qc,Qb]<;>rfl,Kp.refl.s.s.s.s.s.s.s,gh⟩
   cases ok with
   | true=>
    refine .inl ⟨J21,s',?q21,K21.sub (by decide),hks.trans hk',by simpa using hq⟩
    case q21=>simp only[amE,rQ,↓reduceIte,rA,bf76_1,H21,O21_58,Qc]
   | false=>
    obtain⟨J22,H22,O22_2⟩:∃ fr',ar m Y [ZM 2 (ZB false)] J21 s'=.ok fr' s'/\fr'.get 2=some (.bool false):=⟨_,by simp only[amE,rQ,↓reduceIte,rA]<;>rfl,gh⟩
    refine .inr ⟨J22,s',?q22,ad H22 (K21.1.trans (hkp.1.trans W20)),O22_2,hks.trans hk',by rw[<-hq];rfl⟩
    case q22=>simp only[amE,rQ,↓reduceIte,rA,bf76_1,H21,H22,O21_58,Qb]
  rcases U4 (Γ:=(gT m)) (Y:=Y) (m:=m) (N:=xs.length) (c:=49) (i:=4) (j1:=50) (j2:=51) (b:=2) (b1:=3) (ro:=none) (C:=cf76_1) (B:=bf76_1) (L:=[1]) (fr0:=J20) (by decide) (by decide) (by decide) hsl.2.1
   (Q:=fun k _ s=>Vd s2 s/\Dv.goodL gr (l.drop k)=Dv.goodL gr l) (fun _ _ _ _ _ _ h=>h) hC1 hB1 xs.length 0 J20 s2 m (by omega) (by omega) Kp.refl O20_4 ⟨Vd.refl s2,rfl⟩
   with⟨FR2,s3,i1,i2,i3,i4⟩|⟨FR2,s3,i1,i2,i3,i4,i5⟩
  ·rw[hxl,Xr] at i4
   have i5:Dv.goodL gr l=true:=by rw[<-i4];simp only[Dv.goodL]
   rw[i5]
   refine⟨s3,Ve (mf:=kf76) (fr:=FR2.set 2 (some (.bool true))) t157 rfl (.inl ?w5) (i2.1.trans W20) ?w6,h3.trans i3⟩
   case w5=>
    rw[<-hA14]
    simp only[amE,rQ,↓reduceIte,rA,kf76,b00,b22,H15,hD,H17,h1,H20,oD,i1]
   case w6=>simp only[kf76,Vg,Vu,V0,Fr.get_set,↓reduceIte,Qg,Ql]
  ·rw[i5]
   refine⟨s3,Ve (mf:=kf76) (fr:=FR2) t157 rfl (.inl ?w7) i2 (by simp only[kf76,Vg,Vu,V0,i3,Qg,Ql]),h3.trans i4⟩
   case w7=>
    rw[<-hA14]
    simp only[amE,rQ,↓reduceIte,rA,kf76,b00,b22,H15,hD,H17,h1,H20,oD,i1]
end
noncomputable section
open Nat renaming reduceEqDiff -> rQ, reduceAdd -> rA
theorem rIsD_run(d:Dv)(n:Nat)(Y:Vi)(F:Nat->Prop)(st:St)(cs:List AV)(hr:VU F st d cs)(hF:∀ i,F i->i < st.next)(hn:d.fz+4101<=n):
  ∃ st',R n Y 106 [.agg cs] st=.ret (.bool (isDv d)) st'/\Vd st st':=by
 obtain⟨m,rfl⟩:∃ m,n=m+1:=⟨n - 1,by omega⟩
 have b00:Nat.beq 0 0=true:=rfl
 have h3:=hr.cells3
 have c1:((gT m).cg Y).fn 156 [.agg cs,ZI 4000,ZI 1] st=.ret (.tuple [.int .i64 (rcD d 4000 1).1,.bool (rcD d 4000 1).2]) st:=counted47 d m Y F st (.ofNat 4000) (.ofNat 1) cs hr (by omega)
 obtain⟨s1,c2,hk⟩:=right_run d m Y F st cs hr hF (by omega)
 have c2:((gT m).cg Y).fn 157 [.agg cs] st=.ret (.bool (d.good gr)) s1:=c2
 obtain⟨a1,a2,a3,rfl⟩:∃ a1 a2 a3,cs=[a1,a2,a3]:=by
  match cs,h3.1 with
  | [x,y,z],_=>exact⟨x,y,z,rfl⟩
 rw[<-rIsD_eq]
 unfold rIsD
 generalize (rcD d 4000 1).1=L at *
 generalize (rcD d 4000 1).2=ok at *
 generalize d.good gr=V at *
 obtain⟨fA23,hA23⟩:∃ fA,fA=Vo 0 [.agg [a1,a2,a3]] Fr.nil:=⟨_,rfl⟩
 have gA23_0:=gAt hA23 0
 have dA23:fA23.ds=[]:=by rw[hA23];rfl
 obtain⟨J24,H24,O24_1⟩:∃ fr',ar m Y [ZO 1 (.box true (.t 0)),ZM 2 (ZB false)] fA23 st=.ok fr' st/\fr'.get 1=some (.fptr [a1,a2,a3] 0):=⟨_,by simp only[amE,rQ,↓reduceIte,rA,gA23_0]<;>rfl,gn gh⟩
 have W24:=ad H24 dA23
 obtain⟨J25,H25,O25_4⟩:∃ fr',ar m Y g49_1 J24 st=.ok fr' st/\fr'.get 4=some (.bool ok):=⟨_,by simp only[amE,rQ,↓reduceIte,rA,O24_1,g49_1,JZ,c1,ex20,ex21]<;>rfl,gh⟩
 have V25_1:=ag H25 O24_1
 have W25:=ad H25 W24
 cases ok with
 | true=>
  rw[Q3]
  obtain⟨J26,H26,O26_2⟩:∃ fr',ar m Y g49_2 J25 st=.ok fr' s1/\fr'.get 2=some (.bool V):=⟨_,by simp only[amE,rQ,↓reduceIte,rA,V25_1,O25_4,g49_2,JZ,c2,Qc,Qb]<;>rfl,gh⟩
  have W26:=ad H26 W25
  refine⟨s1,Ve (mf:=kf49) (fr:=J26) t106 rfl (.inl ?q26) W26 (by simp only[kf49,Vg,Vu,V0,O26_2,Qg,Ql]),hk⟩
  case q26=>
   rw[<-hA23]
   simp only[amE,rQ,↓reduceIte,rA,kf49,b00,H24,H25,H26]
 | false=>
  rw[Q8]
  obtain⟨J27,H27,O27_2⟩:∃ fr',ar m Y g49_2 J25 st=.ok fr' st/\fr'.get 2=some (.bool false):=⟨_,by simp only[amE,rQ,↓reduceIte,rA,V25_1,O25_4,g49_2,JZ,c2,Qc,Qb]<;>rfl,gh⟩
  have W27:=ad H27 W25
  refine⟨st,Ve (mf:=kf49) (fr:=J27) t106 rfl (.inl ?q27) W27 (by simp only[kf49,Vg,Vu,V0,O27_2,Qg,Ql]),Vd.refl _⟩
  case q27=>
   rw[<-hA23]
   simp only[amE,rQ,↓reduceIte,rA,kf49,b00,H24,H25,H27]
end
theorem flatZ{z:Nat}:∀{xs:List (List AV)},(∀ x∈xs,x.length=z)->∀{i:Nat} {x rest:List AV},xs[i]?=some x->((xs.flatten++rest).drop (i*z)).take z=x
 | [],_,i,x,_,h=>by simp at h
 | y::ys,hz,0,x,rest,h=>by
  simp only[Q0,Qa] at h;subst h
  have hy:=hz y (by simp)
  simp only[Xc,Nat.zero_mul,Xw,Xb]
  rw[XG (by omega),Xx (by omega)]
 | y::ys,hz,i+1,x,rest,h=>by
  simp only[QE] at h
  have hy:=hz y (by simp)
  have:=flatZ (rest:=rest) (fun x hx=>hz x (by simp[hx])) h
  rw[<-this]
  congr 1
  simp only[Xc,Xb]
  rw[show (i+1)*z=y.length+i*z by rw[Xv,hy];omega,ZZ]
  simp
theorem flatZ_len{z:Nat}:∀{xs:List (List AV)},(∀ x∈xs,x.length=z)->xs.flatten.length=xs.length*z
 | [],_=>by simp
 | y::ys,h=>by
  simp only[Xc,QJ,QC]
  rw[flatZ_len fun x hx=>h x (by simp[hx]),h y (by simp),Xv];omega
def SlN(z:Nat)(F:Nat->Prop)(st:St)(sl:AV)(xs:List (List AV)):Prop:=
 0 < z/\(∀ x∈xs,x.length=z/\x.all AV.one=true)/\xs.length<=4611686018427387904 ∧
 ((sl=.nilsl/\xs=[])\/(∃ ex,sl=.lst xs.length xs.flatten ex)\/(∃ id cap lo rest,sl=.own id 0 xs.length z cap lo/\F id/\st.get id=some (.row (xs.flatten++rest))))
theorem SlN.mono{z:Nat}{F G:Nat->Prop}{s a:St}{sl:AV}{xs:List (List AV)}(h:SlN z F s sl xs)(k:Vs F s a)(hFG:∀ i,F i->G i):SlN z G a sl xs:=by
 obtain⟨h0,h1,h2,h3⟩:=h
 refine⟨h0,h1,h2,?_⟩
 rcases h3 with h | h|⟨id,cap,lo,rest,h,hi,hg⟩
 ·exact .inl h
 ·exact .inr (.inl h)
 ·exact .inr (.inr ⟨id,cap,lo,rest,h,hFG _ hi,k.get hi hg⟩)
theorem SlN.nil{z:Nat}(hz:0 < z)(F:Nat->Prop)(st:St):SlN z F st .nilsl []:=⟨hz,fun _ h=>by simp at h,X3 _,.inl ⟨rfl,rfl⟩⟩
theorem SlN.lst{z:Nat}(hz:0 < z)(F:Nat->Prop)(st:St){n:Nat}{xs:List (List AV)}{cs:List AV}{ex:Bool}(h:∀ x∈xs,x.length=z/\x.all AV.one=true)(hb:xs.length<=4611686018427387904)(hn:n=xs.length)(hc:cs=xs.flatten):SlN z F st (.lst n cs ex) xs:=
 ⟨hz,h,hb,.inr (.inl ⟨ex,by rw[hn,hc]⟩)⟩
theorem SlN.one{z:Nat}{F:Nat->Prop}{st:St}{sl:AV}{xs:List (List AV)}(h:SlN z F st sl xs):AV.one sl=true:=by
 rcases h.2.2.2 with⟨rfl,_⟩|⟨ex,rfl⟩|⟨id,cap,lo,rest,rfl,_⟩<;>rfl
theorem SlN.len{z:Nat}{F:Nat->Prop}{st:St}{sl:AV}{xs:List (List AV)}(h:SlN z F st sl xs)(st':St):(bif VD 0 sl then Wm st' sl else none)=some (ZI xs.length):=by
 rcases h.2.2.2 with⟨rfl,rfl⟩|⟨ex,rfl⟩|⟨id,cap,lo,rest,rfl,_⟩<;>rfl
theorem SlN.ptr{z:Nat}{F:Nat->Prop}{st:St}{sl:AV}{xs:List (List AV)}(h:SlN z F st sl xs){k:Nat}{x:List AV}(hx:xs[k]?=some x):
  ∃ p,VC z sl (ZI k)=some p/\∀ st',Vs F st st'->∃ cs,Wy st' p=some cs/\cs.take z=x:=by
 obtain⟨h0,h1,h2,h3⟩:=h
 have hk:=(Qt.1 hx).1
 have hz:=fun x hx=>(h1 x hx).1
 rcases h3 with⟨rfl,rfl⟩|⟨ex,rfl⟩|⟨id,cap,lo,rest,rfl,hi,hg⟩
 ·simp at hk
 ·refine⟨.fptr xs.flatten (k*z),?_,fun st' _=>⟨xs.flatten.drop (k*z),rfl,?_⟩⟩
  ·simp only[VC]
   rw[Qo (show k+1<=xs.length from hk)]
   simp only[Qi]
   split
   ·rename_i he
    have hl:=flatZ_len hz
    rw[he] at hl
    have:0 < xs.length*z:=Nat.mul_pos (by omega) h0
    simp at hl;omega
   ·rfl
  ·have:=flatZ (rest:=[]) hz hx
   simpa using this
 ·refine⟨.ptr id (0+k*z),?_,fun st' hk'=>⟨(xs.flatten++rest).drop (0+k*z),?_,?_⟩⟩
  ·simp only[VC]
   rw[Qo (show k+1<=xs.length from hk),QD]
   rfl
  ·simp only[Wy,hk'.get hi hg]
  ·rw[Q7];exact flatZ hz hx
theorem SlN.at{z:Nat}{F:Nat->Prop}{st:St}{sl:AV}{xs:List (List AV)}(h:SlN z F st sl xs){k:Nat}{x:List AV}(hx:xs[k]?=some x):
  ∃ p,VC z sl (ZI k)=some p/\∀ st',Vs F st st'->Vf true z st' p=some (.agg x):=by
 obtain⟨p,h1,h2⟩:=h.ptr hx
 refine⟨p,h1,fun st' hs=>?_⟩
 obtain⟨cs,h3,h4⟩:=h2 st' hs
 have hl:=(h.2.1 x (Qr hx)).1
 simp only[Vf,h3,Qg,h4,Ja,Qi,hl,QD]
theorem SlN.at1{F:Nat->Prop}{st:St}{sl:AV}{xs:List AV}(h:SlN 1 F st sl (xs.map fun x=>[x])){k:Nat}{x:AV}(hx:xs[k]?=some x):
  ∃ p,VC 1 sl (ZI k)=some p/\∀ st',Vs F st st'->Vf false 1 st' p=some x:=by
 obtain⟨p,h1,h2⟩:=h.ptr (x:=[x]) (by rw[Q5,hx];rfl)
 refine⟨p,h1,fun st' hs=>?_⟩
 obtain⟨cs,h3,h4⟩:=h2 st' hs
 simp only[Vf,h3,Qg,h4,Ja,Qq]
noncomputable section
open Nat renaming reduceEqDiff -> rQ, reduceAdd -> rA
abbrev SlI(F:Nat->Prop)(st:St)(sl:AV)(xs:List Int):Prop:=SlN 1 F st sl ((xs.map (AV.int .i64)).map fun x=>[x])
theorem SlI.len{F:Nat->Prop}{st:St}{sl:AV}{xs:List Int}(h:SlI F st sl xs)(st':St):(bif VD 0 sl then Wm st' sl else none)=some (ZI xs.length):=by
 have:=SlN.len h st'
 simpa using this
theorem SlI.at{F:Nat->Prop}{st:St}{sl:AV}{xs:List Int}(h:SlI F st sl xs){k:Nat}{x:Int}(hx:xs[k]?=some x):
  ∃ p,VC 1 sl (ZI k)=some p/\∀ st',Vs F st st'->Vf false 1 st' p=some (.int .i64 x):=SlN.at1 h (by rw[Q5,hx];rfl)
theorem SlI.bound{F:Nat->Prop}{st:St}{sl:AV}{xs:List Int}(h:SlI F st sl xs):xs.length<=4611686018427387904:=by
 have:=h.2.2.1
 simpa using this
def wb73_0:Vn:=(ZQ [ZV 10 8,ZV 5 10]
 (ZQ [ZV 11 1,ZV 12 0,ZV 13 5,ZP 14 1 12 13,ZL 15 14,ZO 16 (.call (.t 11) [(.t 15)])]
 (.cond (.t 16)
 (ZR [ZV 17 5,ZV 4 17])
 .skip)))
def wf73:Vm:=⟨19,(ZQ [ZM 4 (ZC 0)]
 (.seq (ZQ [ZV 6 0,ZN 7 6,ZM 8 (ZC 0)]
 (.block 0 (.loop (lb 9 8 7 18 wb73_0))))
 (ZR [ZM 4 (.c (.int .i64 (.negSucc 0)))]))),[.t 4]⟩
theorem t73:tbl 73=some wf73:=by kernel_rfl
def wf63:Vm:=⟨9,(ZQ [ZM 4 (ZB false)]
 (ZR [ZV 5 0,ZV 6 1,ZX 7 73 [(.t 5),(.t 6)],ZO 8 (.bin false .geq (.t 7) (ZC 0)),ZV 4 8])),[.t 4]⟩
theorem t63:tbl 63=some wf63:=by kernel_rfl
theorem idx73_run{q n:Nat}{Y:Vi}{F:Nat->Prop}{st0:St}{sl:AV}{xs:List Int}{caps:List AV}{Inv:Nat->St->Prop}{Fin:Nat->St->Prop}(hsl:SlI F st0 sl xs)
  (hI:∀ k s,Inv k s->Vs F st0 s)
  (hcb:∀ k x s,xs[k]?=some x->Inv k s->∃ b s',R n Y q (.int .i64 x::caps) s=.ret (.bool b) s'/\(b=true->Fin k s')/\(b=false->Inv (k+1) s'))
  (st:St) (h0:Inv 0 st) (hn:xs.length < n):
  ∃ r s',R (n+1) Y 73 [sl,.func (.func q) [] caps] st=.ret (.int .i64 r) s'/\((r=.negSucc 0/\Inv xs.length s')\/(∃ j:Nat,r=.ofNat j/\j < xs.length/\Fin j s')):=by
 have hlen:=SlI.len hsl st
 obtain⟨fr0,hfr0,z0,z1,z7,z8,zd⟩:∃ fr0,(∀ L T,ac n Y (ZQ [ZM 4 (ZC 0)] (.seq (ZQ [ZV 6 0,ZN 7 6,ZM 8 (ZC 0)] L) T)) none (Vo 0 [sl,.func (.func q) [] caps] Fr.nil) st=match ac n Y L none fr0 st with
    | .norm fr st=>ac n Y T none fr st
    | r=>r)
   /\ fr0.get 0=some sl/\fr0.get 1=some (.func (.func q) [] caps)/\fr0.get 7=some (ZI xs.length)/\fr0.get 8=some Z0/\fr0.ds=[]:=by
  refine⟨?f0,?f1,?f2,?f3,?f4,?f5,?f7⟩
  case f1=>
   intro L T
   simp only[amE,rQ,↓reduceIte,rA,hlen]
   rfl
  case f2=>simp only[Vo,Fr.get_set,rA,rQ,↓reduceIte]
  case f3=>simp only[Vo,Fr.get_set,rA,rQ,↓reduceIte]
  case f4=>simp only[Fr.get_set,rQ,↓reduceIte]
  case f5=>simp only[Fr.get_set,↓reduceIte]
  case f7=>rfl
 have b00:Nat.beq 0 0=true:=rfl
 have hB:∀ k fr s,k < xs.length->Kp [0,1,7] fr0 fr->fr.get 8=some (ZI k)->Inv k s ->
   (∃ FR s',ac n Y wb73_0 none fr s=.norm FR s'/\Kp [8,0,1,7] fr FR/\Inv (k+1) s') ∨
   (∃ FR s',ac n Y wb73_0 none fr s=.ret FR s'/\(FR.ds=[]/\(∃ j:Nat,FR.get 4=some (ZI j)/\j < xs.length/\Fin j s'))):=by
  intro k fr s hk hkp g8 hi
  have hx:xs[k]?=some xs[k]:=Qn hk
  generalize xs[k]=x at hx
  obtain⟨p,ia,ld⟩:=SlI.at hsl hx
  have ld:=ld s (hI k s hi)
  obtain⟨b,s',hc,h1,h2⟩:=hcb k x s hx hi
  have hc':((gT n).cg Y).fn q (.int .i64 x::caps) s=.ret (.bool b) s':=hc
  have q0:=hkp.at (k:=0) (by decide) z0
  have q1:=hkp.at (k:=1) (by decide) z1
  cases b with
  | true=>
   refine .inr ⟨?r0,s',?r1,?r2,⟨k,?r3,hk,h1 rfl⟩⟩
   case r1=>
    simp only[amE,rQ,↓reduceIte,rA,wb73_0,q0,q1,g8,ia,ld,hc']
    rfl
   case r2=>exact hkp.1.trans zd
   case r3=>simp only[Fr.get_set,↓reduceIte]
  | false=>
   refine .inl ⟨?v0,s',?v1,?v2,h2 rfl⟩
   case v1=>
    simp only[amE,rQ,↓reduceIte,rA,wb73_0,q0,q1,g8,ia,ld,hc']
    rfl
   case v2=>repeat (first | exact Kp.refl | refine Kp.set (by decide) ?_)
 have hbd:=SlI.bound hsl
 rcases kloop (Γ:=gT n) (Y:=Y) (m:=n) (N:=xs.length) (c:=9) (i:=8) (n:=7) (i2:=18) (ro:=none) (L:=[0,1,7]) (fr0:=fr0) (by decide) (by decide) (by decide) (by decide) z7 (by omega)
  (Q:=fun k _ s=>Inv k s) (fun _ _ _ _ _ _ h=>h) hB xs.length 0 fr0 st n (by omega) (by omega) Kp.refl z8 h0
  with⟨FR,s',h1,h2,h3⟩|⟨FR,s',h1,h2,⟨j,h3,h4,h5⟩⟩
 ·refine⟨.negSucc 0,s',Ve (mf:=wf73) (fr:=FR.set 4 (some (.int .i64 (.negSucc 0)))) t73 rfl (.inl ?w1) (h2.1.trans zd) ?w2,.inl ⟨rfl,h3⟩⟩
  case w1=>
   refine (hfr0 _ _).trans ?_
   simp only[amE,rQ,↓reduceIte,rA,h1,b00]
  case w2=>simp only[wf73,amE,Fr.get_set,↓reduceIte]
 ·refine⟨.ofNat j,s',Ve (mf:=wf73) (fr:=FR) t73 rfl (.inl ?w3) h2 ?w4,.inr ⟨j,rfl,h4,h5⟩⟩
  case w3=>
   refine (hfr0 _ _).trans ?_
   simp only[amE,rQ,↓reduceIte,rA,h1,b00]
  case w4=>simp only[wf73,amE,h3]
theorem contains63_run{q n:Nat}{Y:Vi}{F:Nat->Prop}{st0:St}{sl:AV}{xs:List Int}{caps:List AV}{Inv:Nat->St->Prop}{Fin:Nat->St->Prop}(hsl:SlI F st0 sl xs)
  (hI:∀ k s,Inv k s->Vs F st0 s)
  (hcb:∀ k x s,xs[k]?=some x->Inv k s->∃ b s',R n Y q (.int .i64 x::caps) s=.ret (.bool b) s'/\(b=true->Fin k s')/\(b=false->Inv (k+1) s'))
  (st:St) (h0:Inv 0 st) (hn:xs.length < n):
  ∃ b s',R (n+2) Y 63 [sl,.func (.func q) [] caps] st=.ret (.bool b) s'/\((b=false/\Inv xs.length s')\/(b=true/\∃ j,j < xs.length/\Fin j s')):=by
 obtain⟨r,s',hr,hc⟩:=idx73_run hsl hI hcb st h0 hn
 have hr':((gT (n+1)).cg Y).fn 73 [sl,.func (.func q) [] caps] st=.ret (.int .i64 r) s':=hr
 have hg:Vr false .geq (.int .i64 r) Z0=some (.bool (decide (r>=0))):=rfl
 refine⟨decide (r>=0),s',?_,?_⟩
 ·refine Ve (mf:=wf63) (fr:=?a0) t63 rfl (.inl ?a1) ?a2 ?a3
  case a1=>
   simp only[amE,rQ,↓reduceIte,rA,wf63,hr',hg]
   rfl
  case a2=>rfl
  case a3=>simp only[wf63,amE,Fr.get_set,↓reduceIte]
 ·rcases hc with⟨rfl,h⟩|⟨j,rfl,h1,h2⟩
  ·exact .inl ⟨rfl,h⟩
  ·exact .inr ⟨by simp,j,h1,h2⟩
def wb162_0:Vn:=(ZQ [ZV 10 8,ZV 5 10]
 (ZQ [ZV 11 1,ZV 12 0,ZV 13 5,ZP 14 2 12 13,ZK 15 2 14,ZO 16 (.call (.t 11) [(.t 15)])]
 (.cond (.t 16)
 (ZR [ZV 17 5,ZV 4 17])
 .skip)))
def wf162:Vm:=⟨19,(ZQ [ZM 4 (ZC 0)]
 (.seq (ZQ [ZV 6 0,ZN 7 6,ZM 8 (ZC 0)]
 (.block 0 (.loop (lb 9 8 7 18 wb162_0))))
 (ZR [ZM 4 (.c (.int .i64 (.negSucc 0)))]))),[.t 4]⟩
theorem t162:tbl 162=some wf162:=by kernel_rfl
def wf113:Vm:=⟨9,(ZQ [ZM 4 (ZB false)]
 (ZR [ZV 5 0,ZV 6 1,ZX 7 162 [(.t 5),(.t 6)],ZO 8 (.bin false .geq (.t 7) (ZC 0)),ZV 4 8])),[.t 4]⟩
theorem t113:tbl 113=some wf113:=by kernel_rfl
theorem idx162_run{q n:Nat}{Y:Vi}{F:Nat->Prop}{st0:St}{sl:AV}{xs:List (List AV)}{caps:List AV}{Inv:Nat->St->Prop}{Fin:Nat->St->Prop}(hsl:SlN 2 F st0 sl xs)
  (hI:∀ k s,Inv k s->Vs F st0 s)
  (hcb:∀ k x s,xs[k]?=some x->Inv k s->∃ b s',R n Y q (.agg x::caps) s=.ret (.bool b) s'/\(b=true->Fin k s')/\(b=false->Inv (k+1) s'))
  (st:St) (h0:Inv 0 st) (hn:xs.length < n):
  ∃ r s',R (n+1) Y 162 [sl,.func (.func q) [] caps] st=.ret (.int .i64 r) s'/\((r=.negSucc 0/\Inv xs.length s')\/(∃ j:Nat,r=.ofNat j/\j < xs.length/\Fin j s')):=by
 have hlen:=hsl.len st
 obtain⟨fr0,hfr0,z0,z1,z7,z8,zd⟩:∃ fr0,(∀ L T,ac n Y (ZQ [ZM 4 (ZC 0)] (.seq (ZQ [ZV 6 0,ZN 7 6,ZM 8 (ZC 0)] L) T)) none (Vo 0 [sl,.func (.func q) [] caps] Fr.nil) st=match ac n Y L none fr0 st with
    | .norm fr st=>ac n Y T none fr st
    | r=>r)
   /\ fr0.get 0=some sl/\fr0.get 1=some (.func (.func q) [] caps)/\fr0.get 7=some (ZI xs.length)/\fr0.get 8=some Z0/\fr0.ds=[]:=by
  refine⟨?f0,?f1,?f2,?f3,?f4,?f5,?f7⟩
  case f1=>
   intro L T
   simp only[amE,rQ,↓reduceIte,rA,hlen]
   rfl
  case f2=>simp only[Vo,Fr.get_set,rA,rQ,↓reduceIte]
  case f3=>simp only[Vo,Fr.get_set,rA,rQ,↓reduceIte]
  case f4=>simp only[Fr.get_set,rQ,↓reduceIte]
  case f5=>simp only[Fr.get_set,↓reduceIte]
  case f7=>rfl
 have b00:Nat.beq 0 0=true:=rfl
 have hB:∀ k fr s,k < xs.length->Kp [0,1,7] fr0 fr->fr.get 8=some (ZI k)->Inv k s ->
   (∃ FR s',ac n Y wb162_0 none fr s=.norm FR s'/\Kp [8,0,1,7] fr FR/\Inv (k+1) s') ∨
   (∃ FR s',ac n Y wb162_0 none fr s=.ret FR s'/\(FR.ds=[]/\(∃ j:Nat,FR.get 4=some (ZI j)/\j < xs.length/\Fin j s'))):=by
  intro k fr s hk hkp g8 hi
  have hx:xs[k]?=some xs[k]:=Qn hk
  generalize xs[k]=x at hx
  obtain⟨p,ia,ld⟩:=hsl.at hx
  have ld:=ld s (hI k s hi)
  obtain⟨b,s',hc,h1,h2⟩:=hcb k x s hx hi
  have hc':((gT n).cg Y).fn q (.agg x::caps) s=.ret (.bool b) s':=hc
  have q0:=hkp.at (k:=0) (by decide) z0
  have q1:=hkp.at (k:=1) (by decide) z1
  cases b with
  | true=>
   refine .inr ⟨?r0,s',?r1,?r2,⟨k,?r3,hk,h1 rfl⟩⟩
   case r1=>
    simp only[amE,rQ,↓reduceIte,rA,wb162_0,q0,q1,g8,ia,ld,hc']
    rfl
   case r2=>exact hkp.1.trans zd
   case r3=>simp only[Fr.get_set,↓reduceIte]
  | false=>
   refine .inl ⟨?v0,s',?v1,?v2,h2 rfl⟩
   case v1=>
    simp only[amE,rQ,↓reduceIte,rA,wb162_0,q0,q1,g8,ia,ld,hc']
    rfl
   case v2=>repeat (first | exact Kp.refl | refine Kp.set (by decide) ?_)
 have hbd:=hsl.2.2.1
 rcases kloop (Γ:=gT n) (Y:=Y) (m:=n) (N:=xs.length) (c:=9) (i:=8) (n:=7) (i2:=18) (ro:=none) (L:=[0,1,7]) (fr0:=fr0) (by decide) (by decide) (by decide) (by decide) z7 (by omega)
  (Q:=fun k _ s=>Inv k s) (fun _ _ _ _ _ _ h=>h) hB xs.length 0 fr0 st n (by omega) (by omega) Kp.refl z8 h0
  with⟨FR,s',h1,h2,h3⟩|⟨FR,s',h1,h2,⟨j,h3,h4,h5⟩⟩
 ·refine⟨.negSucc 0,s',Ve (mf:=wf162) (fr:=FR.set 4 (some (.int .i64 (.negSucc 0)))) t162 rfl (.inl ?w1) (h2.1.trans zd) ?w2,.inl ⟨rfl,h3⟩⟩
  case w1=>
   refine (hfr0 _ _).trans ?_
   simp only[amE,rQ,↓reduceIte,rA,h1,b00]
  case w2=>simp only[wf162,amE,Fr.get_set,↓reduceIte]
 ·refine⟨.ofNat j,s',Ve (mf:=wf162) (fr:=FR) t162 rfl (.inl ?w3) h2 ?w4,.inr ⟨j,rfl,h4,h5⟩⟩
  case w3=>
   refine (hfr0 _ _).trans ?_
   simp only[amE,rQ,↓reduceIte,rA,h1,b00]
  case w4=>simp only[wf162,amE,h3]
theorem contains113_run{q n:Nat}{Y:Vi}{F:Nat->Prop}{st0:St}{sl:AV}{xs:List (List AV)}{caps:List AV}{Inv:Nat->St->Prop}{Fin:Nat->St->Prop}(hsl:SlN 2 F st0 sl xs)
  (hI:∀ k s,Inv k s->Vs F st0 s)
  (hcb:∀ k x s,xs[k]?=some x->Inv k s->∃ b s',R n Y q (.agg x::caps) s=.ret (.bool b) s'/\(b=true->Fin k s')/\(b=false->Inv (k+1) s'))
  (st:St) (h0:Inv 0 st) (hn:xs.length < n):
  ∃ b s',R (n+2) Y 113 [sl,.func (.func q) [] caps] st=.ret (.bool b) s'/\((b=false/\Inv xs.length s')\/(b=true/\∃ j,j < xs.length/\Fin j s')):=by
 obtain⟨r,s',hr,hc⟩:=idx162_run hsl hI hcb st h0 hn
 have hr':((gT (n+1)).cg Y).fn 162 [sl,.func (.func q) [] caps] st=.ret (.int .i64 r) s':=hr
 have hg:Vr false .geq (.int .i64 r) Z0=some (.bool (decide (r>=0))):=rfl
 refine⟨decide (r>=0),s',?_,?_⟩
 ·refine Ve (mf:=wf113) (fr:=?a0) t113 rfl (.inl ?a1) ?a2 ?a3
  case a1=>
   simp only[amE,rQ,↓reduceIte,rA,wf113,hr',hg]
   rfl
  case a2=>rfl
  case a3=>simp only[wf113,amE,Fr.get_set,↓reduceIte]
 ·rcases hc with⟨rfl,h⟩|⟨j,rfl,h1,h2⟩
  ·exact .inl ⟨rfl,h⟩
  ·exact .inr ⟨by simp,j,h1,h2⟩
theorem any63{q n:Nat}{Y:Vi}{F:Nat->Prop}{sl:AV}{xs:List Int}{caps:List AV}{st:St}(hsl:SlI F st sl xs)(p:Int->Bool)(hp:∀ x∈xs,R n Y q (.int .i64 x::caps) st=.ret (.bool (p x)) st)(hn:xs.length < n):
  R (n+2) Y 63 [sl,.func (.func q) [] caps] st=.ret (.bool (xs.any p)) st:=by
 obtain⟨b,s',hr,hc⟩:=contains63_run (n:=n) (Y:=Y) (q:=q) (caps:=caps) (Inv:=fun k s=>s=st/\(xs.take k).any p=false) (Fin:=fun k s=>s=st/\∃ x,xs[k]?=some x/\p x=true) hsl (fun _ _ h=>by rw[h.1];exact Vs.refl _ _)
  (fun k x s hx hi=>by
   obtain⟨rfl,hi⟩:=hi
   refine⟨p x,s,hp x (Qr hx),fun h=>⟨rfl,x,hx,h⟩,fun h=>⟨rfl,?_⟩⟩
   rw[QT,hx,List.any_append,hi]
   simp[h]) st ⟨rfl,by simp⟩ hn
 rcases hc with⟨rfl,rfl,h⟩|⟨rfl,j,hj,rfl,x,hx,h⟩
 ·rw[QH] at h
  rw[hr,h]
 ·rw[hr,List.any_eq_true.2 ⟨x,Qr hx,h⟩]
end
noncomputable section
open Nat renaming reduceEqDiff -> rQ, reduceAdd -> rA
def okN(x:Int):Bool:=decide (0<=x)&&decide (x<=2147483647)
theorem Tb(x:Int):okN x=true ↔ 0<=x/\x<=2147483647:=by simp[okN]
def wg60_1:List Vc:=[ZV 3 0,ZO 4 (.bin false .geq (.t 3) (ZC 0)),ZV 5 4,ZG 6 (.mv (.t 0)) 5 true,ZG 7 (.bin false .leq (.t 6) (ZC 2147483647)) 5 true,ZO 8 (.pick (.t 5) (.t 7) (ZB false)),ZV 2 8]
def wf60:Vm:=⟨9,(ZQ [ZM 2 (ZB false)]
 (ZR wg60_1)),[.t 2]⟩
theorem t60:tbl 60=some wf60:=by kernel_rfl
theorem number_run(n:Nat)(Y:Vi)(x:Int)(st:St):R (n+1) Y 60 [.int .i64 x] st=.ret (.bool (okN x)) st:=by
 have g:Vr false .geq (.int .i64 x) Z0=some (.bool (decide (0<=x))):=rfl
 have l:Vr false .leq (.int .i64 x) (ZI 2147483647)=some (.bool (decide (x<=2147483647))):=rfl
 unfold okN
 generalize decide (0<=x)=A at *
 generalize decide (x<=2147483647)=B at *
 obtain⟨fr,h1,h2,h3⟩:∃ fr,Vh (gT (n)) Y (n) wf60.code none (Vo 0 [.int .i64 x] Fr.nil) st=.ret fr st/\Vg fr st wf60.res=.ret (.bool (A&&B)) st/\fr.ds=[]:=by
  cases A<;>cases B<;>exact⟨_,by simp only[amE,rQ,↓reduceIte,rA,wf60,wg60_1,Jy,Kx,g,l,amB,Qc,Qb]<;>rfl,by simp only[wf60,amE,Fr.get_set,rQ,↓reduceIte,amB,Qc,Qb],rfl⟩
 exact Ve t60 rfl (.inl h1) h3 h2
def wg108_1:List Vc:=[ZV 3 0,ZO 4 (.bin false .lss (.t 3) (ZC 0)),ZV 5 4,ZG 6 (.mv (.t 0)) 5 false,ZG 7 (.bin false .gtr (.t 6) (ZC 2147483647)) 5 false,ZO 8 (.pick (.t 5) (ZB true) (.t 7)),ZV 2 8]
def wf108:Vm:=⟨9,(ZQ [ZM 2 (ZB false)]
 (ZR wg108_1)),[.t 2]⟩
theorem t108:tbl 108=some wf108:=by kernel_rfl
theorem numbers1_run(n:Nat)(Y:Vi)(x:Int)(st:St):R (n+1) Y 108 [.int .i64 x] st=.ret (.bool (!okN x)) st:=by
 have g:Vr false .lss (.int .i64 x) Z0=some (.bool (!decide (0<=x))):=by
  show some (AV.bool (decide (x < 0)))=_
  congr 2
  by_cases h:0<=x
  ·rw[Qs h,Qp (by omega)];rfl
  ·rw[Qp h,Qs (by omega)];rfl
 have l:Vr false .gtr (.int .i64 x) (ZI 2147483647)=some (.bool (!decide (x<=2147483647))):=by
  show some (AV.bool (decide (x > 2147483647)))=_
  congr 2
  by_cases h:x<=2147483647
  ·rw[Qs h,Qp (by omega)];rfl
  ·rw[Qp h,Qs (by omega)];rfl
 unfold okN
 generalize decide (0<=x)=A at *
 generalize decide (x<=2147483647)=B at *
 obtain⟨fr,h1,h2,h3⟩:∃ fr,Vh (gT (n)) Y (n) wf108.code none (Vo 0 [.int .i64 x] Fr.nil) st=.ret fr st/\Vg fr st wf108.res=.ret (.bool (!(A&&B))) st/\fr.ds=[]:=by
  cases A<;>cases B<;>exact⟨_,by simp only[amE,rQ,↓reduceIte,rA,wf108,wg108_1,Jy,Kx,g,l,amB,Qc,Qb]<;>rfl,by simp only[wf108,amE,Fr.get_set,rQ,↓reduceIte,amB,Qc,Qb],rfl⟩
 exact Ve t108 rfl (.inl h1) h3 h2
def wg66_1:List Vc:=[ZV 3 0,ZO 4 (.call (.c (.func (.func 63) [] [])) [(.t 3),(.c (.func (.func 108) [] []))]),ZO 5 (.un .not (.t 4)),ZV 2 5]
def wf66:Vm:=⟨6,(ZQ [ZM 2 (ZB false)]
 (ZR wg66_1)),[.t 2]⟩
theorem t66:tbl 66=some wf66:=by kernel_rfl
theorem numbers_run(n:Nat)(Y:Vi){F:Nat->Prop}{sl:AV}{xs:List Int}(st:St)(hsl:SlI F st sl xs)(hn:xs.length < n+1):R (n+4) Y 66 [sl] st=.ret (.bool (xs.all okN)) st:=by
 have hc:=any63 (n:=n+1) (Y:=Y) (q:=108) (caps:=[]) hsl (fun x=>!okN x) (fun x _=>numbers1_run n Y x st) hn
 have hc':((gT (n+3)).cg Y).fn 63 [sl,.func (.func 108) [] []] st=.ret (.bool (xs.any fun x=>!okN x)) st:=hc
 have hr:xs.all okN=!(xs.any fun x=>!okN x):=by simp[List.all_eq_not_any_not]
 have hu:∀ b,unA .not (.bool b)=some (.bool (!b)):=fun _=>rfl
 rw[hr]
 obtain⟨fr,h1,h2,h3⟩:∃ fr,ac (n+3) Y wf66.code none (Vo 0 [sl] Fr.nil) st=.ret fr st/\Vg fr st wf66.res=.ret (.bool (!(xs.any fun x=>!okN x))) st/\fr.ds=[]:=by
  exact⟨_,by simp only[amE,rQ,↓reduceIte,rA,wf66,wg66_1,Jy,Kx,hc',hu,amB,Qc,Qb]<;>rfl,by simp only[wf66,amE,Fr.get_set,rQ,↓reduceIte,amB,Qc,Qb],rfl⟩
 exact Ve t66 rfl (.inl h1) h3 h2
def planB(m:Nat)(ps:List Int)(N:Int):Bool:=decide (1<=N)&&decide (N<=8)&&decide (m<=24)&&decide (ps.length=m)&&ps.all fun k=>decide (0<=k)&&decide (k < N)
theorem faP(id k:Nat):WG k (.ptr id 0)=some (.ptr id k):=by simp[WG]
theorem WN(b:Bool):unA .not (.bool b)=some (.bool (!b)):=rfl
def wg64_1:List Vc:=[ZV 4 0,ZO 5 (.bin false .lss (.t 4) (ZC 0)),ZV 6 5,ZG 7 (.mv (.t 0)) 6 false,ZG 8 (.faddr 2 (.t 1)) 6 false,ZG 9 (.load false 1 (.t 8)) 6 false,ZG 10 (.bin false .geq (.t 7) (.t 9)) 6 false,ZO 11 (.pick (.t 6) (ZB true) (.t 10)),ZV 3 11]
def wf64:Vm:=⟨12,(ZQ [ZM 3 (ZB false)]
 (ZR wg64_1)),[.t 3]⟩
theorem t64:tbl 64=some wf64:=by kernel_rfl
theorem layout1_run(n:Nat)(Y:Vi)(x N:Int){id:Nat}{lv pv:AV}(st:St)(hg:st.get id=some (.row [lv,pv,.int .i64 N])):R (n+1) Y 64 [.int .i64 x,.ptr id 0] st=.ret (.bool (!(decide (0<=x)&&decide (x < N)))) st:=by
 have g:Vr false .lss (.int .i64 x) Z0=some (.bool (!decide (0<=x))):=by
  show some (AV.bool (decide (x < 0)))=_
  congr 2
  by_cases h:0<=x
  ·rw[Qs h,Qp (by omega)];rfl
  ·rw[Qp h,Qs (by omega)];rfl
 have l:Vr false .geq (.int .i64 x) (.int .i64 N)=some (.bool (!decide (x < N))):=by
  show some (AV.bool (decide (N<=x)))=_
  congr 2
  by_cases h:x < N
  ·rw[Qs h,Qp (by omega)];rfl
  ·rw[Qp h,Qs (by omega)];rfl
 have l2:=ld2 hg
 have f2:=faP id 2
 generalize decide (0<=x)=A at *
 generalize decide (x < N)=B at *
 obtain⟨fr,h1,h2,h3⟩:∃ fr,Vh (gT (n)) Y (n) wf64.code none (Vo 0 [.int .i64 x,.ptr id 0] Fr.nil) st=.ret fr st/\Vg fr st wf64.res=.ret (.bool (!(A&&B))) st/\fr.ds=[]:=by
  cases A<;>cases B<;>exact⟨_,by simp only[amE,rQ,↓reduceIte,rA,wf64,wg64_1,Jy,Kx,g,l,l2,f2,amB,Qc,Qb]<;>rfl,by simp only[wf64,amE,Fr.get_set,rQ,↓reduceIte,amB,Qc,Qb],rfl⟩
 exact Ve t64 rfl (.inl h1) h3 h2
def wg29_1:List Vc:=[ZA 3 2 1,ZL 4 3,ZO 5 (.bin false .lss (.t 4) (ZC 1)),ZV 6 5,ZG 7 (.faddr 2 (.t 1)) 6 false,ZG 8 (.load false 1 (.t 7)) 6 false,ZG 9 (.bin false .gtr (.t 8) (ZC 8)) 6 false,ZO 10 (.pick (.t 6) (ZB true) (.t 9)),ZV 11 10,ZG 12 (.faddr 0 (.t 1)) 11 false,ZG 13 (.load false 1 (.t 12)) 11 false,ZG 14 (.len 0 (.t 13)) 11 false,ZG 15 (.bin false .gtr (.t 14) (ZC 24)) 11 false,ZO 16 (.pick (.t 11) (ZB true) (.t 15)),ZV 17 16,ZG 18 (.faddr 1 (.t 1)) 17 false,ZG 19 (.load false 1 (.t 18)) 17 false,ZG 20 (.len 0 (.t 19)) 17 false,ZG 21 (.faddr 0 (.t 1)) 17 false,ZG 22 (.load false 1 (.t 21)) 17 false,ZG 23 (.len 0 (.t 22)) 17 false,ZG 24 (.bin false .neq (.t 20) (.t 23)) 17 false,ZO 25 (.pick (.t 17) (ZB true) (.t 24))]
def wg29_3:List Vc:=[ZA 26 1 1,ZL 27 26,ZO 28 (.mkfn 64 [] [(.t 1)]),ZX 29 63 [(.t 27),(.t 28)],ZO 30 (.un .not (.t 29)),ZV 2 30]
def wf29:Vm:=⟨31,(ZQ [ZO 1 (.box false (.t 0)),ZM 2 (ZB false)]
 (.seq (ZQ wg29_1
 (.cond (.t 25)
 (ZR [ZM 2 (ZB false)])
 .skip))
 (ZR wg29_3))),[.t 2]⟩
theorem t29:tbl 29=some wf29:=by kernel_rfl
theorem layout_run{n:Nat}{Y:Vi}{F:Nat->Prop}{st:St}{lv pv:AV}{ls:List (List AV)}{ps:List Int}{N:Int}(hl:SlN 1 F st lv ls)(hp:SlI F st pv ps)(hF:∀ i,F i->i < st.next)(hn:ps.length < n+1):
  R (n+4) Y 29 [.agg [lv,pv,.int .i64 N]] st=.ret (.bool (planB ls.length ps N)) (st.new (.row [lv,pv,.int .i64 N])):=by
 have hg:(st.new (.row [lv,pv,.int .i64 N])).get st.next=some (.row [lv,pv,.int .i64 N]):=by rw[St.get_new,Qm rfl]
 have hS:Vs F st (st.new (.row [lv,pv,.int .i64 N])):=Vs.of (Vd.new _ _) hF
 generalize hst1:st.new (.row [lv,pv,.int .i64 N])=st1 at *
 have l0:=ld0 hg
 have l1:=ld1 hg
 have l2:=ld2 hg
 have f0:=faP st.next 0
 have f1:=faP st.next 1
 have f2:=faP st.next 2
 have n0:=hl.len st1
 have n1:=SlI.len hp st1
 have cA:Vr false .lss (.int .i64 N) (ZI 1)=some (.bool (!decide (1<=N))):=by
  show some (AV.bool (decide (N < 1)))=_
  congr 2
  by_cases h:1<=N
  ·rw[Qs h,Qp (by omega)];rfl
  ·rw[Qp h,Qs (by omega)];rfl
 have cB:Vr false .gtr (.int .i64 N) (ZI 8)=some (.bool (!decide (N<=8))):=by
  show some (AV.bool (decide (N > 8)))=_
  congr 2
  by_cases h:N<=8
  ·rw[Qs h,Qp (by omega)];rfl
  ·rw[Qp h,Qs (by omega)];rfl
 have cC:Vr false .gtr (ZI ls.length) (ZI 24)=some (.bool (!decide (ls.length<=24))):=by
  show some (AV.bool (decide ((ls.length:Int) > 24)))=_
  congr 2
  by_cases h:ls.length<=24
  ·rw[Qs h,Qp (by omega)];rfl
  ·rw[Qp h,Qs (by omega)];rfl
 have cD:Vr false .neq (ZI ps.length) (ZI ls.length)=some (.bool (!decide (ps.length=ls.length))):=by
  rw[Yk]
  congr 2
  by_cases h:ps.length=ls.length
  ·rw[Qs h,h];simp
  ·rw[Qp h];simp only[Qb,bne_iff_ne,ne_eq];intro e;injection e with e;exact h e
 have hc:=any63 (n:=n+1) (Y:=Y) (q:=64) (caps:=[.ptr st.next 0]) (hp.mono hS (fun _ h=>h)) (fun k=>!(decide (0<=k)&&decide (k < N))) (fun x _=>layout1_run n Y x N st1 hg) hn
 have hc':((gT (n+3)).cg Y).fn 63 [pv,.func (.func 64) [] [.ptr st.next 0]] st1=.ret (.bool (ps.any fun k=>!(decide (0<=k)&&decide (k < N)))) st1:=hc
 have hr:(ps.all fun k=>decide (0<=k)&&decide (k < N))=!(ps.any fun k=>!(decide (0<=k)&&decide (k < N))):=by simp[List.all_eq_not_any_not]
 unfold planB
 rw[hr]
 generalize (ps.any fun k=>!(decide (0<=k)&&decide (k < N)))=G at *
 generalize decide (1<=N)=A at *
 generalize decide (N<=8)=B at *
 generalize decide (ls.length<=24)=C at *
 generalize decide (ps.length=ls.length)=D at *
 have hbx:∀ fr:Fr,fr.get 0=some (.agg [lv,pv,.int .i64 N])->(opr ((gT (n+3)).cg Y) fr st (.box false (.t 0)))=.val (.ptr st.next 0) st1:=fun fr h=>by rw[<-hst1];simp only[opr,aop,ev,h,Qq];rfl
 obtain⟨fr,h1,h2,h3⟩:∃ fr,ac (n+3) Y wf29.code none (Vo 0 [.agg [lv,pv,.int .i64 N]] Fr.nil) st=.ret fr st1/\Vg fr st1 wf29.res=.ret (.bool (A&&B&&C&&D&&!G)) st1/\fr.ds=[]:=by
  subst hst1
  cases A<;>cases B<;>cases C<;>cases D<;>exact⟨_,by simp only[amE,rQ,↓reduceIte,rA,wf29,wg29_1,wg29_3,Jy,cA,cB,cC,cD,l0,l1,l2,f0,f1,f2,n0,n1,hc',WN,amB,Qc,Qb]<;>rfl,by simp only[wf29,amE,Fr.get_set,rQ,↓reduceIte,amB,Qc,Qb],rfl⟩
 exact Ve t29 rfl (.inl h1) h3 h2
end
end Go.AM.D32
