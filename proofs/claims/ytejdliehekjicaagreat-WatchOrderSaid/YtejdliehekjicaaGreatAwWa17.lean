import Derived.Test.YtejdliehekjicaaGreatAwMq
set_option maxRecDepth 100000
set_option linter.unusedSimpArgs false
namespace Go.AM.D32
open Go Go.AM
noncomputable section
open Nat renaming reduceEqDiff -> rQ, reduceAdd -> rA
def wg31_0:List Vc:=[ZO 2 (.box true (.t 0)),ZO 4 (.alloc [.nilsl]),ZO 5 (.alloc [Z0,Z0,Z0])]
def wg31_1:List Vc:=[ZK 26 3 2,ZV 27 1,ZX 28 69 [(.t 26),(.t 27)],ZV 25 28,ZO 29 (.extract 0 (.t 25)),ZO 30 (.extract 1 (.t 25)),ZO 6 (.alloc [.nilmap]),ZO 7 (.alloc [Z0,Z0,Z0]),ZS 1 6 29,ZS 3 7 30]
def wg31_2:List Vc:=[ZA 31 0 7,ZL 32 31,ZO 33 (.bin false .neq (.t 32) (ZC 0))]
def wg31_3:List (Vc × Nat):=[(ZK 34 3 7,0),(⟨none,.store 1 (.t 4) (.c .nilsl),none⟩,0),(ZS 3 5 34,3)]
def KM:List (Vc × Nat):=[(ZA 35 0 2,0),(ZL 36 35,1),(ZN 37 36,3),(ZO 38 (.mksl 8 1 [Z0] (.t 37) (.t 37)),7),(ZA 39 0 2,0),(ZL 40 39,16),(ZN 41 40,48),(ZO 42 (.mksl 8 1 [Z0] (.t 41) (.t 41)),112),(ZO 8 (.alloc [.nilsl]),0),(ZO 9 (.alloc [.nilsl]),0),(ZS 1 8 38,783),(ZS 1 9 42,2047)]
def wg31_5:List Vc:=[ZL 43 6,ZO 44 (.rng (.t 43))]
def wg31_6:List Vc:=[ZO 47 (.ent (.t 44)),ZO 48 (.extract 1 (.t 47)),ZV 11 48]
def wg31_7:List Vc:=[ZV 49 11,ZO 50 (.nilchk (.t 49)),ZA 51 0 50,ZA 52 6 51,ZL 53 52,ZN 54 53,ZM 55 (ZC 0)]
def wg31_8:List Vc:=[ZO 56 (.bin false .lss (.t 55) (.t 54))]
def wg31_9:List Vc:=[ZP 57 2 53 55,ZK 58 2 57,ZO 13 (.alloc [Z0,Z0]),ZS 2 13 58]
def wg31_10:List Vc:=[ZL 59 9,ZA 60 0 13,ZL 61 60,ZP 62 1 59 61,ZL 63 62,ZO 64 (.bin false .add (.t 63) (ZC 1)),ZP 65 1 59 61,ZS 1 65 64]
def wg31_11:List Vc:=[ZO 66 (.bin false .add (.t 55) (ZC 1)),ZV 55 66]
def wg31_12:List Vc:=[ZL 67 6,ZX 68 71 [(.t 67)],ZX 69 70 [(.t 68)],ZO 14 (.alloc [.nilsl]),ZS 1 14 69]
def wg31_13:List Vc:=[ZO 70 (.mkfn 72 [] [(.t 6),(.t 8),(.t 9)]),ZV 15 70]
def wg31_14:List Vc:=[ZM 16 (.c .nilsl)]
def wg31_15:List Vc:=[ZL 71 14,ZV 72 15,ZX 73 73 [(.t 71),(.t 72)],ZV 17 73]
def wg31_16:List Vc:=[ZV 74 17,ZO 75 (.bin false .lss (.t 74) (ZC 0))]
def wg31_17:List (Vc × Nat):=[(ZL 76 6,0),(ZL 77 14,0),(ZV 78 17,0),(ZP 79 1 77 78,6),(ZL 80 79,14),(ZO 81 (.lookup false .nilptr false (.t 76) (.t 80)),31),(ZV 18 81,63)]
def wg31_18:List Vc:=[ZL 82 14,ZV 83 17,ZV 84 17,ZO 85 (.bin false .add (.t 84) (ZC 1)),ZX 86 74 [(.t 82),(.t 83),(.t 85)],ZS 1 14 86]
def wg31_19:List Vc:=[ZV 87 18,ZO 88 (.nilchk (.t 87)),ZA 89 0 88,ZA 90 6 89,ZL 91 90,ZN 92 91,ZM 93 (ZC 0)]
def wg31_20:List Vc:=[ZO 94 (.bin false .lss (.t 93) (.t 92))]
def wg31_21:List Vc:=[ZP 95 2 91 93,ZK 96 2 95,ZO 20 (.alloc [Z0,Z0]),ZS 2 20 96]
def wg31_22:List Vc:=[ZL 97 8,ZA 98 0 20,ZL 99 98,ZP 100 1 97 99,ZL 101 100,ZO 102 (.bin false .add (.t 101) (ZC 1)),ZP 103 1 97 99,ZS 1 103 102]
def wg31_23:List Vc:=[ZO 104 (.bin false .add (.t 93) (ZC 1)),ZV 93 104]
def wg31_24:List Vc:=[ZV 105 16,ZV 106 18,ZO 107 (.bslice 1 [.nilptr] [(0,1,(.t 106))]),ZO 108 (.append 8 1 none (.t 105) (.t 107)),ZV 16 108]
def wg31_25:List Vc:=[ZL 109 14,ZN 110 109,ZO 111 (.bin false .gtr (.t 110) (ZC 0))]
def wg31_26:List Vc:=[ZV 112 1,ZX 113 65 [(.t 112)]]
def wg31_27:List Vc:=[ZO 21 (.alloc [Z0,Z0]),ZS 2 21 114]
def wg31_28:List Vc:=[ZO 22 (.alloc [Z0,Z0,Z0,Z0,.nilsl,Z0,.nilsl,.nilsl,.nilsl]),ZS 9 22 115]
def wg31_29:List Vc:=[ZL 116 14,ZA 117 2 22,ZL 118 117,ZX 119 75 [(.t 116),(.t 118)]]
def wg31_30:List Vc:=[ZK 120 2 21,ZX 121 76 [(ZC 4),(.t 120)],⟨none,.store 1 (.t 4) (.c .nilsl),none⟩,ZS 3 5 121]
def wg31_31:List Vc:=[ZV 122 16,ZN 123 122,ZM 124 (ZC 0)]
def wg31_32:List Vc:=[ZO 125 (.bin false .lss (.t 124) (.t 123))]
def wg31_33:List Vc:=[ZP 126 1 122 124,ZL 127 126,ZV 24 127]
def wg31_34:List Vc:=[ZV 128 24,ZO 129 (.nilchk (.t 128)),ZA 130 0 129,ZA 131 6 130,ZL 132 131,ZO 133 (.call (.c (.func (.func 77) [] [])) [(.t 132),(.c (.func (.func 78) [] []))])]
def wg31_35:List Vc:=[ZO 134 (.bin false .add (.t 124) (ZC 1)),ZV 124 134]
def wg31_36:List Vc:=[ZV 135 16,ZO 136 (.build [Z0,Z0,Z0] []),ZS 1 4 135,ZS 3 5 136]
def TE:Vn:=(ZQ wg31_32 (.seq (.cond (.t 125) .skip (.exit 10)) (.seq (.block 11 (ZQ wg31_33 (.region wg31_34))) (.region wg31_35))))
def TC:Vn:=(ZQ wg31_20 (.seq (.cond (.t 94) .skip (.exit 6)) (.seq (.block 7 (ZQ wg31_21 (.region wg31_22))) (.region wg31_23))))
def T8:Vn:=(.block 5 (ZQ wg31_15 (.seq (ZQ wg31_16 (.cond (.t 75) (.exit 4) .skip)) (.seq (.draw wg31_17 []) (ZQ wg31_18 (.seq (ZQ wg31_19 (.block 6 (.loop TC))) (.region wg31_24)))))))
def TP:Vn:=(ZQ wg31_8 (.seq (.cond (.t 56) .skip (.exit 2)) (.seq (.block 3 (ZQ wg31_9 (.region wg31_10))) (.region wg31_11))))
def wa31_0:Vn:=(ZQ wg31_27 (.region wg31_28))
def wy31_0:Vn:=(.block 9 (ZQ wg31_29 (.cond (.t 119) (ZR wg31_30) .skip)))
def wr31_0:Vn:=(Vn.rfun (.t 113) [114,115] wa31_0 wy31_0)
def wc31_1:Vn:=(.block 1 (ZQ wg31_6 (ZQ wg31_7 (.block 2 (.loop TP)))))
def wm31_1:Vn:=(Vn.mrange 44 45 46 0 [44,45,46,47,48,11,49,50,51,52,53,54,55,56,57,58,13,59,60,61,62,63,64,65,66,55] wc31_1)
def wf31:Vm:=⟨137,(ZQ wg31_0 (ZQ wg31_1 (.seq (ZQ wg31_2 (.cond (.t 33) (.seq (.draw wg31_3 [(0,some 1),(0,some 2)]) .ret) .skip)) (.seq (.draw KM [(5,some 10),(5,some 11),(6,some 10),(6,some 11),(7,some 10),(7,some 11)]) (.seq (ZQ wg31_5 (.block 0 wm31_1)) (ZQ wg31_12 (ZQ wg31_13 (ZQ wg31_14 (.seq (.block 4 (.loop T8)) (.seq (ZQ wg31_25 (.cond (.t 111) (ZQ wg31_26 (.block 8 wr31_0)) .skip)) (.seq (ZQ wg31_31 (.block 10 (.loop TE))) (ZR wg31_36)))))))))))),[.cell 4 false 1,.cell 5 true 3]⟩
theorem t31:tbl 31=some wf31:=by kernel_rfl
theorem adraw_ok2{Γ:Cg}{zs:List (Vc × Nat)}{chk:List (Nat × Option Nat)}{fr frE:Fr}{st stE:St}{its:List DIt}{ns:List Nat}(hl:lens Γ zs fr st=ns)(h:Wq Γ zs 0 st.next fr (VT zs ns st) none=some (its,frE,stE))(hp:JE its=none)
  (hc:chk.all (KE Γ zs its st.next stE)=true):VK Γ zs chk fr st=.ok frE stE:=by
 unfold VK
 rw[hl,h]
 simp only[hc,Qi,hp]
theorem mslA{k:Nat}(hk:k<=24)(st:St):msliceA 8 1 [Z0] st (ZI k) (ZI k)=some (.own st.next 0 k 1 (some k) 0,st.new (.row (Vw k fun _=>0))):=by
 unfold msliceA
 simp only[Qo (Qw k),Qo (show 8*k<=140737488355328 by omega),Qo (show k<=140737488355328 by omega),Qy,Qi,QC,X2,Q7,QD,zrep_row]
theorem avsBeq_rowN(k:Nat)(f:Nat->Nat):VG (Vw k f) (Vw k f)=true:=by
 have h:∀ l:List AV,(∀ x∈l,∃ i:Int,x=.int .i64 i)->VG l l=true:=fun l=>by
  induction l with
  | nil=>intro _;rfl
  | cons x l ih=>
   intro h
   obtain⟨i,rfl⟩:=h x (by simp)
   simp only[VG,ih (fun y hy=>h y (by simp[hy])),Qy,V8]
   cases i<;>simp[TO]
 exact h _ fun x hx=>by
  obtain⟨i,_,rfl⟩:=Q6.1 hx
  exact⟨_,rfl⟩
theorem mslD{k:Nat}(hk:k<=24){st:St}{id:Nat}(h:st.get id=some (.row (Vw k fun _=>0))):msliceD 8 1 [Z0] id st (ZI k) (ZI k)=some (.own id 0 k 1 (some k) 0):=by
 unfold msliceD
 simp only[h,Qo (Qw k),Qo (show 8*k<=140737488355328 by omega),Qo (show k<=140737488355328 by omega),Qy,Qi,QC,X2,Q7,QD,zrep_row,avsBeq_rowN]
theorem avInt(k:Nat):V8 (ZI k) (ZI k)=true:=by
 have h:TO (.ofNat k) (.ofNat k)=true:=QD k
 simp only[V8,h];rfl
theorem avOwn(i k:Nat):V8 (.own i 0 k 1 (some k) 0) (.own i 0 k 1 (some k) 0)=true:=by
 have h:onBeq (some k) (some k)=true:=QD k
 simp only[V8,h,QD];rfl
theorem draw31_4{m:Nat}{Y:Vi}{fr:Fr}{st:St}{lv pv:AV}{N:Int}{k:Nat}(hk:k<=24)(hll:∀ st',(bif VD 0 lv then Wm st' lv else none)=some (ZI k))(g2:fr.get 2=some (.fptr [lv,pv,.int .i64 N] 0)):
  ∃ fr' S,VK ((gT m).cg Y) KM [(5,some 10),(5,some 11),(6,some 10),(6,some 11),(7,some 10),(7,some 11)] fr st=.ok fr' S/\(∀ j,j∉[35,36,37,38,39,40,41,42,8,9]->fr'.get j=fr.get j)/\fr'.ds=fr.ds/\fr'.get 8=some (.ptr (st.next+2) 0)/\fr'.get 9=some (.ptr (st.next+3) 0)/\S.next=st.next+4 ∧
   S.get st.next=some (.row (Vw k fun _=>0))/\S.get (st.next+1)=some (.row (Vw k fun _=>0))/\S.get (st.next+2)=some (.row [.own st.next 0 k 1 (some k) 0])/\S.get (st.next+3)=some (.row [.own (st.next+1) 0 k 1 (some k) 0])/\∀ j,j < st.next->S.get j=st.get j:=by
 have m0:=mslA hk st
 have m1:=mslA hk (st.new (.row (Vw k fun _=>0)))
 have sA:Vt 1 ((((st.new (.row (Vw k fun _=>0))).new (.row (Vw k fun _=>0))).new (.row [.nilsl])).new (.row [.nilsl])) (.ptr ((st.new (.row (Vw k fun _=>0))).new (.row (Vw k fun _=>0))).next 0) (.own st.next 0 k 1 (some k) 0)=some (((((st.new (.row (Vw k fun _=>0))).new (.row (Vw k fun _=>0))).new (.row [.nilsl])).new (.row [.nilsl])).put ((st.new (.row (Vw k fun _=>0))).new (.row (Vw k fun _=>0))).next (.row [.own st.next 0 k 1 (some k) 0])):=
  V4 (x:=[.nilsl]) (by simp[St.get_new]) rfl rfl (by simp) rfl
 have hl:lens ((gT m).cg Y) KM fr st=[k,k]:=by
  have h0:lens ((gT m).cg Y) KM fr st=JD ((gT m).cg Y) KM fr st:=rfl
  rw[h0]
  have tl:∀(fr:Fr) (st:St),JD ((gT m).cg Y) [(ZO 8 (.alloc [.nilsl]),0),(ZO 9 (.alloc [.nilsl]),0),(ZS 1 8 38,783),(ZS 1 9 42,2047)] fr st=[]:=fun fr st=>by
   simp only[JD,Vv,opr,aop]
   cases hx:OpR.ofSt (Vt 1 ((st.new (.row [.nilsl])).new (.row [.nilsl])) (ev ((fr.put (some 8) (.ptr st.next 0)).put (some 9) (.ptr (st.new (.row [.nilsl])).next 0)) (.t 8)) (ev ((fr.put (some 8) (.ptr st.next 0)).put (some 9) (.ptr (st.new (.row [.nilsl])).next 0)) (.t 38))) with
   | val v s=>
    simp only
    cases OpR.ofSt (Vt 1 s (ev (Fr.put ((fr.put (some 8) (.ptr st.next 0)).put (some 9) (.ptr (st.new (.row [.nilsl])).next 0)) none v) (.t 9)) (ev (Fr.put ((fr.put (some 8) (.ptr st.next 0)).put (some 9) (.ptr (st.new (.row [.nilsl])).next 0)) none v) (.t 42)))<;>rfl
   | pan v s=>rfl
   | stuck=>rfl
  have step:∀(d:Option Nat) (op:MOp) (a:Nat) (zs:List (Vc × Nat)) (fr:Fr) (st s':St) (v:AV),opr ((gT m).cg Y) fr st op=.val v s'->(∀ b sz z l c,op≠.mksl b sz z l c)->JD ((gT m).cg Y) ((⟨d,op,none⟩,a)::zs) fr st=JD ((gT m).cg Y) zs (fr.put d v) s':=fun d op a zs fr st s' v h hne=>by
   simp only[JD,Vv,h]
   all_goals (cases op<;>first | rfl | exact absurd rfl (hne _ _ _ _ _))
  have stepM:∀(d:Option Nat) (b sz:Nat) (z:List AV) (l c:X) (a:Nat) (zs:List (Vc × Nat)) (fr:Fr) (st s':St) (id lo n:Nat),opr ((gT m).cg Y) fr st (.mksl b sz z l c)=.val (.own id 0 n 1 (some n) lo) s'->JD ((gT m).cg Y) ((⟨d,.mksl b sz z l c,none⟩,a)::zs) fr st=n::JD ((gT m).cg Y) zs (fr.put d (.own id 0 n 1 (some n) lo)) s':=fun d b sz z l c a zs fr st s' id lo n h=>by
   simp only[JD,Vv,h]
  unfold KM
  rw[step _ _ _ _ _ _ st (.fptr [lv,pv,.int .i64 N] 0) (by simp only[amE,rQ,↓reduceIte,rA,g2,faF]) (fun _ _ _ _ _ h=>by cases h),
   step _ _ _ _ _ _ st lv (by simp only[amE,rQ,↓reduceIte,rA,g2,faF,YV]) (fun _ _ _ _ _ h=>by cases h),
   step _ _ _ _ _ _ st (ZI k) (by simp only[amE,rQ,↓reduceIte,rA,hll]) (fun _ _ _ _ _ h=>by cases h),
   stepM _ _ _ _ _ _ _ _ _ _ (st.new (.row (Vw k fun _=>0))) st.next 0 k (by simp only[amE,rQ,↓reduceIte,rA,m0,OpR.of2]),
   step _ _ _ _ _ _ (st.new (.row (Vw k fun _=>0))) (.fptr [lv,pv,.int .i64 N] 0) (by simp only[amE,rQ,↓reduceIte,rA,g2,faF]) (fun _ _ _ _ _ h=>by cases h),
   step _ _ _ _ _ _ (st.new (.row (Vw k fun _=>0))) lv (by simp only[amE,rQ,↓reduceIte,rA,g2,faF,YV]) (fun _ _ _ _ _ h=>by cases h),
   step _ _ _ _ _ _ (st.new (.row (Vw k fun _=>0))) (ZI k) (by simp only[amE,rQ,↓reduceIte,rA,hll]) (fun _ _ _ _ _ h=>by cases h),
   stepM _ _ _ _ _ _ _ _ _ _ ((st.new (.row (Vw k fun _=>0))).new (.row (Vw k fun _=>0))) (st.next+1) 0 k (by simp only[amE,rQ,↓reduceIte,rA,m1,OpR.of2];rfl),tl]
 obtain⟨S4,hS4⟩:∃ S4,S4=(((st.new (.row (Vw k fun _=>0))).new (.row (Vw k fun _=>0))).new (.row [.nilsl])).new (.row [.nilsl]):=⟨_,rfl⟩
 have hpre:VT KM [k,k] st=S4:=by rw[hS4,<-zrep_row];rfl
 have G0:S4.get st.next=some (.row (Vw k fun _=>0)):=by rw[hS4];simp[St.get_new,X1]
 have G1:S4.get (st.next+1)=some (.row (Vw k fun _=>0)):=by rw[hS4];simp[St.get_new,X1]
 have G2:S4.get (st.next+1+1)=some (.row [.nilsl]):=by rw[hS4];simp[St.get_new,X1]
 have G3:S4.get (st.next+1+1+1)=some (.row [.nilsl]):=by rw[hS4];simp[St.get_new,X1]
 have Gn:S4.next=st.next+4:=by rw[hS4];rfl
 have Go:∀ j,j < st.next->S4.get j=st.get j:=fun j hj=>by rw[hS4];simp only[St.get_new,St.next_new];rw[Qe (by omega),Qe (by omega),Qe (by omega),Qe (by omega)]
 have d0:=mslD hk G0
 have d1:=mslD hk G1
 have b1:VG [AV.nilsl] [AV.nilsl]=true:=rfl
 have t1:Vt 1 S4 (.ptr (st.next+1+1) 0) (.own st.next 0 k 1 (some k) 0)=some (S4.put (st.next+1+1) (.row [.own st.next 0 k 1 (some k) 0])):=V4 G2 rfl rfl (by simp) rfl
 have t2:Vt 1 (S4.put (st.next+1+1) (.row [.own st.next 0 k 1 (some k) 0])) (.ptr (st.next+1+1+1) 0) (.own (st.next+1) 0 k 1 (some k) 0)=some ((S4.put (st.next+1+1) (.row [.own st.next 0 k 1 (some k) 0])).put (st.next+1+1+1) (.row [.own (st.next+1) 0 k 1 (some k) 0])):=V4 (by rw[St.get_put,Qe (by omega)];exact G3) rfl rfl (by simp) rfl
 have d1':=mslD hk (st:=S4.put (st.next+1+1) (.row [.own st.next 0 k 1 (some k) 0])) (id:=st.next+1) (by rw[St.get_put,Qe (by omega)];exact G1)
 have hid:Wf KM 7 st.next=st.next+1:=rfl
 clear m0 m1 sA
 refine⟨?f,?S,?h1,?h2,?h3,?h4,?h5,?h6,?h7,?h8,?h9,?h10,?h11⟩
 case h1=>
  refine adraw_ok2 (its:=?i) hl ?x ?y ?z
  case x=>
   rw[hpre]
   simp only[amE,rQ,↓reduceIte,rA,KM,WH,WU,DR.cons,V5,VJ,g2,faF,YV,hll,d0,d1,G2,G3,b1,t1,t2]
   rfl
  case y=>rfl
  case z=>
   simp only[QN,QW,Qy,Qd]
   refine⟨Wo (i:=5) (k:=10) rfl rfl rfl rfl ?k0,Wo (i:=5) (k:=11) rfl rfl rfl rfl ?k1,Wo (i:=6) (k:=10) rfl rfl rfl rfl ?k2,Wo (i:=6) (k:=11) rfl rfl rfl rfl ?k3,Wo (i:=7) (k:=10) rfl rfl rfl rfl ?k4,Wo (i:=7) (k:=11) rfl rfl rfl rfl ?k5⟩
   case k0=>left;simp only[amE,rQ,↓reduceIte,rA,W0,g2,faF]
   case k1=>left;simp only[amE,rQ,↓reduceIte,rA,W0,g2,faF]
   case k2=>
    right;refine⟨?s2,?l2,avInt _⟩
    case l2=>simp only[amE,rQ,↓reduceIte,rA,V5,hll];rfl
   case k3=>
    right;refine⟨?s3,?l3,avInt _⟩
    case l3=>simp only[amE,rQ,↓reduceIte,rA,V5,hll];rfl
   case k4=>
    right;refine⟨?s4,?l4,avOwn _ _⟩
    case l4=>simp only[amE,rQ,↓reduceIte,rA,V5,hid,d1];try rfl
   case k5=>
    right;refine⟨?s5,?l5,avOwn _ _⟩
    case l5=>simp only[amE,rQ,↓reduceIte,rA,V5,hid,d1'];try rfl
 case h2=>
  intro j hj
  simp only[Qx,QI,Xh,Z8] at hj
  obtain⟨j1,j2,j3,j4,j5,j6,j7,j8,j9,j10⟩:=hj
  simp only[Fr.get_set,j1,j2,j3,j4,j5,j6,j7,j8,j9,j10,↓reduceIte]
 case h3=>rfl
 case h4=>simp only[Fr.get_set,rQ,↓reduceIte]
 case h5=>simp only[Fr.get_set,rQ,↓reduceIte]
 case h6=>exact Gn
 case h7=>rw[St.get_put,Qe (by omega),St.get_put,Qe (by omega)];exact G0
 case h8=>rw[St.get_put,Qe (by omega),St.get_put,Qe (by omega)];exact G1
 case h9=>rw[St.get_put,Qe (by omega),St.get_put,Qm rfl]
 case h10=>rw[St.get_put,Qm rfl]
 case h11=>intro j hj;rw[St.get_put,Qe (by omega),St.get_put,Qe (by omega)];exact Go j hj
end
open Nat renaming reduceEqDiff -> rQ, reduceAdd -> rA
def Kq(D:List Nat)(fr fr':Fr):Prop:=fr'.ds=fr.ds/\∀ k,k∉D->fr'.get k=fr.get k
theorem Kq.refl{fr:Fr}:Kq [] fr fr:=⟨rfl,fun _ _=>rfl⟩
theorem Kq.s{D:List Nat}{a b:Fr}{k:Nat}{v:Option AV}(h:Kq D a b):Kq (k::D) a (b.set k v):=⟨h.1,fun j hj=>by
 simp only[Qx,Z8] at hj
 rw[Fr.get_set,Qe hj.1];exact h.2 j hj.2⟩
theorem Kq.g{D:List Nat}{a b:Fr}(h:Kq D a b)(k:Nat){v:AV}(g:a.get k=some v)(m:k∉D:=by decide):b.get k=some v:=(h.2 k m).trans g
theorem Kq.t{D E:List Nat}{a b c:Fr}(h:Kq D a b)(k:Kq E b c):Kq (E++D) a c:=⟨k.1.trans h.1,fun j hj=>by
 simp only[QV,Z8] at hj
 exact(k.2 j hj.1).trans (h.2 j hj.2)⟩
theorem Kq.to{D E:List Nat}{a b:Fr}(h:Kq D a b)(m:∀ x∈D,x∈E:=by decide):Kq E a b:=⟨h.1,fun j hj=>h.2 j fun hd=>hj (m j hd)⟩
def dstL(l:List Vc):List Nat:=l.filterMap (·.dst)
theorem dstL_not{l:List Vc}{k:Nat}(h:k∉dstL l):l.all (dstN k)=true:=by
 rw[QB]
 intro o ho
 unfold dstN
 cases hd:o.dst with
 | none=>rfl
 | some d=>
  have hm:d∈dstL l:=Z6.2 ⟨o,ho,hd⟩
  cases hb:d.beq k with
  | false=>simp[hb]
  | true=>exact absurd (Qj hb ▸ hm) h
theorem aq{Γ:Cg}{l:List Vc}{f f':Fr}{s s':St}(h:Vj Γ l f s=.ok f' s')(m:l.all ndB=true:=by rfl):Kq (dstL l) f f':=⟨ae h m,fun _ hk=>ah h (dstL_not hk)⟩
theorem nag{fr:Fr}{k:Nat}{v:AV}(g:fr.get k=some v)(h:VR v=true:=by rfl):VR (ev fr (.t k))=true:=by
 show VR ((fr.get k).getD .undef)=true
 rw[g];exact h
theorem iaddr_nag{sz:Nat}{x i p:AV}(h:VC sz x i=some p):VR p=true:=by
 unfold VC at h
 split at h
 ·split at h
  ·rw[cond_eq_ite] at h
   split at h
   ·split at h
    ·cases h
    ·injection h with h;subst h;rfl
   ·cases h
  ·rw[cond_eq_ite] at h
   split at h
   ·injection h with h;subst h;rfl
   ·cases h
  ·cases h
 ·cases h
theorem tot31_run{m:Nat}{Y:Vi}{ro:Option Nat}{s:St}{fr:Fr}{csl:AV}{cid:Nat}{cl:List (Int × Int)}{T tp k:Nat}{g:Nat->Nat}(hc:ClS s csl cid cl)(hcl:cl.length < 100000)(hm:cl.length < m)(hk:∀ c∈cl,0<=c.1/\c.1 < (k:Int))
  (htp:s.get tp=some (.row [.own T 0 k 1 (some k) 0])) (hT:s.get T=some (.row (Vw k g))) (hg:∀ i,g i < 1000000000) (lt:T < s.next/\tp < s.next/\cid < s.next) (n1:T≠cid) (n2:tp≠T)
  (d0:fr.ds=fr.ds) (gs:fr.get 53=some csl) (gl:fr.get 54=some (ZI cl.length)) (gi:fr.get 55=some Z0) (gt:fr.get 9=some (.ptr tp 0)):
  ∃ FR s',Vx (ac m Y TP ro) m fr s=.exit 2 FR s'/\Kq [55,56,57,58,13,59,60,61,62,63,64,65,66] fr FR/\(cl≠[]->(∀ j∈[57,13,59,60,61,62,63,64,65,66],VR (ev FR (.t j))=true)/\∃ a b:Int,FR.get 58=some (.agg [.int .i64 a,.int .i64 b]))/\FR.get 55=some (ZI cl.length)/\(∃ b:Bool,FR.get 56=some (.bool b)) ∧
   s'.next=s.next+cl.length/\s'.get T=some (.row (Vw k fun i=>g i+VB cl i))/\∀ j,j < s.next->j≠T->s'.get j=s.get j:=by
 have hsl:=hc.sl hcl
 refine Ws (B:=ac m Y TP ro) (N:=cl.length) (Inv:=fun j f s1=>Kq [55,56,57,58,13,59,60,61,62,63,64,65,66] fr f/\f.get 55=some (ZI j)/\(0 < j->(∀ j∈[57,13,59,60,61,62,63,64,65,66],VR (ev f (.t j))=true)/\∃ a b:Int,f.get 58=some (.agg [.int .i64 a,.int .i64 b]))/\s1.next=s.next+j/\s1.get T=some (.row (Vw k fun i=>g i+VB (cl.take j) i))/\∀ j,j < s.next->j≠T->s1.get j=s.get j)
  (Out:=fun r=>∃ FR s',r=.exit 2 FR s'/\Kq [55,56,57,58,13,59,60,61,62,63,64,65,66] fr FR/\(cl≠[]->(∀ j∈[57,13,59,60,61,62,63,64,65,66],VR (ev FR (.t j))=true)/\∃ a b:Int,FR.get 58=some (.agg [.int .i64 a,.int .i64 b]))/\FR.get 55=some (ZI cl.length)/\(∃ b:Bool,FR.get 56=some (.bool b)) ∧
   s'.next=s.next+cl.length/\s'.get T=some (.row (Vw k fun i=>g i+VB cl i))/\∀ j,j < s.next->j≠T->s'.get j=s.get j) ?_ cl.length 0 fr s m (by omega) (by omega) ⟨Kq.refl.to,gi,(fun h=>by omega),rfl,by simpa [VB] using hT,fun _ _ _=>rfl⟩
 intro j f s1 hj ⟨kf,fi,fc,hn,hT1,ho⟩
 have fs:=kf.g 53 gs
 have fl:=kf.g 54 gl
 have ft:=kf.g 9 gt
 have hlt:=Wt j cl.length
 by_cases hjN:j < cl.length
 ·have hx:cl[j]?=some cl[j]:=Qn hjN
  generalize cl[j]=c at hx
  obtain⟨hc0,hck⟩:=hk c (Qr hx)
  obtain⟨pe,ie,lde⟩:=hsl.at (k:=j) (x:=[.int .i64 c.1,.int .i64 c.2]) (by rw[Q5,hx];rfl)
  have lde:=lde s1 (fun i hi=>by subst hi;exact ho _ lt.2.2 (fun e=>n1 e.symm))
  have had:=WC (i:=j) (by omega)
  have sto:Vt 2 (s1.new (.row [Z0,Z0])) (.ptr s1.next 0) (.agg [.int .i64 c.1,.int .i64 c.2])=some ((s1.new (.row [Z0,Z0])).put s1.next (.row [.int .i64 c.1,.int .i64 c.2])):=VQ rfl rfl rfl
  have k2:Vd s1 ((s1.new (.row [Z0,Z0])).put s1.next (.row [.int .i64 c.1,.int .i64 c.2])):=(Vd.refl s1).newput _ _
  have g2:((s1.new (.row [Z0,Z0])).put s1.next (.row [.int .i64 c.1,.int .i64 c.2])).get s1.next=some (.row [.int .i64 c.1,.int .i64 c.2]):=by rw[St.get_put,Qm rfl]
  have n2':((s1.new (.row [Z0,Z0])).put s1.next (.row [.int .i64 c.1,.int .i64 c.2])).next=s1.next+1:=rfl
  generalize (s1.new (.row [Z0,Z0])).put s1.next (.row [.int .i64 c.1,.int .i64 c.2])=s2 at sto k2 g2 n2'
  obtain⟨i,hi⟩:∃ i:Nat,c.1=(i:Int):=⟨c.1.toNat,by omega⟩
  have hik:i < k:=by omega
  have hTs2:s2.get T=some (.row (Vw k fun i=>g i+VB (cl.take j) i)):=by rw[k2.2 _ (by omega)];exact hT1
  have htp2:s2.get tp=some (.row [.own T 0 k 1 (some k) 0]):=by rw[k2.2 _ (by omega),ho _ lt.2.1 n2];exact htp
  have lt9:Vf false 1 s2 (.ptr tp 0)=some (.own T 0 k 1 (some k) 0):=Vk htp2 rfl
  have lit:Vf false 1 s2 (.ptr s1.next 0)=some (.int .i64 c.1):=Vk g2 rfl
  have iaT:VC 1 (.own T 0 k 1 (some k) 0) (.int .i64 c.1)=some (.ptr T i):=by
   rw[hi]
   show (bif (i+1).ble k&&(1:Nat).beq 1 then some (AV.ptr T (0+i*1)) else none)=_
   rw[Qo (by omega)];simp
  have ldT:Vf false 1 s2 (.ptr T i)=some (ZI ((g i+VB (cl.take j) i))):=Vk hTs2 (Jv hik)
  have hcb:=UY (cl.take j) i
  rw[Xl] at hcb
  have hgi:=hg i
  have sm:=addN (i:=g i+VB (cl.take j) i) (j:=1) (by omega)
  have sto2:Vt 1 s2 (.ptr T i) (ZI ((g i+VB (cl.take j) i+1)))=some (s2.put T (.row (Vw k fun i=>g i+VB (cl.take (j+1)) i))):=V4 hTs2 rfl (by
   show setCells _ i [_]=_
   rw[rowN_set hik]
   congr 1;funext q
   rw[QT,hx,Z9,cntC_snoc _ _ i hi]
   by_cases hq:q=i
   ·rw[Qm hq,Qm hq,hq];omega
   ·rw[Qe hq,Qe hq]) (by rw[Jj];omega) rfl
  rw[Qs hjN] at hlt
  obtain⟨J1,H1,K1,O1_56⟩:∃ fr',ar m Y wg31_8 f s1=.ok fr' s1/\Kq [56] f fr'/\fr'.get 56=some (.bool true):=⟨_,by simp only[amE,rQ,↓reduceIte,rA,fl,fi,wg31_8,hlt]<;>rfl,Kq.refl.s,gh⟩
  have V1_53:=K1.g 53 fs
  have V1_55:=K1.g 55 fi
  have V1_9:=K1.g 9 ft
  obtain⟨J2,H2,O2_57,O2_58,O2_13⟩:∃ fr',ar m Y wg31_9 J1 s1=.ok fr' s2/\fr'.get 57=some (pe)/\fr'.get 58=some (.agg [.int .i64 c.1,.int .i64 c.2])/\fr'.get 13=some (.ptr s1.next 0):=⟨_,by simp only[amE,rQ,↓reduceIte,rA,V1_53,V1_55,wg31_9,ie,lde,sto]<;>rfl,gn (gn gh),gn gh,gh⟩
  have V2_55:=ag H2 V1_55
  have V2_9:=ag H2 V1_9
  obtain⟨J3,H3,O3_59,O3_60,O3_61,O3_62,O3_63,O3_64,O3_65⟩:∃ fr',ar m Y wg31_10 J2 s2=.ok fr' (s2.put T (.row (Vw k fun i=>g i+VB (cl.take (j+1)) i)))/\fr'.get 59=some (.own T 0 k 1 (some k) 0)/\fr'.get 60=some (.ptr s1.next 0)/\fr'.get 61=some (.int .i64 c.1)/\fr'.get 62=some (.ptr T i)/\fr'.get 63=some (ZI ((g i+VB (cl.take j) i)))/\fr'.get 64=some (ZI ((g i+VB (cl.take j) i+1)))/\fr'.get 65=some (.ptr T i):=⟨_,by simp only[amE,rQ,↓reduceIte,rA,V2_9,O2_13,wg31_10,faP,lt9,lit,iaT,ldT,sm,sto2]<;>rfl,gn (gn (gn (gn (gn (gn gh))))),gn (gn (gn (gn (gn gh)))),gn (gn (gn (gn gh))),gn (gn (gn gh)),gn (gn gh),gn gh,gh⟩
  have V3_55:=ag H3 V2_55
  have V3_57:=ag H3 O2_57
  have V3_58:=ag H3 O2_58
  have V3_13:=ag H3 O2_13
  obtain⟨J4,H4,O4_66,O4_55⟩:∃ fr',ar m Y wg31_11 J3 (s2.put T (.row (Vw k fun i=>g i+VB (cl.take (j+1)) i)))=.ok fr' (s2.put T (.row (Vw k fun i=>g i+VB (cl.take (j+1)) i)))/\fr'.get 66=some (ZI ((j+1)))/\fr'.get 55=some (ZI ((j+1))):=⟨_,by simp only[amE,rQ,↓reduceIte,rA,V3_55,wg31_11,had]<;>rfl,gn gh,gh⟩
  have V4_57:=ag H4 V3_57
  have V4_58:=ag H4 V3_58
  have V4_13:=ag H4 V3_13
  have V4_59:=ag H4 O3_59
  have V4_60:=ag H4 O3_60
  have V4_61:=ag H4 O3_61
  have V4_62:=ag H4 O3_62
  have V4_63:=ag H4 O3_63
  have V4_64:=ag H4 O3_64
  have V4_65:=ag H4 O3_65
  have hpe:VR pe=true:=by
   have:=hsl.2.2.2
   exact iaddr_nag ie
  have cls:(∀ j∈[57,13,59,60,61,62,63,64,65,66],VR (ev J4 (.t j))=true)/\∃ a b:Int,J4.get 58=some (.agg [.int .i64 a,.int .i64 b]):=by
   refine⟨fun j hj=>?_,c.1,c.2,V4_58⟩
   simp only[Qx,QI,Xh] at hj
   rcases hj with rfl | rfl | rfl | rfl | rfl | rfl | rfl | rfl | rfl | rfl
   ·exact nag V4_57 hpe
   ·exact nag V4_13
   ·exact nag V4_59
   ·exact nag V4_60
   ·exact nag V4_61
   ·exact nag V4_62
   ·exact nag V4_63
   ·exact nag V4_64
   ·exact nag V4_65
   ·exact nag O4_66
  have kk:=(kf.t (((K1.t (aq H2)).t (aq H3)).t (aq H4))).to (E:=[55,56,57,58,13,59,60,61,62,63,64,65,66])
  have hI4:ac m Y TP ro f s1=.norm J4 (s2.put T (.row (Vw k fun i=>g i+VB (cl.take (j+1)) i))):=by
   simp only[amE,rQ,↓reduceIte,rA,TP,b00,b11,b22,b33,H1,H2,H3,H4,O1_56]
  rw[hI4]
  exact⟨hjN,kk,O4_55,fun _=>cls,by show s2.next=_;omega,by rw[St.get_put,Qm rfl],fun q h1 h2=>by rw[St.get_put,Qe h2,k2.2 _ (by omega)];exact ho q h1 h2⟩
 ·rw[Qp hjN] at hlt
  have hjl:j=cl.length:=by omega
  rw[hjl,QH] at hT1
  obtain⟨J5,H5,K5,O5_56⟩:∃ fr',ar m Y wg31_8 f s1=.ok fr' s1/\Kq [56] f fr'/\fr'.get 56=some (.bool false):=⟨_,by simp only[amE,rQ,↓reduceIte,rA,fl,fi,wg31_8,hlt]<;>rfl,Kq.refl.s,gh⟩
  have V5_55:=K5.g 55 fi
  have kk:=(kf.t K5).to (E:=[55,56,57,58,13,59,60,61,62,63,64,65,66])
  have cls:cl≠[]->(∀ j∈[57,13,59,60,61,62,63,64,65,66],VR (ev J5 (.t j))=true)/\∃ a b:Int,J5.get 58=some (.agg [.int .i64 a,.int .i64 b]):=fun hne=>by
   have hpos:0 < j:=by rw[hjl];exact Z2.2 hne
   obtain⟨c1,a,b,c2⟩:=fc hpos
   refine⟨fun q hq=>?_,a,b,(K5.2 58 (by decide)).trans c2⟩
   have:=c1 q hq
   show VR ((J5.get q).getD .undef)=true
   rw[K5.2 q (by
    simp only[Qx,QI,Xh] at hq ⊢
    omega)]
   exact this
  have hI5:ac m Y TP ro f s1=.exit 2 J5 s1:=by
   simp only[amE,rQ,↓reduceIte,rA,TP,b00,b11,b22,b33,H5,O5_56]
  rw[hI5]
  exact⟨_,_,rfl,kk,cls,by rw[<-hjl];exact V5_55,⟨_,O5_56⟩,by omega,hT1,ho⟩
theorem there31_run{m:Nat}{Y:Vi}{ro:Option Nat}{s:St}{fr:Fr}{csl:AV}{cid:Nat}{cl:List (Int × Int)}{T tp k:Nat}{g:Nat->Nat}(hc:ClS s csl cid cl)(hcl:cl.length < 100000)(hm:cl.length < m)(hk:∀ c∈cl,0<=c.1/\c.1 < (k:Int))
  (htp:s.get tp=some (.row [.own T 0 k 1 (some k) 0])) (hT:s.get T=some (.row (Vw k g))) (hg:∀ i,g i < 1000000000) (lt:T < s.next/\tp < s.next/\cid < s.next) (n1:T≠cid) (n2:tp≠T)
  (d0:fr.ds=fr.ds) (gs:fr.get 91=some csl) (gl:fr.get 92=some (ZI cl.length)) (gi:fr.get 93=some Z0) (gt:fr.get 8=some (.ptr tp 0)):
  ∃ FR s',Vx (ac m Y TC ro) m fr s=.exit 6 FR s'/\Kq [93,94,95,96,20,97,98,99,100,101,102,103,104] fr FR/\(cl≠[]->(∀ j∈[95,20,97,98,99,100,101,102,103,104],VR (ev FR (.t j))=true)/\∃ a b:Int,FR.get 96=some (.agg [.int .i64 a,.int .i64 b]))/\FR.get 93=some (ZI cl.length)/\(∃ b:Bool,FR.get 94=some (.bool b)) ∧
   s'.next=s.next+cl.length/\s'.get T=some (.row (Vw k fun i=>g i+VB cl i))/\∀ j,j < s.next->j≠T->s'.get j=s.get j:=by
 have hsl:=hc.sl hcl
 refine Ws (B:=ac m Y TC ro) (N:=cl.length) (Inv:=fun j f s1=>Kq [93,94,95,96,20,97,98,99,100,101,102,103,104] fr f/\f.get 93=some (ZI j)/\(0 < j->(∀ j∈[95,20,97,98,99,100,101,102,103,104],VR (ev f (.t j))=true)/\∃ a b:Int,f.get 96=some (.agg [.int .i64 a,.int .i64 b]))/\s1.next=s.next+j/\s1.get T=some (.row (Vw k fun i=>g i+VB (cl.take j) i))/\∀ j,j < s.next->j≠T->s1.get j=s.get j)
  (Out:=fun r=>∃ FR s',r=.exit 6 FR s'/\Kq [93,94,95,96,20,97,98,99,100,101,102,103,104] fr FR/\(cl≠[]->(∀ j∈[95,20,97,98,99,100,101,102,103,104],VR (ev FR (.t j))=true)/\∃ a b:Int,FR.get 96=some (.agg [.int .i64 a,.int .i64 b]))/\FR.get 93=some (ZI cl.length)/\(∃ b:Bool,FR.get 94=some (.bool b)) ∧
   s'.next=s.next+cl.length/\s'.get T=some (.row (Vw k fun i=>g i+VB cl i))/\∀ j,j < s.next->j≠T->s'.get j=s.get j) ?_ cl.length 0 fr s m (by omega) (by omega) ⟨Kq.refl.to,gi,(fun h=>by omega),rfl,by simpa [VB] using hT,fun _ _ _=>rfl⟩
 intro j f s1 hj ⟨kf,fi,fc,hn,hT1,ho⟩
 have fs:=kf.g 91 gs
 have fl:=kf.g 92 gl
 have ft:=kf.g 8 gt
 have hlt:=Wt j cl.length
 by_cases hjN:j < cl.length
 ·have hx:cl[j]?=some cl[j]:=Qn hjN
  generalize cl[j]=c at hx
  obtain⟨hc0,hck⟩:=hk c (Qr hx)
  obtain⟨pe,ie,lde⟩:=hsl.at (k:=j) (x:=[.int .i64 c.1,.int .i64 c.2]) (by rw[Q5,hx];rfl)
  have lde:=lde s1 (fun i hi=>by subst hi;exact ho _ lt.2.2 (fun e=>n1 e.symm))
  have had:=WC (i:=j) (by omega)
  have sto:Vt 2 (s1.new (.row [Z0,Z0])) (.ptr s1.next 0) (.agg [.int .i64 c.1,.int .i64 c.2])=some ((s1.new (.row [Z0,Z0])).put s1.next (.row [.int .i64 c.1,.int .i64 c.2])):=VQ rfl rfl rfl
  have k2:Vd s1 ((s1.new (.row [Z0,Z0])).put s1.next (.row [.int .i64 c.1,.int .i64 c.2])):=(Vd.refl s1).newput _ _
  have g2:((s1.new (.row [Z0,Z0])).put s1.next (.row [.int .i64 c.1,.int .i64 c.2])).get s1.next=some (.row [.int .i64 c.1,.int .i64 c.2]):=by rw[St.get_put,Qm rfl]
  have n2':((s1.new (.row [Z0,Z0])).put s1.next (.row [.int .i64 c.1,.int .i64 c.2])).next=s1.next+1:=rfl
  generalize (s1.new (.row [Z0,Z0])).put s1.next (.row [.int .i64 c.1,.int .i64 c.2])=s2 at sto k2 g2 n2'
  obtain⟨i,hi⟩:∃ i:Nat,c.1=(i:Int):=⟨c.1.toNat,by omega⟩
  have hik:i < k:=by omega
  have hTs2:s2.get T=some (.row (Vw k fun i=>g i+VB (cl.take j) i)):=by rw[k2.2 _ (by omega)];exact hT1
  have htp2:s2.get tp=some (.row [.own T 0 k 1 (some k) 0]):=by rw[k2.2 _ (by omega),ho _ lt.2.1 n2];exact htp
  have lt9:Vf false 1 s2 (.ptr tp 0)=some (.own T 0 k 1 (some k) 0):=Vk htp2 rfl
  have lit:Vf false 1 s2 (.ptr s1.next 0)=some (.int .i64 c.1):=Vk g2 rfl
  have iaT:VC 1 (.own T 0 k 1 (some k) 0) (.int .i64 c.1)=some (.ptr T i):=by
   rw[hi]
   show (bif (i+1).ble k&&(1:Nat).beq 1 then some (AV.ptr T (0+i*1)) else none)=_
   rw[Qo (by omega)];simp
  have ldT:Vf false 1 s2 (.ptr T i)=some (ZI ((g i+VB (cl.take j) i))):=Vk hTs2 (Jv hik)
  have hcb:=UY (cl.take j) i
  rw[Xl] at hcb
  have hgi:=hg i
  have sm:=addN (i:=g i+VB (cl.take j) i) (j:=1) (by omega)
  have sto2:Vt 1 s2 (.ptr T i) (ZI ((g i+VB (cl.take j) i+1)))=some (s2.put T (.row (Vw k fun i=>g i+VB (cl.take (j+1)) i))):=V4 hTs2 rfl (by
   show setCells _ i [_]=_
   rw[rowN_set hik]
   congr 1;funext q
   rw[QT,hx,Z9,cntC_snoc _ _ i hi]
   by_cases hq:q=i
   ·rw[Qm hq,Qm hq,hq];omega
   ·rw[Qe hq,Qe hq]) (by rw[Jj];omega) rfl
  rw[Qs hjN] at hlt
  obtain⟨J6,H6,K6,O6_94⟩:∃ fr',ar m Y wg31_20 f s1=.ok fr' s1/\Kq [94] f fr'/\fr'.get 94=some (.bool true):=⟨_,by simp only[amE,rQ,↓reduceIte,rA,fl,fi,wg31_20,hlt]<;>rfl,Kq.refl.s,gh⟩
  have V6_91:=K6.g 91 fs
  have V6_93:=K6.g 93 fi
  have V6_8:=K6.g 8 ft
  obtain⟨J7,H7,O7_95,O7_96,O7_20⟩:∃ fr',ar m Y wg31_21 J6 s1=.ok fr' s2/\fr'.get 95=some (pe)/\fr'.get 96=some (.agg [.int .i64 c.1,.int .i64 c.2])/\fr'.get 20=some (.ptr s1.next 0):=⟨_,by simp only[amE,rQ,↓reduceIte,rA,V6_91,V6_93,wg31_21,ie,lde,sto]<;>rfl,gn (gn gh),gn gh,gh⟩
  have V7_93:=ag H7 V6_93
  have V7_8:=ag H7 V6_8
  obtain⟨J8,H8,O8_97,O8_98,O8_99,O8_100,O8_101,O8_102,O8_103⟩:∃ fr',ar m Y wg31_22 J7 s2=.ok fr' (s2.put T (.row (Vw k fun i=>g i+VB (cl.take (j+1)) i)))/\fr'.get 97=some (.own T 0 k 1 (some k) 0)/\fr'.get 98=some (.ptr s1.next 0)/\fr'.get 99=some (.int .i64 c.1)/\fr'.get 100=some (.ptr T i)/\fr'.get 101=some (ZI ((g i+VB (cl.take j) i)))/\fr'.get 102=some (ZI ((g i+VB (cl.take j) i+1)))/\fr'.get 103=some (.ptr T i):=⟨_,by simp only[amE,rQ,↓reduceIte,rA,V7_8,O7_20,wg31_22,faP,lt9,lit,iaT,ldT,sm,sto2]<;>rfl,gn (gn (gn (gn (gn (gn gh))))),gn (gn (gn (gn (gn gh)))),gn (gn (gn (gn gh))),gn (gn (gn gh)),gn (gn gh),gn gh,gh⟩
  have V8_93:=ag H8 V7_93
  have V8_95:=ag H8 O7_95
  have V8_96:=ag H8 O7_96
  have V8_20:=ag H8 O7_20
  obtain⟨J9,H9,O9_104,O9_93⟩:∃ fr',ar m Y wg31_23 J8 (s2.put T (.row (Vw k fun i=>g i+VB (cl.take (j+1)) i)))=.ok fr' (s2.put T (.row (Vw k fun i=>g i+VB (cl.take (j+1)) i)))/\fr'.get 104=some (ZI ((j+1)))/\fr'.get 93=some (ZI ((j+1))):=⟨_,by simp only[amE,rQ,↓reduceIte,rA,V8_93,wg31_23,had]<;>rfl,gn gh,gh⟩
  have V9_95:=ag H9 V8_95
  have V9_96:=ag H9 V8_96
  have V9_20:=ag H9 V8_20
  have V9_97:=ag H9 O8_97
  have V9_98:=ag H9 O8_98
  have V9_99:=ag H9 O8_99
  have V9_100:=ag H9 O8_100
  have V9_101:=ag H9 O8_101
  have V9_102:=ag H9 O8_102
  have V9_103:=ag H9 O8_103
  have hpe:VR pe=true:=by
   have:=hsl.2.2.2
   exact iaddr_nag ie
  have cls:(∀ j∈[95,20,97,98,99,100,101,102,103,104],VR (ev J9 (.t j))=true)/\∃ a b:Int,J9.get 96=some (.agg [.int .i64 a,.int .i64 b]):=by
   refine⟨fun j hj=>?_,c.1,c.2,V9_96⟩
   simp only[Qx,QI,Xh] at hj
   rcases hj with rfl | rfl | rfl | rfl | rfl | rfl | rfl | rfl | rfl | rfl
   ·exact nag V9_95 hpe
   ·exact nag V9_20
   ·exact nag V9_97
   ·exact nag V9_98
   ·exact nag V9_99
   ·exact nag V9_100
   ·exact nag V9_101
   ·exact nag V9_102
   ·exact nag V9_103
   ·exact nag O9_104
  have kk:=(kf.t (((K6.t (aq H7)).t (aq H8)).t (aq H9))).to (E:=[93,94,95,96,20,97,98,99,100,101,102,103,104])
  have hI9:ac m Y TC ro f s1=.norm J9 (s2.put T (.row (Vw k fun i=>g i+VB (cl.take (j+1)) i))):=by
   simp only[amE,rQ,↓reduceIte,rA,TC,b00,b11,b22,b33,H6,H7,H8,H9,O6_94]
  rw[hI9]
  exact⟨hjN,kk,O9_93,fun _=>cls,by show s2.next=_;omega,by rw[St.get_put,Qm rfl],fun q h1 h2=>by rw[St.get_put,Qe h2,k2.2 _ (by omega)];exact ho q h1 h2⟩
 ·rw[Qp hjN] at hlt
  have hjl:j=cl.length:=by omega
  rw[hjl,QH] at hT1
  obtain⟨J10,H10,K10,O10_94⟩:∃ fr',ar m Y wg31_20 f s1=.ok fr' s1/\Kq [94] f fr'/\fr'.get 94=some (.bool false):=⟨_,by simp only[amE,rQ,↓reduceIte,rA,fl,fi,wg31_20,hlt]<;>rfl,Kq.refl.s,gh⟩
  have V10_93:=K10.g 93 fi
  have kk:=(kf.t K10).to (E:=[93,94,95,96,20,97,98,99,100,101,102,103,104])
  have cls:cl≠[]->(∀ j∈[95,20,97,98,99,100,101,102,103,104],VR (ev J10 (.t j))=true)/\∃ a b:Int,J10.get 96=some (.agg [.int .i64 a,.int .i64 b]):=fun hne=>by
   have hpos:0 < j:=by rw[hjl];exact Z2.2 hne
   obtain⟨c1,a,b,c2⟩:=fc hpos
   refine⟨fun q hq=>?_,a,b,(K10.2 96 (by decide)).trans c2⟩
   have:=c1 q hq
   show VR ((J10.get q).getD .undef)=true
   rw[K10.2 q (by
    simp only[Qx,QI,Xh] at hq ⊢
    omega)]
   exact this
  have hI10:ac m Y TC ro f s1=.exit 6 J10 s1:=by
   simp only[amE,rQ,↓reduceIte,rA,TC,b00,b11,b22,b33,H10,O10_94]
  rw[hI10]
  exact⟨_,_,rfl,kk,cls,by rw[<-hjl];exact V10_93,⟨_,O10_94⟩,by omega,hT1,ho⟩
open Nat renaming reduceEqDiff -> rQ, reduceAdd -> rA
structure PrSt(A lim hi:Nat)(d:List Sp)(s:St)(PL:List Pr):Prop where
 all:s.get A=some (.fmap (esP PL))
 prs:PL.map (fun x=>x.e.prop)=V6 (ens d)
 one:∀ x∈PL,d.find? (fun z=>z.2.2.prop==x.e.prop)=some (x.p,x.i,x.e)/\x.cl=clE (ens d) x.e.prop/\s.get x.id=some (.row x.row)/\s.get x.cid=some (.row (V9 x.cl))/\lim<=x.id/\lim<=x.cid/\x.id < hi/\x.cid < hi
 ids:(PL.flatMap fun x=>[x.id,x.cid]).Nodup
 lim:A < lim
theorem PrSt.keep{A lim hi:Nat}{d:List Sp}{s s':St}{PL:List Pr}(h:PrSt A lim hi d s PL)(k:∀ j,j=A\/(lim<=j/\j < hi)->s'.get j=s.get j):PrSt A lim hi d s' PL:=by
 refine⟨by rw[k _ (.inl rfl)];exact h.all,h.prs,fun x hx=>?_,h.ids,h.lim⟩
 obtain⟨a,b,c,e,f,g,i,j⟩:=h.one x hx
 exact⟨a,b,by rw[k _ (.inr ⟨f,i⟩)];exact c,by rw[k _ (.inr ⟨g,j⟩)];exact e,f,g,i,j⟩
theorem nodup_lt:∀(n:Nat) (l:List Nat),l.Nodup->(∀ x∈l,x < n)->l.length<=n
 | 0,l,_,h=>by
  cases l with
  | nil=>exact Qw _
  | cons x l=>exact absurd (h x (by simp)) (by omega)
 | n+1,l,hn,h=>by
  have h1:(l.erase n).length<=n:=nodup_lt n (l.erase n) (hn.erase n) fun x hx=>by
   have:=(hn.mem_erase_iff.1 hx)
   have:=h x this.2
   omega
  have:=List.length_erase (a:=n) (l:=l)
  split at this<;>omega
def YC(PL:List Pr)(ks:List Nat):List (Int × Int):=ks.flatMap fun i=>match PL[i]? with
 | some x=>x.cl
 | none=>[]
theorem clsOf_range(PL:List Pr):YC PL (List.range PL.length)=PL.flatMap (·.cl):=by
 unfold YC
 induction PL using JS with
 | nil=>rfl
 | snoc l x ih=>
  rw[QJ,Zu,List.range_succ,X0,X0]
  congr 1
  ·rw[<-ih,Zf,Zf]
   refine Xn List.flatten (QX fun i hi=>?_)
   rw[Xk (Xo.1 hi)]
  ·simp
theorem clsOf_le(PL:List Pr)(B:Nat)(hB:∀ x∈PL,x.cl.length<=B):∀ ks:List Nat,(YC PL ks).length<=ks.length*B
 | []=>by simp[YC]
 | i::ks=>by
  have ih:=clsOf_le PL B hB ks
  unfold YC at ih ⊢
  rw[Xa,QJ,QC,Xv,Nat.one_mul]
  have:(match PL[i]? with
   | some x=>x.cl
   | none=>[]).length<=B:=by
   split
   ·rename_i x hx;exact hB x (Qr hx)
   ·simp
  omega
theorem clsOf_snoc(PL:List Pr)(ks:List Nat)(i:Nat){x:Pr}(h:PL[i]?=some x):YC PL (ks++[i])=YC PL ks++x.cl:=by
 unfold YC;rw[X0];simp[h]
theorem extract0(a b:AV):WJ 0 (.tuple [a,b])=some a:=rfl
theorem extract1(a b:AV):WJ 1 (.tuple [a,b])=some b:=rfl
set_option maxHeartbeats 1000000 in
theorem total31{m:Nat}{Y:Vi}{ro:Option Nat}{fr:Fr}{s:St}{A lim hi:Nat}{d:List Sp}{PL:List Pr}{id0 T tp k:Nat}(hP:PrSt A lim hi d s PL)(hid:s.get id0=some (.iter A []))(htp:s.get tp=some (.row [.own T 0 k 1 (some k) 0]))(hT:s.get T=some (.row (Vw k fun _=>0)))
  (o1:hi<=id0) (o2:hi<=tp) (o3:hi<=T) (o4:id0≠tp) (o5:id0≠T) (o6:tp≠T) (o7:id0 < s.next/\tp < s.next/\T < s.next) (o8:lim<=hi)
  (hk:∀ x∈PL,∀ c∈x.cl,0<=c.1/\c.1 < (k:Int)) (hb:∀ x∈PL,x.cl.length<=4000) (hne:∀ x∈PL,x.cl≠[]) (hn:PL.length<=4000) (hm:5000 < m)
  (g44:fr.get 44=some (.ptr id0 0)) (g9:fr.get 9=some (.ptr tp 0)) (un:∀ j∈[45,46,47,48,11,49,50,51,52,53,54,55,56,57,13,59,60,61,62,63,64,65,66,58],fr.get j=none):
  ∃ F S,ac m Y wm31_1 ro fr s=.exit 0 F S/\(∀ j,j∉[44,45,46,47,48,11,49,50,51,52,53,54,55,56,57,58,13,59,60,61,62,63,64,65,66,55]->F.get j=fr.get j)/\F.ds=fr.ds/\PrSt A lim hi d S PL/\S.get T=some (.row (Vw k fun i=>VB (PL.flatMap (·.cl)) i))/\s.next<=S.next/\∀ j,j < s.next->j≠id0->j≠T->S.get j=s.get j:=by
 have hlen:(esP PL).length=PL.length:=by unfold esP;rw[Qu]
 obtain⟨F,S,h1,h2,h3,h4,h5⟩:=mrange_run (Γ:=gT m) (Y:=Y) (n:=m) (it:=44) (nx:=45) (more:=46) (out:=0) (cl:=[44,45,46,47,48,11,49,50,51,52,53,54,55,56,57,58,13,59,60,61,62,63,64,65,66,55]) (c:=wc31_1) (ro:=ro) (fr:=fr) (st:=s) (id:=id0) (m:=A) (es:=esP PL)
  (Q:=fun ks f s1=>(∀ j,j∉[44,45,46,47,48,11,49,50,51,52,53,54,55,56,57,58,13,59,60,61,62,63,64,65,66,55]->f.get j=fr.get j)/\f.ds=fr.ds/\(ks=[]->∀ j∈[45,46,47,48,11,49,50,51,52,53,54,55,56,57,13,59,60,61,62,63,64,65,66,58],f.get j=none)/\(ks≠[]->(∀ j∈[45,46,47,48,11,49,50,51,52,53,54,55,56,57,13,59,60,61,62,63,64,65,66],VR (ev f (.t j))=true)/\∃ a b:Int,f.get 58=some (.agg [.int .i64 a,.int .i64 b]))/\s1.next=s.next+(YC PL ks).length/\s1.get T=some (.row (Vw k fun i=>VB (YC PL ks) i))/\∀ j,j < s.next->j≠id0->j≠T->s1.get j=s.get j)
  (G:=fun j=>if j=T then some (.row (Vw k fun i=>VB (PL.flatMap (·.cl)) i)) else s.get j) (N:=s.next+(PL.flatMap (·.cl)).length) (sh:=fun j=>if j=58/\PL≠[] then some 2 else none)
  g44 hid hP.all (by decide) ⟨by simp,by simp⟩ ⟨fun _ _=>rfl,rfl,fun _=>un,fun h=>absurd rfl h,rfl,by simpa [YC,VB] using hT,fun _ _ _ _=>rfl⟩
  (fun ks i f s1 hi' hnk hks hdup fi ⟨q1,q2,q3,q4,q5,q6,q7⟩=>by
   rw[hlen] at hi' hks
   have hx:PL[i]?=some PL[i]:=Qn hi'
   generalize PL[i]=x at hx
   have hxm:=Qr hx
   obtain⟨xa,xb,xc,xd,xf,xg,xu,xv⟩:=hP.one x hxm
   have hkl:ks.length<=PL.length:=nodup_lt PL.length ks hdup hks
   have hcb:(YC PL ks).length<=16000000:=by
    have h1:=clsOf_le PL 4000 hb ks
    have h2:ks.length<=4000:=by omega
    omega
   obtain⟨s2,hs2⟩:∃ s2,s2=s1.put id0 (.iter A (ks++[i])):=⟨_,rfl⟩
   have p2:∀ j,j≠id0->s2.get j=s1.get j:=fun j hj=>by rw[hs2,St.get_put,Qe hj]
   have p2i:s2.get id0=some (.iter A (ks++[i])):=by rw[hs2,St.get_put,Qm rfl]
   have n2:s2.next=s.next+(YC PL ks).length:=by rw[hs2];exact q5
   rw[<-hs2]
   have hA:=hP.lim
   have p0:∀ j,j < s.next->j≠id0->j≠T->s2.get j=s.get j:=fun j h1 h2 h3=>(p2 j h2).trans (q7 j h1 h2 h3)
   have eA:s2.get A=some (.fmap (esP PL)):=(p0 A (by omega) (by omega) (by omega)).trans hP.all
   have een:entA s2 (.ptr id0 0)=some (.tuple [.int .i64 x.e.prop,.ptr x.id 0]):=by
    have:(esP PL)[i]?=some (.int .i64 x.e.prop,.ptr x.id 0):=by unfold esP;rw[Q5,hx];rfl
    simp only[entA,p2i,List.getLast?_append,List.getLast?_singleton,Option.some_or,eA,this,Ql]
   have lx6:Vf false 1 s2 (.ptr x.id 6)=some x.csl:=by
    obtain⟨a,b',c',hda,_⟩:=x.e.d.cells_abc
    refine Vk ((p0 x.id (by omega) (by omega) (by omega)).trans xc) ?_
    unfold Pr.row YX;rw[hda];rfl
   have hln:(bif VD 0 x.csl then Wm s2 x.csl else none)=some (ZI x.cl.length):=by
    have h0:ClS s2 x.csl x.cid x.cl:=.inr ⟨rfl,(p0 x.cid (by omega) (by omega) (by omega)).trans xd⟩
    have:=(h0.sl (by have:=hb x hxm;omega)).len s2
    rwa [Qu] at this
   obtain⟨f1,hf1⟩:∃ f1,f1=(f.set 45 (some .top)).set 46 (some .top):=⟨_,rfl⟩
   rw[<-hf1]
   have kf1:Kq [46,45] f f1:=by rw[hf1];exact Kq.refl.s.s
   have u44:=kf1.g 44 fi
   have u9:f1.get 9=some (.ptr tp 0):=kf1.g 9 ((q1 9 (by decide)).trans g9)
   have u45:f1.get 45=some .top:=by rw[hf1,Fr.get_set,Qe (by decide),Fr.get_set,Qm rfl]
   have u46:f1.get 46=some .top:=by rw[hf1,Fr.get_set,Qm rfl]
   obtain⟨J1,H1,O1_47,O1_48,O1_11⟩:∃ fr',ar m Y wg31_6 f1 s2=.ok fr' s2/\fr'.get 47=some (.tuple [.int .i64 x.e.prop,.ptr x.id 0])/\fr'.get 48=some (.ptr x.id 0)/\fr'.get 11=some (.ptr x.id 0):=⟨_,by simp only[amE,rQ,↓reduceIte,rA,u44,wg31_6,een,extract1,nd_ent]<;>rfl,gn (gn gh),gn gh,gh⟩
   have V1_44:=ag H1 u44
   have V1_9:=ag H1 u9
   have V1_45:=ag H1 u45
   have V1_46:=ag H1 u46
   obtain⟨J2,H2,O2_49,O2_50,O2_51,O2_52,O2_53,O2_54,O2_55⟩:∃ fr',ar m Y wg31_7 J1 s2=.ok fr' s2/\fr'.get 49=some (.ptr x.id 0)/\fr'.get 50=some (.ptr x.id 0)/\fr'.get 51=some (.ptr x.id 0)/\fr'.get 52=some (.ptr x.id 6)/\fr'.get 53=some (x.csl)/\fr'.get 54=some (ZI x.cl.length)/\fr'.get 55=some Z0:=⟨_,by simp only[amE,rQ,↓reduceIte,rA,O1_11,wg31_7,Yq,faP,lx6,hln]<;>rfl,gn (gn (gn (gn (gn (gn gh))))),gn (gn (gn (gn (gn gh)))),gn (gn (gn (gn gh))),gn (gn (gn gh)),gn (gn gh),gn gh,gh⟩
   have V2_44:=ag H2 V1_44
   have V2_9:=ag H2 V1_9
   have V2_45:=ag H2 V1_45
   have V2_46:=ag H2 V1_46
   have V2_47:=ag H2 O1_47
   have V2_48:=ag H2 O1_48
   have V2_11:=ag H2 O1_11
   obtain⟨FR,s',hL,kL,cL,fL,⟨bb,bL⟩,nL,tL,oL⟩:=tot31_run (m:=m) (Y:=Y) (ro:=ro) (s:=s2) (fr:=J2) (csl:=x.csl) (cid:=x.cid) (cl:=x.cl) (T:=T) (tp:=tp) (k:=k) (g:=fun i=>VB (YC PL ks) i) (.inr ⟨rfl,(p0 x.cid (by omega) (by omega) (by omega)).trans xd⟩) (by have:=hb x hxm;omega) (by have:=hb x hxm;omega) (hk x hxm)
    ((p0 tp (by omega) (by omega) (by omega)).trans htp) ((p2 T (by omega)).trans q6) (fun j=>by have:=UY (YC PL ks) j;omega) ⟨by omega,by omega,by omega⟩ (by omega) (by omega) rfl O2_53 O2_54 O2_55 V2_9
   have L44:=kL.g 44 V2_44
   have L45:=kL.g 45 V2_45
   have L46:=kL.g 46 V2_46
   have L47:=kL.g 47 V2_47
   have L48:=kL.g 48 V2_48
   have L11:=kL.g 11 V2_11
   have L49:=kL.g 49 O2_49
   have L50:=kL.g 50 O2_50
   have L51:=kL.g 51 O2_51
   have L52:=kL.g 52 O2_52
   have L53:=kL.g 53 O2_53
   have L54:=kL.g 54 O2_54
   have kk:=((((kf1.t (aq H1)).t (aq H2)).t kL)).to (E:=[44,45,46,47,48,11,49,50,51,52,53,54,55,56,57,58,13,59,60,61,62,63,64,65,66,55])
   have hI:ac m Y wc31_1 ro f1 s2=.norm FR s':=by
    simp only[amE,rQ,↓reduceIte,rA,wc31_1,b00,b11,b22,b33,H1,H2,hL]
   refine⟨FR,s',hI,L44,?_,fun j hj=>?_,?_,fun h=>absurd h (by simp),fun _=>⟨fun j hj=>?_,(cL (hne x hxm)).2⟩,?_,?_,fun j h1 h2 h3=>?_⟩
   ·rw[oL _ (by omega) (by omega)];exact p2i
   ·rw[kk.2 j hj];exact q1 j hj
   ·exact kk.1.trans q2
   ·simp only[Qx,QI,Xh] at hj
    rcases hj with rfl | rfl | rfl | rfl | rfl | rfl | rfl | rfl | rfl | rfl | rfl | rfl | rfl | rfl | rfl | rfl | rfl | rfl | rfl | rfl | rfl | rfl | rfl
    ·exact nag L45
    ·exact nag L46
    ·exact nag L47
    ·exact nag L48
    ·exact nag L11
    ·exact nag L49
    ·exact nag L50
    ·exact nag L51
    ·exact nag L52
    ·exact nag L53
    ·exact nag L54
    ·exact nag fL
    ·exact nag bL
    ·exact(cL (hne x hxm)).1 57 (by decide)
    ·exact(cL (hne x hxm)).1 13 (by decide)
    ·exact(cL (hne x hxm)).1 59 (by decide)
    ·exact(cL (hne x hxm)).1 60 (by decide)
    ·exact(cL (hne x hxm)).1 61 (by decide)
    ·exact(cL (hne x hxm)).1 62 (by decide)
    ·exact(cL (hne x hxm)).1 63 (by decide)
    ·exact(cL (hne x hxm)).1 64 (by decide)
    ·exact(cL (hne x hxm)).1 65 (by decide)
    ·exact(cL (hne x hxm)).1 66 (by decide)
   ·rw[nL,n2,clsOf_snoc PL ks i hx,QJ];omega
   ·rw[tL,clsOf_snoc PL ks i hx]
    congr 2
    exact Xn (Vw k) (funext fun q=>(cntC_app _ _ q).symm)
   ·rw[oL _ (by omega) h3];exact p0 j h1 h2 h3)
  (fun l f s1 hl fi ⟨q1,q2,q3,q4,q5,q6,q7⟩=>by
   rw[hlen] at hl
   have hpm:(YC PL l).Perm (PL.flatMap (·.cl)):=by rw[<-clsOf_range];unfold YC;exact hl.flatMap_right _
   refine⟨q1,q2,fun j hj hji=>?_,?_,fun j h1 h2=>?_⟩
   ·by_cases hl0:l=[]
    ·have hPL:PL=[]:=by
      subst hl0
      have:=hl.length_eq
      rw[Zo] at this
      exact XU.1 this.symm
     rw[Qe (by simp[hPL])]
     show VR ((f.get j).getD .undef)=true
     have hjm:j∈[45,46,47,48,11,49,50,51,52,53,54,55,56,57,13,59,60,61,62,63,64,65,66,58]:=by
      simp only[Qx,QI,Xh] at hj ⊢
      omega
     rw[q3 hl0 j hjm];rfl
    ·have hPL:PL≠[]:=fun h=>hl0 (by
      subst h;exact XU.1 (by rw[hl.length_eq];rfl))
     obtain⟨c1,a,b,c2⟩:=q4 hl0
     by_cases h58:j=58
     ·subst h58
      rw[Qm ⟨rfl,hPL⟩]
      refine⟨[.int .i64 a,.int .i64 b],?_,rfl,rfl⟩
      show (f.get 58).getD .undef=_
      rw[c2];rfl
     ·rw[Qe (fun h=>h58 h.1)]
      refine c1 j ?_
      simp only[Qx,QI,Xh] at hj ⊢
      omega
   ·rw[q5,hpm.length_eq]
   ·show s1.get j=if j=T then _ else s.get j
    by_cases hj:j=T
    ·subst hj
     rw[Qm rfl,q6]
     congr 2
     exact Xn (Vw k) (funext fun q=>cntC_perm hpm q)
    ·rw[Qe hj];exact q7 j h1 h2 hj)
 have hA:=hP.lim
 refine⟨F,S,h1,h2,h3,hP.keep fun j hj=>?_,?_,by omega,fun j a1 a2 a3=>?_⟩
 ·rw[h5 j (by omega) (by omega),Qe (by omega)]
 ·rw[h5 T o7.2.2 (fun e=>o5 e.symm),Qm rfl]
 ·rw[h5 j a1 a2,Qe a3]
end Go.AM.D32
