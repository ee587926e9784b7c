import Derived.Test.YtejdliehekjicaaGreatAwWa21
set_option maxRecDepth 100000
set_option linter.unusedSimpArgs false
namespace Go.AM.D32
open Go Go.AM
open Nat renaming reduceEqDiff -> rQ, reduceAdd -> rA
theorem intBeq_self(i:Int):TO i i=true:=by cases i<;>exact QD _
theorem avBeq3(a b c:Int):V8 (.agg [.int .i64 a,.int .i64 b,.int .i64 c]) (.agg [.int .i64 a,.int .i64 b,.int .i64 c])=true:=by
 simp only[V8,VG,intBeq_self];rfl
theorem draw31_3{m:Nat}{Y:Vi}{fr:Fr}{s:St}{b x7:Nat}{x:AV}{a p i:Int}(g4:fr.get 4=some (.ptr b 0))(g5:fr.get 5=some (.ptr (b+1) 0))(g7:fr.get 7=some (.ptr x7 0))(hb:s.get b=some (.row [x]))(cF:s.get (b+1)=some (.row [Z0,Z0,Z0]))(h7:s.get x7=some (.row [.int .i64 a,.int .i64 p,.int .i64 i]))(n1:x7≠b):
  ∃ aa,VK ((gT m).cg Y) wg31_3 [(0,some 1),(0,some 2)] fr s=.ok aa ((s.put b (.row [.nilsl])).put (b+1) (.row [.int .i64 a,.int .i64 p,.int .i64 i]))/\Kq [34] fr aa:=by
 have l7:Vf true 3 s (.ptr x7 0)=some (.agg [.int .i64 a,.int .i64 p,.int .i64 i]):=Wk h7 rfl
 have oY:Vf true 3 (s.put b (.row [.nilsl])) (.ptr x7 0)=some (.agg [.int .i64 a,.int .i64 p,.int .i64 i]):=Wk (by rw[St.get_put,Qe n1];exact h7) rfl
 have t1:Vt 1 s (.ptr b 0) .nilsl=some (s.put b (.row [.nilsl])):=V4 hb rfl rfl (by simp) rfl
 have t2:Vt 3 (s.put b (.row [.nilsl])) (.ptr (b+1) 0) (.agg [.int .i64 a,.int .i64 p,.int .i64 i])=some ((s.put b (.row [.nilsl])).put (b+1) (.row [.int .i64 a,.int .i64 p,.int .i64 i])):=V4 (by rw[St.get_put,Qe (by omega)];exact cF) rfl rfl (by simp) rfl
 have hl:lens ((gT m).cg Y) wg31_3 fr s=[]:=rfl
 refine⟨?f,?h1,?h2⟩
 case h1=>
  refine adraw_ok2 (ak:=?i) hl ?x ?y ?z
  case x=>
   have hp:VT wg31_3 [] s=s:=rfl
   rw[hp]
   simp only[Rw,rQ,rA,wg31_3,WH,WU,DR.cons,V5,VJ,g4,g5,g7,l7,t1,t2]
   rfl
  case y=>rfl
  case z=>
   simp only[QN,QW,Qy,Qd]
   refine⟨Wo (i:=0) (k:=1) rfl rfl rfl rfl ?k0,Wo (i:=0) (k:=2) rfl rfl rfl rfl ?k1⟩
   case k0=>
    right;refine⟨?s2,?l2,avBeq3 _ _ _⟩
    case l2=>simp only[Rw,rQ,rA,V5,g7,l7];try rfl
   case k1=>
    right;refine⟨?s3,?l3,avBeq3 _ _ _⟩
    case l3=>simp only[Rw,rQ,rA,V5,g7,oY];try rfl
 case h2=>exact Kq.refl.s
theorem Kq.of{D:List Nat}{a b:Fr}(h:∀ j,j∉D->b.get j=a.get j)(d:b.ds=a.ds):Kq D a b:=⟨d,h⟩
def Yb(l:List Sp):List Int × List Int:=Y4 (RA l) (Wn (V6 (RA l))).length (Wn (V6 (RA l))) []
def okM(k:Nat)(ps:List Int)(l:List Sp):Prop:=KC k ps l/\(Yb l).1=[]
def PrM(sp:List Sp)(lo:Nat)(s:St)(x:Pr):Prop:=sp.find? (fun z=>z.2.2.prop==x.e.prop)=some (x.p,x.i,x.e)/\x.cl=RK (RA sp) x.e.prop/\s.get x.id=some (.row x.row)/\s.get x.cid=some (.row (V9 (VY x.cl)))/\lo<=x.id/\lo<=x.cid/\x.id < s.next/\x.cid < s.next
set_option maxHeartbeats 2000000 in
theorem merge_run{F:Nat->Prop}{st:St}{lv pv jv:AV}{ls:List (List AV)}{ps:List Int}{N:Int}{js:List (AV × List En)}(hl:RB 1 F st lv ls)(hp:RE F st pv ps)(hj:YQ F st jv js)(hF:∀ i,F i->i < st.next)(hP:ps.length=ls.length)(hA:areB ls.length N js=true)(m:Nat)(Y:Vi)(hn:fzJ js+40000 < m)(bW:ls.length<=24):
  ∃ af v r,R (m+3) Y 31 [.agg [lv,pv,.int .i64 N],jv] st=.ret (.tuple [v,.agg r]) af/\Vd st af ∧
   ((okM ls.length ps (Vq js)/\r=[Z0,Z0,Z0]/\∃ PS:List Pr,PS.map (fun x=>x.e.prop)=(Yb (Vq js)).2/\JU st.next af v PS/\∀ x∈PS,PrM (Vq js) st.next af x) ∨
    (¬ okM ls.length ps (Vq js)/\v=.nilsl/\∃ kd p i:Nat,kd≠0/\r=[ZI kd,ZI p,ZI i])):=by
 have bA:AV.one jv=true:=hj.1.one
 have uO:=hA
 unfold areB at uO
 simp only[Qd,QF,QB] at uO
 obtain⟨⟨au,oX⟩,mi⟩:=uO
 have fU:(RA (Vq js)).length<=4000:=by rw[spots_len];exact oX
 have e9:∀ z∈Vq js,En.good ls.length z.2.2=true/\z.2.2.ok:=fun z hz=>by
  unfold Vq at hz
  obtain⟨y,hy,j0⟩:=QO.1 hz
  have bd:y.1∈js:=by
   have ir:=XF hy
   rw[ir.2.2];exact Xu _
  unfold row at j0
  obtain⟨u,hu,rfl⟩:=Q6.1 j0
  have di:u.1∈y.1.2:=by
   have nK:=XF hu
   rw[nK.2.2];exact Xu _
  exact⟨mi y.1 bd u.1 di,(hj.2 y.1 bd).2 u.1 di⟩
 obtain⟨sA,q0⟩:∃ sA,sA=(st.new (.row [.nilsl])).new (.row [Z0,Z0,Z0]):=⟨_,rfl⟩
 have kA:Vd st sA:=by rw[q0];exact(Vd.new st _).trans (Vd.new _ _)
 have nA:sA.next=st.next+2:=by rw[q0];rfl
 have A0:sA.get st.next=some (.row [.nilsl]):=by rw[q0];simp[St.get_new]
 have A1:sA.get (st.next+1)=some (.row [Z0,Z0,Z0]):=by rw[q0];simp[St.get_new]
 have SA:=Vs.of kA hF
 have Ah:∀ i,F i->i < sA.next:=fun i hi=>by have:=hF i hi;omega
 obtain⟨sG,v,r,rR,kG,hG⟩:=gathered_run (hl.mono SA fun _ h=>h) (hp.mono SA fun _ h=>h) (hj.mono SA fun _ h=>h) Ah hP hA m Y (by omega)
 have rR:((gT (m+2)).cg Y).fn 69 [.agg [lv,pv,.int .i64 N],jv] sA=.ret (.tuple [v,.agg r]) sG:=rR
 have nG:=kG.1
 obtain⟨ra,rb,rc,hr⟩:∃ ra rb rc:Int,r=[.int .i64 ra,.int .i64 rb,.int .i64 rc]:=by
  rcases hG with⟨_,_,h,_⟩|⟨_,_,_,_,_,_,_,h⟩<;>exact⟨_,_,_,h⟩
 have hv:v.cells=[v]/\AV.one v=true:=by
  rcases hG with⟨_,h,_,_⟩|⟨h,_⟩<;>rw[h]<;>exact⟨rfl,rfl⟩
 rw[hr] at rR
 -- what was gathered,in variables
 have ai:Vt 1 ((sG.new (.row [.nilmap])).new (.row [Z0,Z0,Z0])) (.ptr sG.next 0) v=some (((sG.new (.row [.nilmap])).new (.row [Z0,Z0,Z0])).put sG.next (.row [v])):=V4 (x:=[.nilmap]) (by simp[St.get_new]) (by rw[hv.1];rfl) (by rw[hv.1];rfl) (by simp) (by rw[hv.1];simp[hv.2])
 have st2:Vt 3 (((sG.new (.row [.nilmap])).new (.row [Z0,Z0,Z0])).put sG.next (.row [v])) (.ptr (sG.new (.row [.nilmap])).next 0) (.agg [.int .i64 ra,.int .i64 rb,.int .i64 rc])=some ((((sG.new (.row [.nilmap])).new (.row [Z0,Z0,Z0])).put sG.next (.row [v])).put (sG.new (.row [.nilmap])).next (.row [.int .i64 ra,.int .i64 rb,.int .i64 rc])):=V4 (x:=[Z0,Z0,Z0]) (by simp[St.get_new,St.get_put]) rfl rfl (by simp) rfl
 obtain⟨s1,cr⟩:∃ s1,s1=(((sG.new (.row [.nilmap])).new (.row [Z0,Z0,Z0])).put sG.next (.row [v])).put (sG.new (.row [.nilmap])).next (.row [.int .i64 ra,.int .i64 rb,.int .i64 rc]):=⟨_,rfl⟩
 rw[<-cr] at st2
 have n1:s1.next=sG.next+2:=by rw[cr];rfl
 have k1:Vd sG s1:=by rw[cr];exact(((Vd.new sG _).trans (Vd.new _ _)).put _ _ (Qw _)).put _ _ (by simp)
 have B6:s1.get sG.next=some (.row [v]):=by rw[cr];simp[St.get_put,St.get_new]
 have B7:s1.get (sG.next+1)=some (.row [.int .i64 ra,.int .i64 rb,.int .i64 rc]):=by rw[cr];simp[St.get_put,St.get_new]
 have B0:s1.get st.next=some (.row [.nilsl]):=by rw[k1.2 _ (by omega),kG.2 _ (by omega)];exact A0
 have B1:s1.get (st.next+1)=some (.row [Z0,Z0,Z0]):=by rw[k1.2 _ (by omega),kG.2 _ (by omega)];exact A1
 have K1:Vd st s1:=(kA.trans kG).trans k1
 have Ai:Vf false 1 s1 (.ptr (sG.next+1) 0)=some (.int .i64 ra):=Vk B7 rfl
 have az:=Yk ra (.ofNat 0)
 obtain⟨fA4,fG⟩:∃ fA,fA=Vo 0 [.agg [lv,pv,.int .i64 N],jv] Fr.nil:=⟨_,rfl⟩
 have gA4_0:=R9 fG 0
 have gA4_1:=R9 fG 1
 have dA4:fA4.ds=[]:=by rw[fG];rfl
 have Aj:∀ j,2<=j->fA4.get j=none:=fun j hj=>by rw[fG];simp only[Vo,Fr.get_set];rw[Qe (by omega),Qe (by omega),Fr.get_nil]
 obtain⟨J5,uP,kR5,O5_2,O5_4,O5_5⟩:∃ aa,ar (m+2) Y wg31_0 fA4 st=.ok aa sA/\Kq [5,4,2] fA4 aa/\aa.get 2=some (.fptr [lv,pv,.int .i64 N] 0)/\aa.get 4=some (.ptr st.next 0)/\aa.get 5=some (.ptr (st.next+1) 0):=⟨_,by simp only[Rw,rQ,rA,gA4_0,wg31_0,q0]<;>rfl,Kq.refl.s.s.s,gn (gn gh),gn gh,gh⟩
 have V5_1:=kR5.g 1 gA4_1
 have W5:=kR5.1.trans dA4
 obtain⟨J6,ly,O6_6,O6_7⟩:∃ aa,ar (m+2) Y wg31_1 J5 sA=.ok aa s1/\aa.get 6=some (.ptr sG.next 0)/\aa.get 7=some (.ptr (sG.next+1) 0):=⟨_,by simp only[Rw,rQ,rA,V5_1,O5_2,wg31_1,Jh,rR,extract0,extract1,ai,st2]<;>rfl,gn gh,gh⟩
 obtain⟨J7,jF,O7_33⟩:∃ aa,ar (m+2) Y wg31_2 J6 s1=.ok aa s1/\aa.get 33=some (.bool (ra != .ofNat 0)):=⟨_,by simp only[Rw,rQ,rA,O6_7,wg31_2,RG,Ai,az]<;>rfl,gh⟩
 have V7_2:=ag jF (ag ly O5_2)
 have V7_4:=ag jF (ag ly O5_4)
 have V7_5:=ag jF (ag ly O5_5)
 have V7_7:=ag jF O6_7
 have W7:=ad jF (ad ly W5)
 have Ak:∀ j∈[45,46,47,48,11,49,50,51,52,53,54,55,56,57,58,13,59,60,61,62,63,64,65,66,55],J7.get j=none:=fun j hj=>by
  rw[(((kR5.t (aq ly)).t (aq jF))).2 j (by
   simp only[Qx,QI,Xh] at hj
   rcases hj with rfl | rfl | rfl | rfl | rfl | rfl | rfl | rfl | rfl | rfl | rfl | rfl | rfl | rfl | rfl | rfl | rfl | rfl | rfl | rfl | rfl | rfl | rfl | rfl | rfl<;>decide)]
  exact Aj j (by simp only[Qx,QI,Xh] at hj;omega)
 rcases hG with⟨aE,rfl,mU,PL,mm,hg⟩|⟨rfl,d,x,rr,bf,mG,qA,mU⟩
 case inr=>
  rw[mU] at hr
  injection hr with gy eu
  injection gy with _ gy
  injection eu with eu jG
  injection eu with _ eu
  injection jG with jG _
  injection jG with _ jG
  subst gy;subst eu;subst jG
  have uQ:(Int.ofNat (Wp ls.length ps d x) != Int.ofNat 0)=true:=by simpa using qA
  rw[uQ] at O7_33
  obtain⟨fD,hD,kD⟩:=draw31_3 (m:=m+2) (Y:=Y) (fr:=J7) (s:=s1) (b:=st.next) (x7:=sG.next+1) V7_4 V7_5 V7_7 B0 B1 B7 (by omega)
  have dD:=kD.1.trans W7
  have eE:¬ okM ls.length ps (Vq js):=fun h=>qA (h.1 d x rr bf)
  have r1:Vf false 1 ((s1.put st.next (.row [.nilsl])).put (st.next+1) (.row [ZI ((Wp ls.length ps d x)),ZI x.1,ZI x.2.1])) (.ptr st.next 0)=some .nilsl:=Vk (x:=[.nilsl]) (by rw[St.get_put,Qe (by omega),St.get_put,Qm rfl]) rfl
  have r2:Vf true 3 ((s1.put st.next (.row [.nilsl])).put (st.next+1) (.row [ZI ((Wp ls.length ps d x)),ZI x.1,ZI x.2.1])) (.ptr (st.next+1) 0)=some (.agg [ZI ((Wp ls.length ps d x)),ZI x.1,ZI x.2.1]):=Wk (by rw[St.get_put,Qm rfl]) rfl
  have kk:Vd st ((s1.put st.next (.row [.nilsl])).put (st.next+1) (.row [ZI ((Wp ls.length ps d x)),ZI x.1,ZI x.2.1])):=(K1.put _ _ (Qw _)).put _ _ (by omega)
  have D4:=kD.g 4 V7_4
  have D5:=kD.g 5 V7_5
  refine⟨_,.nilsl,[ZI ((Wp ls.length ps d x)),ZI x.1,ZI x.2.1],Ve (mf:=wf31) (fr:=fD) t31 rfl (.inl ?q8) dD (by simp only[wf31,Rw,D4,D5,r1,r2]),kk,.inr ⟨eE,rfl,_,_,_,qA,rfl⟩⟩
  case q8=>
   rw[<-fG]
   simp only[Rw,rQ,rA,wf31,Rx,R5,R6,R7,uP,ly,jF,hD,O7_33]
 rw[mU] at hr
 injection hr with gy eu
 injection gy with _ gy
 injection eu with eu jG
 injection eu with _ eu
 injection jG with jG _
 injection jG with _ jG
 subst gy;subst eu;subst jG
 rw[show (Int.ofNat 0 != Int.ofNat 0)=false from rfl] at O7_33
 have d6:=hl.len
 obtain⟨fD,s2,hD,kD1,kD2,D8,D9,n2,C9,C1,C2,C3,o2⟩:=draw31_4 (m:=m+2) (Y:=Y) (fr:=J7) (st:=s1) (pv:=pv) (N:=N) bW d6 V7_2
 have kD:Kq [35,36,37,38,39,40,41,42,8,9] J7 fD:=Kq.of kD1 kD2
 have dD:=kD.1.trans W7
 have D1:=kD.g 1 (ag jF (ag ly V5_1))
 have D2:=kD.g 2 V7_2
 have D4:=kD.g 4 V7_4
 have D5:=kD.g 5 V7_5
 have D6:=kD.g 6 (ag jF O6_6)
 have D7:=kD.g 7 V7_7
 have Al:∀ j∈[45,46,47,48,11,49,50,51,52,53,54,55,56,57,58,13,59,60,61,62,63,64,65,66,55],fD.get j=none:=fun j hj=>by
  rw[kD.2 j (by
   simp only[Qx,QI,Xh] at hj
   rcases hj with rfl | rfl | rfl | rfl | rfl | rfl | rfl | rfl | rfl | rfl | rfl | rfl | rfl | rfl | rfl | rfl | rfl | rfl | rfl | rfl | rfl | rfl | rfl | rfl | rfl<;>decide)]
  exact Ak j hj
 -- the range over the map
 have K2:Vd st s2:=⟨by omega,fun j hj=>(o2 j (by have:=K1.1;omega)).trans (K1.2 j hj)⟩
 have gA2:s2.get (sA.next+2)=some (.map (esP PL)):=by rw[o2 _ (by have:=hg.lim;omega),k1.2 _ (by have:=hg.lim;omega)];exact hg.all
 have Am:Vf false 1 s2 (.ptr sG.next 0)=some (.map (sA.next+2)):=Vk ((o2 _ (by omega)).trans B6) rfl
 have rg:rngA s2 (.map (sA.next+2))=some (.ptr s2.next 0,(s2.put (sA.next+2) (.fmap (esP PL))).new (.iter (sA.next+2) [])):=by unfold rngA;simp only[gA2]
 obtain⟨s3,qB⟩:∃ s3,s3=(s2.put (sA.next+2) (.fmap (esP PL))).new (.iter (sA.next+2) []):=⟨_,rfl⟩
 rw[<-qB] at rg
 have n3:s3.next=s2.next+1:=by rw[qB];rfl
 have o3:∀ j,j < s2.next->j≠sA.next+2->s3.get j=s2.get j:=fun j h1 h2=>by rw[qB,St.get_new,Qe (by show j≠s2.next;omega),St.get_put,Qe h2]
 have I3:s3.get s2.next=some (.iter (sA.next+2) []):=by rw[qB,St.get_new];exact Qm rfl
 obtain⟨zJ,zK,zL⟩:=hg.lim
 have An:PrSt (sA.next+2) (sA.next+8) sG.next (Vq js) s3 PL:=by
  refine⟨by rw[qB,St.get_new,Qe (by show _≠s2.next;omega),St.get_put,Qm rfl],hg.prs,fun x hx=>?_,hg.ids,by omega⟩
  obtain⟨xa,xb,xc,xd,xf,xg,xu,xv⟩:=hg.one x hx
  exact⟨xa,xb,by rw[o3 _ (by omega) (by omega),o2 _ (by omega),k1.2 _ xu];exact xc,by rw[o3 _ (by omega) (by omega),o2 _ (by omega),k1.2 _ xv];exact xd,xf,xg,xu,xv⟩
 have mt:YP (RA (Vq js)):=aE.fitE fun z hz=>by
  obtain⟨g1,_⟩:=e9 z hz
  unfold En.good at g1
  simp only[Qd,QF] at g1
  exact⟨((Tb _).1 g1.1.1.1.1.1.1).1,g1.1.2⟩
 have nV:∀ x∈PL,(x.p,x.i,x.e)∈Vq js:=fun x hx=>X9 (hg.one x hx).1
 have mw:∀ x∈PL,∀ c∈x.cl,0<=c.1/\c.1 < (ls.length:Int):=fun x hx c hc=>by
  rw[(hg.one x hx).2.1] at hc
  obtain⟨e,he,e1,e2,e3⟩:=clE_mem.1 hc
  obtain⟨z,hz,rfl⟩:=Q6.1 he
  obtain⟨a,bb,ek⟩:=Z7 hz
  have h1:=Ut (aE a z bb ek)
  obtain⟨g1,_⟩:=e9 z hz
  unfold En.good at g1
  simp only[Qd,QF] at g1
  rw[<-e2]
  exact⟨((Tb _).1 g1.1.1.1.1.1.1).1,h1.1⟩
 have qC:∀ x∈PL,x.cl.length<=4000:=fun x hx=>by rw[(hg.one x hx).2.1];exact QY (clE_le _ _) fU
 have qE:∀ x∈PL,x.cl≠[]:=fun x hx=>by
  rw[(hg.one x hx).2.1]
  exact clE_ne ((YK _ _).2 ⟨x.e,Q6.2 ⟨_,nV x hx,rfl⟩,rfl⟩)
 have bC:∀ l:List En,(V6 l).length<=l.length:=fun l=>by
  induction l using JS with
  | nil=>simp[V6]
  | snoc l x ih=>
   rw[Yp]
   split
   ·simp;omega
   ·simp;omega
 have qF:PL.length<=4000:=by
  have h1:=Xn List.length hg.prs
  rw[Qu] at h1
  have:=bC (RA (Vq js))
  omega
 obtain⟨J10,qG,kR10,O10_44⟩:∃ aa,ar (m+2) Y wg31_5 fD s2=.ok aa s3/\Kq [44,43] fD aa/\aa.get 44=some (.ptr s2.next 0):=⟨_,by simp only[Rw,rQ,rA,D6,wg31_5,Am,rg,R4.of2,nd_rng]<;>rfl,Kq.refl.s.s,gh⟩
 have V10_1:=kR10.g 1 D1
 have V10_2:=kR10.g 2 D2
 have V10_4:=kR10.g 4 D4
 have V10_5:=kR10.g 5 D5
 have V10_6:=kR10.g 6 D6
 have V10_7:=kR10.g 7 D7
 have V10_8:=kR10.g 8 D8
 have V10_9:=kR10.g 9 D9
 have W10:=kR10.1.trans dD
 have Ao:∀ j∈[45,46,47,48,11,49,50,51,52,53,54,55,56,57,58,13,59,60,61,62,63,64,65,66,55],J10.get j=none:=fun j hj=>by
  rw[kR10.2 j (by
   simp only[Qx,QI,Xh] at hj
   rcases hj with rfl | rfl | rfl | rfl | rfl | rfl | rfl | rfl | rfl | rfl | rfl | rfl | rfl | rfl | rfl | rfl | rfl | rfl | rfl | rfl | rfl | rfl | rfl | rfl | rfl<;>decide)]
  exact Al j hj
 obtain⟨fM,s4,hM,kM1,kM2,uN,T4,n4,o4⟩:=total31 (m:=m+2) (Y:=Y) (ro:=none) (fr:=J10) (s:=s3) (tp:=s1.next+3) (T:=s1.next+1) (dQ:=s2.next) (k:=ls.length) An I3 ((o3 _ (by omega) (by omega)).trans C3) ((o3 _ (by omega) (by omega)).trans C1)
  (by omega) (by omega) (by omega) (by omega) (by omega) (by omega) ⟨by omega,by omega,by omega⟩ (by omega) mw qC qE qF (by omega) O10_44 V10_9 (fun j hj=>Ao j (by
   simp only[Qx,QI,Xh] at hj ⊢
   omega))
 have kM:Kq [44,45,46,47,48,11,49,50,51,52,53,54,55,56,57,58,13,59,60,61,62,63,64,65,66,55] J10 fM:=Kq.of kM1 kM2
 have dM:=kM.1.trans W10
 have M1:=kM.g 1 V10_1
 have M2:=kM.g 2 V10_2
 have M4:=kM.g 4 V10_4
 have M5:=kM.g 5 V10_5
 have M6:=kM.g 6 V10_6
 have M7:=kM.g 7 V10_7
 have M8:=kM.g 8 V10_8
 have M9:=kM.g 9 V10_9
 have T4':s4.get (s1.next+1)=some (.row (Vw ls.length fun i=>VF (RA (Vq js)) i)):=by
  rw[T4]
  congr 2
  refine Xn (Vw ls.length) (funext fun i=>?_)
  have h1:PL.flatMap (·.cl)=(V6 (RA (Vq js))).flatMap (RK (RA (Vq js))):=by
   rw[<-hg.prs,List.flatMap_map,Zf,Zf]
   exact Xn List.flatten (QX fun x hx=>(hg.one x hx).2.1)
  rw[h1]
  exact(all_claims _ _ (Wu _) (fun e he=>(YK _ _).2 ⟨e,he,rfl⟩)).2 i
 have E6:s4.get sG.next=some (.row [.map (sA.next+2)]):=by rw[o4 _ (by omega) (by omega) (by omega),o3 _ (by omega) (by omega),o2 _ (by omega)];exact B6
 have Ap:Vf false 1 s4 (.ptr sG.next 0)=some (.map (sA.next+2)):=Vk E6 rfl
 have Aq:((gT (m+2)).cg Y).fn 71 [.map (sA.next+2)] s4=.ret (.func (.func 118) [] [.ptr s4.next 0]) (s4.new (.row [.map (sA.next+2)])):=keys71_run (sA.next+2) (m+1) Y s4
 have jH:(PL.map fun x=>x.e.prop).Nodup:=by rw[hg.prs];exact Wu _
 have uR:∀ x∈PL,RS x.e.prop=true:=fun x hx=>by
  obtain⟨g1,_⟩:=e9 _ (nV x hx)
  unfold En.good at g1
  simp only[Qd,QF] at g1
  exact g1.1.1.1.1.2
 obtain⟨gj,s5,uS,nW,n5,o5,xw,xy⟩:=sorted70_run (PL:=PL) (A:=sA.next+2) (c:=s4.next) (st:=s4.new (.row [.map (sA.next+2)])) (by rw[St.get_new,Qm rfl]) (by rw[St.get_new,Qe (by omega)];exact uN.all) uR jH qF (m+1) Y
 have uS:((gT (m+2)).cg Y).fn 70 [.func (.func 118) [] [.ptr s4.next 0]] (s4.new (.row [.map (sA.next+2)]))=.ret gj s5:=uS
 rw[hg.prs] at nW xw xy
 have BT:s4.next+1<=s5.next:=n5
 have Ar:∀ j,j < s4.next->s5.get j=s4.get j:=fun j hj=>by rw[o5 j (by show j < s4.next+1;omega),St.get_new,Qe (by omega)]
 have lz:gj.cells=[gj]/\AV.one gj=true:=by
  rcases nW with⟨h,_⟩|⟨_,_,h,_,_⟩<;>rw[h]<;>exact⟨rfl,rfl⟩
 have pd:Vt 1 (s5.new (.row [.nilsl])) (.ptr s5.next 0) gj=some ((s5.new (.row [.nilsl])).put s5.next (.row [gj])):=V4 (x:=[.nilsl]) (by rw[St.get_new,Qm rfl]) (by rw[lz.1];rfl) (by rw[lz.1];rfl) (by simp) (by rw[lz.1];simp[lz.2])
 obtain⟨s6,gN⟩:∃ s6,s6=(s5.new (.row [.nilsl])).put s5.next (.row [gj]):=⟨_,rfl⟩
 rw[<-gN] at pd
 have n6:s6.next=s5.next+1:=by rw[gN];rfl
 have G14:s6.get s5.next=some (.row [gj]):=by rw[gN,St.get_put,Qm rfl]
 have o6:∀ j,j < s5.next->s6.get j=s5.get j:=fun j hj=>by rw[gN,St.get_put,Qe (by omega),St.get_new,Qe (by omega)]
 have rS:∀ j,j < s4.next->s6.get j=s4.get j:=fun j hj=>(o6 j (by omega)).trans (Ar j hj)
 obtain⟨lid,uT,BU,BV,As⟩:∃ lid,LfS s6 gj lid (Wn (V6 (RA (Vq js))))/\s4.next<=lid/\lid≠s5.next/\lid < s6.next:=by
  by_cases h0:Wn (V6 (RA (Vq js)))=[]
  ·exact⟨s4.next,.inl ⟨xy h0,h0⟩,Qw _,by omega,by omega⟩
  ·have:=xw h0
   exact⟨s4.next+1,nW.keep (o6 _ this),by omega,by show s4.next+1≠s5.next;exact Nat.ne_of_lt this,by have h:s4.next+1 < s5.next:=this;omega⟩
 obtain⟨J11,ej,O11_14⟩:∃ aa,ar (m+2) Y wg31_12 fM s4=.ok aa s6/\aa.get 14=some (.ptr s5.next 0):=⟨_,by simp only[Rw,rQ,rA,M6,wg31_12,Ap,Aq,uS,pd]<;>rfl,gh⟩
 have V11_6:=ag ej M6
 have V11_8:=ag ej M8
 have V11_9:=ag ej M9
 obtain⟨J12,dN,O12_15⟩:∃ aa,ar (m+2) Y wg31_13 J11 s6=.ok aa s6/\aa.get 15=some (.func (.func 72) [] [.ptr sG.next 0,.ptr (s1.next+2) 0,.ptr (s1.next+3) 0]):=⟨_,by simp only[Rw,rQ,rA,V11_6,V11_8,V11_9,wg31_13,Q4,QZ,Jy]<;>rfl,gh⟩
 obtain⟨J13,dw,O13_16⟩:∃ aa,ar (m+2) Y wg31_14 J12 s6=.ok aa s6/\aa.get 16=some (.nilsl):=⟨_,by simp only[Rw,rQ,rA,wg31_14]<;>rfl,gh⟩
 have V13_14:=ag dw (ag dN O11_14)
 have xz:PrSt (sA.next+2) (sA.next+8) sG.next (Vq js) s6 PL:=uN.keep fun j hj=>rS j (by omega)
 have q13:∀ j,j < s2.next->j≠sA.next+2->j≠s1.next+1->s6.get j=s2.get j:=fun j h1 h2 h3=>by rw[rS j (by omega),o4 j (by omega) (by omega) h3,o3 j h1 h2]
 obtain⟨fL,s7,ov,PS,qH,hL,kL,L16,gK,lA,fq,G147,nX,n7,o7⟩:=loop31_run (m:=m+2) (Y:=Y) (ro:=none) (av:=J13) (s0:=s6) (A:=sA.next+2) (lim:=sA.next+8) (hi:=sG.next) (d:=Vq js) (PL:=PL) (x6:=sG.next) (x8:=s1.next+2) (x9:=s1.next+3) (ci:=s5.next) (Th:=s1.next) (Tt:=s1.next+1) (lid:=lid) (k:=ls.length) (gj:=gj) (L0:=Wn (V6 (RA (Vq js)))) xz
  ((rS _ (by omega)).trans E6) ((q13 _ (by omega) (by omega) (by omega)).trans C2) ((q13 _ (by omega) (by omega) (by omega)).trans C3) ((q13 _ (by omega) (by omega) (by omega)).trans C9) ((rS _ (by omega)).trans T4') G14 uT (WA _)
  (fun x hx=>by
   obtain⟨g1,g2⟩:=e9 _ (nV x hx)
   unfold En.good at g1
   simp only[Qd,QF] at g1
   exact⟨g2,g1.1.2⟩) mw fU (by omega) ⟨by omega,by omega,by omega,by omega,by omega,by omega,fun _=>As,by omega⟩ ⟨by omega,by omega,by omega,by omega,by omega,by omega,by omega,by omega⟩ ⟨by omega,by omega,by omega,by omega,by omega,by omega⟩ ⟨by omega,by omega,by omega,by omega,by omega⟩ ⟨by omega,by omega,by omega,by omega⟩
  (ag dw (ag dN V11_6)) (ag dw (ag dN V11_8)) (ag dw (ag dN V11_9)) V13_14 (ag dw O12_15) O13_16
 have dL:=kL.1.trans (ad dw (ad dN (ad ej dM)))
 have L1:=kL.g 1 (ag dw (ag dN (ag ej M1)))
 have L2:=kL.g 2 (ag dw (ag dN (ag ej M2)))
 have L4:=kL.g 4 (ag dw (ag dN (ag ej M4)))
 have L5:=kL.g 5 (ag dw (ag dN (ag ej M5)))
 have L14:=kL.g 14 V13_14
 change PS.map (fun x=>x.e.prop)=(Yb (Vq js)).2 at lA
 change LfS s7 qH lid (Yb (Vq js)).1 at nX
 have lW:=UL mt (Wn (V6 (RA (Vq js)))).length (Wn (V6 (RA (Vq js)))) [] (by rw[QG];exact(WA _).nodup_iff.2 (Wu _)) (Y9.nil _) (YB.nil _)
 have gg:((Yb (Vq js)).1++(Yb (Vq js)).2).Perm (V6 (RA (Vq js))):=lW.2.2.trans (by rw[QG];exact WA _)
 have qI:((Yb (Vq js)).1).length<=4000:=by
  have h1:=gg.length_eq
  rw[QJ] at h1
  have:=bC (RA (Vq js))
  omega
 have uU:PS.length<=4000:=by
  have h1:=gg.length_eq
  rw[QJ,<-lA,Qu] at h1
  have:=bC (RA (Vq js))
  omega
 have l147:Vf false 1 s7 (.ptr s5.next 0)=some qH:=Vk G147 rfl
 have nY:(bif VD 0 qH then Wm s7 qH else none)=some (ZI (((Yb (Vq js)).1).length)):=RE.len (nX.sl (by omega)) s7
 have en:=gtrN ((Yb (Vq js)).1).length 0
 have F0:s7.get st.next=some (.row [.nilsl]):=by rw[o7 _ (by omega) (by omega) (by omega) (by omega),q13 _ (by omega) (by omega) (by omega),o2 _ (by omega)];exact B0
 have F1:s7.get (st.next+1)=some (.row [Z0,Z0,Z0]):=by rw[o7 _ (by omega) (by omega) (by omega) (by omega),q13 _ (by omega) (by omega) (by omega),o2 _ (by omega)];exact B1
 have K14:Vd st s7:=⟨by omega,fun j hj=>by rw[o7 _ (by omega) (by omega) (by omega) (by omega),q13 _ (by omega) (by omega) (by omega)];exact K2.2 j hj⟩
 by_cases aR:(Yb (Vq js)).1=[]
 case neg=>
  have fp:0 < ((Yb (Vq js)).1).length:=Z2.2 aR
  rw[Qs fp] at en
  have eE:¬ okM ls.length ps (Vq js):=fun h=>aR h.2
  have nI:((gT (m+2)).cg Y).fn 65 [jv] s7=.ret (.func (.func 107) [] [.ptr s7.next 0]) (s7.new (.row [jv])):=S6 jv bA (m+1) Y _
  have S7:Vs F st (s7.new (.row [jv])):=Vs.of (K14.trans (Vd.new _ _)) hF
  obtain⟨J15,iz,O15_111⟩:∃ aa,ar (m+2) Y wg31_25 fL s7=.ok aa s7/\aa.get 111=some (.bool true):=⟨_,by simp only[Rw,rQ,rA,L14,wg31_25,l147,nY,en]<;>rfl,gh⟩
  obtain⟨J16,jI,O16_113⟩:∃ aa,ar (m+2) Y wg31_26 J15 s7=.ok aa (s7.new (.row [jv]))/\aa.get 113=some (.func (.func 107) [] [.ptr s7.next 0]):=⟨_,by simp only[Rw,rQ,rA,(ag iz L1),wg31_26,nI]<;>rfl,gh⟩
  have V16_4:=ag jI (ag iz L4)
  have V16_5:=ag jI (ag iz L5)
  have W16:=ad jI (ad iz dL)
  have xA:lid < s7.next:=by omega
  obtain⟨s8,pp,ii,hR,R0,R1,n8,o8⟩:=circle31_run (left:=(Yb (Vq js)).1) (lid:=lid) (lv:=qH) (b:=st.next) (ci:=s5.next) (c:=s7.next) (fr:=J16) (s:=s7.new (.row [jv])) hj (m+1) Y (by omega) S7 (by rw[St.get_new,Qe (by omega)];exact F0) (by rw[St.get_new,Qe (by omega)];exact F1) (by rw[St.get_new,Qe (by omega)];exact G147) (by rw[St.get_new,Qm rfl]) (nX.keep (by rw[St.get_new,Qe (by omega)])) qI aR
   (fun q hq=>gg.mem_iff.1 (XC _ hq)) (fun i hi=>by have:=hF i hi;show i < s7.next+1;omega) ⟨by show _ < s7.next+1;omega,by show _ < s7.next+1;omega,by show _ < s7.next+1;omega,by show _ < s7.next+1;omega⟩ V16_4 V16_5 (ag jI (ag iz L14)) O16_113
  obtain⟨FS,gH⟩:∃ FS:Fr,FS={ J16 with ds:=.coll::J16.ds }:=⟨_,rfl⟩
  rw[<-gH] at hR
  have F4:FS.get 4=some (.ptr st.next 0):=by rw[gH];exact V16_4
  have F5:FS.get 5=some (.ptr (st.next+1) 0):=by rw[gH];exact V16_5
  have dS:FS.ds=[.coll]:=by rw[gH,W16]
  have r1:Vf false 1 s8 (.ptr st.next 0)=some .nilsl:=Vk R0 rfl
  have r2:Vf true 3 s8 (.ptr (st.next+1) 0)=some (.agg [ZI 4,ZI pp,ZI ii]):=Wk R1 rfl
  have kk:Vd st s8:=⟨by have h:s7.next+1<=s8.next:=n8;omega,fun j hj=>by rw[o8 j (by show j < s7.next+1;omega) (by omega) (by omega),St.get_new,Qe (by omega)];exact K14.2 j hj⟩
  refine⟨_,.nilsl,[ZI 4,ZI pp,ZI ii],fun_of2 (mf:=wf31) (fr:=FS) t31 rfl (.inl ?q17) (coll_one dS) (by simp only[wf31,Rw,F4,F5,r1,r2]),kk,.inr ⟨eE,rfl,4,pp,ii,by omega,rfl⟩⟩
  case q17=>
   rw[<-fG]
   simp only[Rw,rQ,rA,wf31,Rx,R5,R6,R7,b44,b88,uP,ly,jF,hD,qG,hM,ej,dN,dw,hL,iz,jI,hR,O7_33,O15_111]
 rw[aR] at en nY
 rw[Qp (by simp)] at en
 have uV:PrSt (sA.next+2) (sA.next+8) sG.next (Vq js) s7 PL:=xz.keep fun j hj=>o7 j (by omega) (by omega) (by omega) (by omega)
 have qJ:(PS.map fun x=>x.e.prop).Nodup:=by
  rw[lA]
  exact(QS.1 (gg.nodup_iff.2 (Wu _))).2.1
 have lenO:(bif VD 0 ov then Wm s7 ov else none)=some (ZI PS.length):=by
  rcases gK with⟨h1,h2⟩|⟨oid,_,_,h3,_⟩
  ·rw[h1,h2];rfl
  ·rw[h3];rfl
 obtain⟨J18,jJ,O18_111⟩:∃ aa,ar (m+2) Y wg31_25 fL s7=.ok aa s7/\aa.get 111=some (.bool false):=⟨_,by simp only[Rw,rQ,rA,L14,wg31_25,l147,nY,en,X2]<;>rfl,gh⟩
 have V18_16:=ag jJ L16
 obtain⟨J19,jK,O19_122,O19_123,O19_124⟩:∃ aa,ar (m+2) Y wg31_31 J18 s7=.ok aa s7/\aa.get 122=some (ov)/\aa.get 123=some (ZI PS.length)/\aa.get 124=some Z0:=⟨_,by simp only[Rw,rQ,rA,V18_16,wg31_31,lenO]<;>rfl,gn (gn gh),gn gh,gh⟩
 obtain⟨fS,s8,hS,kS,n8,o8,At⟩:=sorts31_run (m:=m+2) (Y:=Y) (ro:=none) (av:=J19) (s0:=s7) uV gK (by omega) fq qJ (fun x hx=>⟨by rw[(hg.one x hx).2.1];exact leaf_nodup mt _,qC x hx⟩) (by omega) uU O19_122 O19_123 O19_124
 have dS:=kS.1.trans (ad jK (ad jJ dL))
 have S4:=kS.g 4 (ag jK (ag jJ L4))
 have S5:=kS.g 5 (ag jK (ag jJ L5))
 have S16:=kS.g 16 (ag jK V18_16)
 have ij:∀ x∈PS,sA.next+8<=x.cid/\x.cid < sG.next:=fun x hx=>by
  obtain⟨_,_,_,_,_,xg,_,xv⟩:=uV.one x (fq x hx)
  exact⟨xg,xv⟩
 have H9:s8.get st.next=some (.row [.nilsl]):=by rw[o8 _ fun x hx=>by have:=ij x hx;omega];exact F0
 have H1:s8.get (st.next+1)=some (.row [Z0,Z0,Z0]):=by rw[o8 _ fun x hx=>by have:=ij x hx;omega];exact F1
 have lB:ov.cells=[ov]/\AV.one ov=true:=by
  rcases gK with⟨h,_⟩|⟨_,_,_,h,_⟩<;>rw[h]<;>exact⟨rfl,rfl⟩
 have t1:Vt 1 s8 (.ptr st.next 0) ov=some (s8.put st.next (.row [ov])):=V4 H9 (by rw[lB.1];rfl) (by rw[lB.1];rfl) (by simp) (by rw[lB.1];simp[lB.2])
 have t2:Vt 3 (s8.put st.next (.row [ov])) (.ptr (st.next+1) 0) (.agg [Z0,Z0,Z0])=some ((s8.put st.next (.row [ov])).put (st.next+1) (.row [Z0,Z0,Z0])):=V4 (by rw[St.get_put,Qe (by omega)];exact H1) rfl rfl (by simp) rfl
 have r1:Vf false 1 ((s8.put st.next (.row [ov])).put (st.next+1) (.row [Z0,Z0,Z0])) (.ptr st.next 0)=some ov:=Vk (x:=[ov]) (by rw[St.get_put,Qe (by omega),St.get_put,Qm rfl]) rfl
 have r2:Vf true 3 ((s8.put st.next (.row [ov])).put (st.next+1) (.row [Z0,Z0,Z0])) (.ptr (st.next+1) 0)=some (.agg [Z0,Z0,Z0]):=Wk (by rw[St.get_put,Qm rfl]) rfl
 have o9:∀ j,j≠st.next->j≠st.next+1->((s8.put st.next (.row [ov])).put (st.next+1) (.row [Z0,Z0,Z0])).get j=s8.get j:=fun j h1 h2=>by rw[St.get_put,Qe h2,St.get_put,Qe h1]
 have n9:((s8.put st.next (.row [ov])).put (st.next+1) (.row [Z0,Z0,Z0])).next=s7.next:=n8
 generalize (s8.put st.next (.row [ov])).put (st.next+1) (.row [Z0,Z0,Z0])=s9 at t2 r1 r2 o9 n9
 have kk:Vd st s9:=⟨by omega,fun j hj=>by rw[o9 j (by omega) (by omega),o8 _ fun x hx=>by have:=ij x hx;omega];exact K14.2 j hj⟩
 have dv:JU st.next s9 ov PS/\∀ x∈PS,PrM (Vq js) st.next s9 x:=by
  refine⟨?_,fun x hx=>?_⟩
  ·rcases gK with h|⟨oid,p1,p2,p3,p4⟩
   ·exact .inl h
   ·exact .inr ⟨oid,by omega,by omega,p3,by rw[o9 _ (by omega) (by omega),o8 _ fun x hx=>by have:=ij x hx;omega];exact p4⟩
  ·obtain⟨xa,xb,xc,xd,xf,xg,xu,xv⟩:=uV.one x (fq x hx)
   refine⟨xa,xb,?_,by rw[o9 _ (by omega) (by omega)];exact At x hx,by omega,by omega,by omega,by omega⟩
   rw[o9 _ (by omega) (by omega),o8 _ fun y hy=>?_]
   ·exact xc
   ·by_cases jw:x=y
    ·subst jw
     have key:∀ l:List Pr,(l.flatMap fun x=>[x.id,x.cid]).Nodup->x∈l->x.id≠x.cid:=by
      intro l
      induction l with
      | nil=>intro _ h;simp at h
      | cons z l ih=>
       intro hn hx
       rw[Xa,QS] at hn
       rcases Qx.1 hx with h | h
       ·rw[h];simpa using hn.1
       ·exact ih hn.2.1 h
     exact key PL hg.ids (fq x hx)
    ·have az:x.e.prop≠y.e.prop:=fun he=>jw (by
      have aL:=Sk jH (fq x hx)
      have bd:=Sk jH (fq y hy)
      rw[he] at aL
      rw[aL] at bd;injection bd)
     exact(hg.ne (fq x hx) (fq y hy) az).2.1
 obtain⟨J20,lC⟩:∃ aa,ar (m+2) Y wg31_36 fS s8=.ok aa s9:=⟨_,by simp only[Rw,rQ,rA,S4,S5,S16,wg31_36,build3z,t1,t2]<;>rfl⟩
 refine⟨_,ov,[Z0,Z0,Z0],Ve (mf:=wf31) (fr:=J20) t31 rfl (.inl ?q20) (ad lC dS) (by simp only[wf31,Rw,(ag lC S4),(ag lC S5),r1,r2]),kk,.inl ⟨⟨aE,aR⟩,rfl,PS,lA,dv.1,dv.2⟩⟩
 case q20=>
  rw[<-fG]
  simp only[Rw,rQ,rA,wf31,Rx,R5,R6,R7,b44,bAA,b88,uP,ly,jF,hD,qG,hM,ej,dN,dw,hL,jJ,jK,hS,lC,O7_33,O18_111]
noncomputable section
open Nat renaming reduceEqDiff -> rQ, reduceAdd -> rA
theorem avPtr(i o:Nat):V8 (.ptr i o) (.ptr i o)=true:=by simp only[V8,QD,Bool.and_self]
theorem bu3(a b:Int){v:AV}(hv:AV.one v=true):VN [Z0,Z0,.nilsl] [(0,1,.int .i64 a),(1,1,.int .i64 b),(2,1,v)]=some [.int .i64 a,.int .i64 b,v]:=by
 have h:=one_cells hv
 have h1:(AV.int .i64 a).cells=[.int .i64 a]:=rfl
 have h2:(AV.int .i64 b).cells=[.int .i64 b]:=rfl
 simp[VN,h,h1,h2,setCells,Nat.ble]
def wg98_0:List Vc:=[ZM 2 (.c .nilsl)]
def wg98_1:List Vc:=[ZM 3 (.c .nilsl)]
def wg98_2:List Vc:=[ZV 6 0,ZN 7 6,ZM 8 (ZC 0)]
def wg98_3:List Vc:=[ZO 9 (.bin false .lss (.t 8) (.t 7))]
def wg98_4:List Vc:=[ZP 10 3 6 8,ZK 11 3 10,ZO 5 (.alloc [Z0,Z0,.nilsl]),ZS 3 5 11]
def Tx:List (Vc × Nat):=[(ZV 12 3,0),(ZA 13 0 5,0),(ZL 14 13,2),(ZA 15 1 5,0),(ZL 16 15,8),(ZA 17 2 5,0),(ZL 18 17,32),(ZX 19 98 [(.t 18)],96),(ZO 20 (.build [Z0,Z0,.nilsl] [(0,1,(.t 14)),(1,1,(.t 16)),(2,1,(.t 19))]),254),(ZO 21 (.bslice 1 [Z0,Z0,.nilsl] [(0,3,(.t 20))]),510),(ZO 22 (.append 40 3 none (.t 12) (.t 21)),1023),(ZV 3 22,2047)]
def wg98_6:List Vc:=[ZO 23 (.bin false .add (.t 8) (ZC 1)),ZV 8 23]
def wg98_7:List Vc:=[ZV 24 3,ZV 2 24]
def TB:Vn:=(ZQ wg98_3 (.seq (.cond (.t 9) .skip (.exit 0)) (.seq (.block 1 (ZQ wg98_4 (.draw Tx [(2,some 7),(2,some 10),(4,some 7),(4,some 10)]))) (.region wg98_6))))
def wf98:Vm:=⟨25,(ZQ wg98_0 (ZQ wg98_1 (.seq (ZQ wg98_2 (.block 0 (.loop TB))) (ZR wg98_7)))),[.t 2]⟩
theorem t98:Ry 98=some wf98:=by kernel_rfl
theorem terms98_run:∀(n:Nat) (l:List Tm) (m:Nat) (Y:Vi),Tm.fzL l+l.length=n->n+2 < m->RV l=true->l.length<=1000->∀(F:Nat->Prop) (st:St) (sl:AV) (xs:List (List AV)),RL F st sl xs->Vy F st l xs->(∀ i,F i->i < st.next) ->
  ∃ bI ep af,R m Y 98 [sl] st=.ret bI af/\Vd st af/\RL (fun i=>st.next<=i/\i < af.next) af bI ep/\Vy (fun i=>st.next<=i/\i < af.next) af l ep:=by
 intro n
 induction n using Nat.strongRecOn with
 | _ n ih=>
 intro l m' Y hs hn cH al F st sl xs aD bg hF
 obtain⟨m,rfl⟩:∃ m,m'=m+1:=⟨m' - 1,by omega⟩
 have bJ:=bg.len
 have bO:=aD.len st
 have hL:∀(fr:Fr),fr.ds=[]->fr.get 3=some .nilsl->fr.get 6=some sl->fr.get 7=some (ZI xs.length)->fr.get 8=some Z0 ->
   ∃ FR s' so xo G,Vx (ac m Y TB none) m fr st=.exit 0 FR s'/\FR.ds=[]/\FR.get 3=some so/\Vd st s'/\xo.length=xs.length/\Vy G s' l xo/\Gr st.next s' so xo G:=by
  intro fr d0 g3 g6 g7 g8
  refine Ws (B:=ac m Y TB none) (N:=xs.length) (R3:=fun k f s=>f.ds=[]/\f.get 6=some sl/\f.get 7=some (ZI xs.length)/\f.get 8=some (ZI k)/\Vd st s/\∃ so xo G,f.get 3=some so/\xo.length=k/\Vy G s (l.take k) xo/\Gr st.next s so xo G)
   (Out:=fun r=>∃ FR s' so xo G,r=.exit 0 FR s'/\FR.ds=[]/\FR.get 3=some so/\Vd st s'/\xo.length=xs.length/\Vy G s' l xo/\Gr st.next s' so xo G) ?_ xs.length 0 fr st m (by omega) (by omega) ⟨d0,g6,g7,g8,Vd.refl st,.nilsl,[],_,g3,rfl,by simp[Vy],Gr.nil _ _⟩
  intro k f s hk ⟨d0,q1,q2,q3,bi,so,xo,G,q4,qK,bq,bX⟩
  have am:=Wt k xs.length
  by_cases aQ:k < xs.length
  ·obtain⟨t,ht,bH⟩:=WR (l:=l) (k:=k) (by omega)
   obtain⟨x,hx,bZ⟩:=bg.at ht
   have aO:Vs F st s:=Vs.of bi hF
   obtain⟨p,ia,ld⟩:=aD.at hx
   have ld:=ld s aO
   obtain⟨s1,bj,ks,go,fT⟩:=next_el s (zs:=[Z0,Z0,.nilsl]) rfl bZ.cells3
   have aH:=Qr ht
   have bv:=Tm.fzL_mem aH
   have jV:∀ i,F i->i < s1.next:=fun i hi=>Qz (hF i hi) (QY bi.1 ks.1)
   have im:=bZ.mono (aO.trans (Vs.of ks fun i hi=>Qz (hF i hi) bi.1)) fun _ h=>h
   have ew:l.take (k+1)=l.take k++[t]:=by rw[QT,ht];rfl
   have uW:=shL_mem cH t aH
   cases t with
   | mk k1 n1 aP aM l1=>
   simp only[Tm.fz] at bv
   obtain⟨BW,nr⟩:=shT_mk uW
   have qL:=im
   simp only[We] at qL
   obtain⟨slx,xx,rfl,uX,uY⟩:=qL
   obtain⟨kQ,x1,s2,ay,jX,qM,uZ⟩:=ih (Tm.fzL l1+l1.length) (by omega) l1 m Y rfl (by omega) nr (by omega) F s1 slx xx uX uY jV
   have aC:((gT m).cg Y).fn 98 [slx] s1=.ret kQ s2:=ay
   have eM:Vd s s2:=ks.trans jX
   have o1:=qM.one
   obtain⟨fI,s3,cM,nj,Au,sG,sG2,lD⟩:=bX.app (bytes:=40) (y:=[.int .i64 k1,.int .i64 n1,kQ]) (G2:=fun i=>s1.next<=i/\i < s2.next) bi.1 (by omega) (by omega) eM ⟨rfl,by simp only[QN,QW,o1];rfl⟩ (fun i hi=>⟨by have:=ks.1;omega,hi.2⟩)
   have vd:Vd st s3:=⟨by have:=bi.1;have:=eM.1;omega,fun i hi=>by
    rw[nj i (by have:=bi.1;have:=eM.1;omega) (fun e=>by
     rcases bX.2.2 with⟨e',_⟩|⟨id,e',aZ,_⟩
     ·rw[e'] at e;cases e
     ·rw[e'] at e;injection e with e1;omega),eM.2 i (by have:=bi.1;omega),bi.2 i hi]⟩
   have jc:Vy (fun i=>G i\/s1.next<=i/\i < s2.next) s3 (l.take (k+1)) (xo++[[.int .i64 k1,.int .i64 n1,kQ]]):=by
    rw[ew]
    refine Vy.snoc (Vy.mono sG (fun i hi=>.inl hi) _ _ bq) ?_
    simp only[We]
    exact⟨kQ,x1,rfl,qM.mono sG2 fun i hi=>.inr hi,Vy.mono sG2 (fun i hi=>.inr hi) _ _ uZ⟩
   have xB:s2.get s.next=some (.row [.int .i64 k1,.int .i64 n1,slx]):=(jX.2 _ (by omega)).trans go
   have l0:Vf false 1 s1 (.ptr s.next 0)=some (.int .i64 k1):=Vk go rfl
   have gB:Vf false 1 s1 (.ptr s.next 1)=some (.int .i64 n1):=Vk go rfl
   have l2:Vf false 1 s1 (.ptr s.next 2)=some slx:=Vk go rfl
   have m0:Vf false 1 s2 (.ptr s.next 0)=some (.int .i64 k1):=Vk xB rfl
   have m1:Vf false 1 s2 (.ptr s.next 1)=some (.int .i64 n1):=Vk xB rfl
   have bu:=bu3 k1 n1 o1
   have fl:VN [Z0,Z0,.nilsl] [(0,3,.agg [.int .i64 k1,.int .i64 n1,kQ])]=some [.int .i64 k1,.int .i64 n1,kQ]:=rfl
   have aU:=WC (i:=k) (by omega)
   rw[Qs aQ] at am
   obtain⟨J5,H5,O5_9⟩:∃ aa,ar m Y wg98_3 f s=.ok aa s/\aa.get 9=some (.bool true):=⟨_,by simp only[Rw,rQ,rA,q2,q3,wg98_3,am]<;>rfl,gh⟩
   have V5_6:=ag H5 q1
   have V5_8:=ag H5 q3
   obtain⟨J6,H6,O6_5⟩:∃ aa,ar m Y wg98_4 J5 s=.ok aa s1/\aa.get 5=some (.ptr s.next 0):=⟨_,by simp only[Rw,rQ,rA,V5_6,V5_8,wg98_4,ia,ld,bj]<;>rfl,gh⟩
   have V6_3:=ag H6 (ag H5 q4)
   obtain⟨J4,H4,K4,O4_3⟩:∃ aa,VK ((gT m).cg Y) Tx [(2,some 7),(2,some 10),(4,some 7),(4,some 10)] J6 s1=.ok aa s3/\Kp [6,7,8,9,5] J6 aa/\aa.get 3=some (fI):=by
    refine⟨?r30,?r31,?r32,?r3o3⟩
    case r31=>
     refine KB (ak:=?r3i) ?r3x ?r3y ?r3z
     case r3x=>
      simp only[Rw,rQ,rA,WH,WU,DR.cons,V5,VJ,VT,V6_3,O6_5,Tx,RG,l0,gB,l2,m0,m1,aC,bu,fl,cnt1,cM,tag0]
      rfl
     case r3y=>rfl
     case r3z=>
      simp only[QN,QW,Qy,Qd]
      refine⟨Wo (i:=2) (k:=7) rfl rfl rfl rfl ?r3k0,Wo (i:=2) (k:=10) rfl rfl rfl rfl ?r3k1,Wo (i:=4) (k:=7) rfl rfl rfl rfl ?r3k2,Wo (i:=4) (k:=10) rfl rfl rfl rfl ?r3k3⟩
      case r3k0=>
       right
       refine⟨?r3s0,?r3l0,bint _⟩
       case r3l0=>
        simp only[Rw,rQ,rA,V5,V6_3,O6_5,Tx,RG,l0,gB,l2,m0,m1,aC,bu,fl,cnt1,cM,tag0]
        rfl
      case r3k1=>
       right
       refine⟨?r3s1,?r3l1,bint _⟩
       case r3l1=>
        simp only[Rw,rQ,rA,V5,V6_3,O6_5,Tx,RG,l0,gB,l2,m0,m1,aC,bu,fl,cnt1,cM,tag0]
        rfl
      case r3k2=>
       right
       refine⟨?r3s2,?r3l2,bint _⟩
       case r3l2=>
        simp only[Rw,rQ,rA,V5,V6_3,O6_5,Tx,RG,l0,gB,l2,m0,m1,aC,bu,fl,cnt1,cM,tag0]
        rfl
      case r3k3=>
       right
       refine⟨?r3s3,?r3l3,bint _⟩
       case r3l3=>
        simp only[Rw,rQ,rA,V5,V6_3,O6_5,Tx,RG,l0,gB,l2,m0,m1,aC,bu,fl,cnt1,cM,tag0]
        rfl
    case r32=>repeat (first | exact Kp.refl | refine Kp.set (by decide) ?_)
    case r3o3=>simp only[Fr.get_set,rQ,↓reduceIte]
   have V4_6:=K4.g 6 (ag H6 V5_6)
   have V4_7:=K4.g 7 (ag H6 (ag H5 q2))
   have V4_8:=K4.g 8 (ag H6 V5_8)
   have W4:=K4.1.trans (ad H6 (ad H5 d0))
   obtain⟨J7,H7,O7_8⟩:∃ aa,ar m Y wg98_6 J4 s3=.ok aa s3/\aa.get 8=some (ZI ((k+1))):=⟨_,by simp only[Rw,rQ,rA,V4_8,wg98_6,aU]<;>rfl,gh⟩
   have kV:ac m Y TB none f s=.norm J7 s3:=by
    simp only[Rw,rQ,rA,TB,Rx,R5,R6,R7,H5,H6,H4,H7,O5_9]
   rw[kV]
   exact⟨aQ,(ad H7 W4),(ag H7 V4_6),(ag H7 V4_7),O7_8,vd,fI,_,_,(ag H7 O4_3),by simp[qK],jc,lD⟩
  ·rw[Qp aQ] at am
   have ce:k=xs.length:=by omega
   rw[ce,bJ,QH] at bq
   obtain⟨J8,H8,O8_9⟩:∃ aa,ar m Y wg98_3 f s=.ok aa s/\aa.get 9=some (.bool false):=⟨_,by simp only[Rw,rQ,rA,q2,q3,wg98_3,am]<;>rfl,gh⟩
   have jy:ac m Y TB none f s=.exit 0 J8 s:=by
    simp only[Rw,rQ,rA,TB,Rx,R5,R6,R7,H8,O8_9]
   rw[jy]
   exact⟨_,_,so,xo,G,rfl,(ad H8 d0),(ag H8 q4),bi,by omega,bq,bX⟩
 obtain⟨fA1,au⟩:∃ fA,fA=Vo 0 [sl] Fr.nil:=⟨_,rfl⟩
 have gA1_0:=R9 au 0
 have dA1:fA1.ds=[]:=by rw[au];rfl
 obtain⟨J2,H2⟩:∃ aa,ar m Y wg98_0 fA1 st=.ok aa st:=⟨_,by simp only[Rw,rQ,rA,wg98_0]<;>rfl⟩
 obtain⟨J3,H3,O3_3⟩:∃ aa,ar m Y wg98_1 J2 st=.ok aa st/\aa.get 3=some (.nilsl):=⟨_,by simp only[Rw,rQ,rA,wg98_1]<;>rfl,gh⟩
 obtain⟨J9,H9,O9_6,O9_7,O9_8⟩:∃ aa,ar m Y wg98_2 J3 st=.ok aa st/\aa.get 6=some (sl)/\aa.get 7=some (ZI xs.length)/\aa.get 8=some Z0:=⟨_,by simp only[Rw,rQ,rA,(ag H3 (ag H2 gA1_0)),wg98_2,bO]<;>rfl,gn (gn gh),gn gh,gh⟩
 obtain⟨FR,s',so,xo,G,hL,dF,F3,k3,qK,bq,bX⟩:=hL J9 (ad H9 (ad H3 (ad H2 dA1))) (ag H9 O3_3) O9_6 O9_7 O9_8
 obtain⟨J10,H10,O10_2⟩:∃ aa,ar m Y wg98_7 FR s'=.ok aa s'/\aa.get 2=some (so):=⟨_,by simp only[Rw,rQ,rA,F3,wg98_7]<;>rfl,gh⟩
 refine⟨so,xo,_,Ve (mf:=wf98) (fr:=J10) t98 rfl (.inl ?q10) (ad H10 dF) (by simp only[wf98,Rw,O10_2]),k3,bX.slr (by omega),Vy.mono (Vs.refl _ _) (fun i hi=>bX.1 i hi) _ _ bq⟩
 case q10=>
  rw[<-au]
  simp only[Rw,rQ,rA,wf98,Rx,R5,R6,R7,H2,H3,H9,hL,H10]
def wg54_0:List Vc:=[ZO 1 (.box true (.t 0)),ZO 2 (.alloc [Z0,.nilsl])]
def wg54_1:List (Vc × Nat):=[(ZA 3 0 1,0),(ZL 4 3,1),(ZA 5 1 1,0),(ZL 6 5,4),(ZX 7 98 [(.t 6)],12),(ZO 8 (.build [Z0,.nilsl] [(0,1,(.t 4)),(1,1,(.t 7))]),31),(ZS 2 2 8,63)]
def wf54:Vm:=⟨9,(ZQ wg54_0 (.seq (.draw wg54_1 [(1,some 4),(1,some 6)]) .ret)),[.cell 2 true 2]⟩
theorem t54:Ry 54=some wf54:=by kernel_rfl
theorem fresh54_run(l:List Tm)(g:Int)(cH:RV l=true)(al:l.length<=1000)(m:Nat)(Y:Vi)(hm:Tm.fzL l+l.length+4 < m)(F:Nat->Prop)(st:St)(sl:AV)(xs:List (List AV))(aD:RL F st sl xs)(bg:Vy F st l xs)(hF:∀ i,F i->i < st.next):
  ∃ bI ep af,R (m+1) Y 54 [.agg [.int .i64 g,sl]] st=.ret (.agg [.int .i64 g,bI]) af/\Vd st af/\RL (fun i=>st.next<=i/\i < af.next) af bI ep/\Vy (fun i=>st.next<=i/\i < af.next) af l ep:=by
 have jV:∀ i,F i->i < (st.new (.row [Z0,.nilsl])).next:=fun i hi=>by have:=hF i hi;simp;omega
 have S0:Vs F st (st.new (.row [Z0,.nilsl])):=Vs.of (Vd.new st _) hF
 obtain⟨bI,ep,s2,hc,k2,h1,h2⟩:=terms98_run _ l m Y rfl (by omega) cH al F _ sl xs (aD.mono S0 fun _ h=>h) (Vy.mono S0 (fun _ h=>h) _ _ bg) jV
 have hc:((gT m).cg Y).fn 98 [sl] (st.new (.row [Z0,.nilsl]))=.ret bI s2:=hc
 have o1:=h1.one
 have g2:s2.get st.next=some (.row [Z0,.nilsl]):=by rw[k2.2 _ (by simp),St.get_new,Qm rfl]
 have bu:VN [Z0,.nilsl] [(0,1,.int .i64 g),(1,1,bI)]=some [.int .i64 g,bI]:=by
  have h:=one_cells o1
  have h1:(AV.int .i64 g).cells=[.int .i64 g]:=rfl
  simp[VN,h,h1,setCells,Nat.ble]
 have bj:Vt 2 s2 (.ptr st.next 0) (.agg [.int .i64 g,bI])=some (s2.put st.next (.row [.int .i64 g,bI])):=V4 g2 rfl rfl (by simp) (by show (AV.one (.int .i64 g)&&(AV.one bI&&true))=true;rw[o1];rfl)
 have ldr:Vf true 2 (s2.put st.next (.row [.int .i64 g,bI])) (.ptr st.next 0)=some (.agg [.int .i64 g,bI]):=Wk (by rw[St.get_put,Qm rfl]) rfl
 have kk:Vd st (s2.put st.next (.row [.int .i64 g,bI])):=((Vd.new st _).trans k2).put _ _ (Qw _)
 have S2:Vs (fun i=>(st.new (.row [Z0,.nilsl])).next<=i/\i < s2.next) s2 (s2.put st.next (.row [.int .i64 g,bI])):=fun i hi=>by
  rw[St.get_put,Qe (by have h:st.next+1<=i:=hi.1;omega)]
 have hG:∀ i,((st.new (.row [Z0,.nilsl])).next<=i/\i < s2.next)->(st.next<=i/\i < (s2.put st.next (.row [.int .i64 g,bI])).next):=fun i hi=>⟨by have h:st.next+1<=i:=hi.1;omega,hi.2⟩
 obtain⟨fA1,au⟩:∃ fA,fA=Vo 0 [.agg [.int .i64 g,sl]] Fr.nil:=⟨_,rfl⟩
 have gA1_0:=R9 au 0
 have dA1:fA1.ds=[]:=by rw[au];rfl
 obtain⟨J2,H2,O2_1,O2_2⟩:∃ aa,ar m Y wg54_0 fA1 st=.ok aa (st.new (.row [Z0,.nilsl]))/\aa.get 1=some (.fptr [.int .i64 g,sl] 0)/\aa.get 2=some (.ptr st.next 0):=⟨_,by simp only[Rw,rQ,rA,gA1_0,wg54_0]<;>rfl,gn gh,gh⟩
 obtain⟨J3,H3,K3⟩:∃ aa,VK ((gT m).cg Y) wg54_1 [(1,some 4),(1,some 6)] J2 (st.new (.row [Z0,.nilsl]))=.ok aa (s2.put st.next (.row [.int .i64 g,bI]))/\Kp [0,1,2] J2 aa:=by
  refine⟨?r140,?r141,?r142⟩
  case r141=>
   refine KB (ak:=?r14i) ?r14x ?r14y ?r14z
   case r14x=>
    simp only[Rw,rQ,rA,WH,WU,DR.cons,V5,VJ,VT,O2_1,O2_2,wg54_1,RI,ld2_0,ld2_1,hc,bu,bj]
    rfl
   case r14y=>rfl
   case r14z=>
    simp only[QN,QW,Qy,Qd]
    refine⟨Wo (i:=1) (k:=4) rfl rfl rfl rfl ?r14k0,Wo (i:=1) (k:=6) rfl rfl rfl rfl ?r14k1⟩
    case r14k0=>
     left
     simp only[Rw,rQ,rA,W0,O2_1,O2_2,wg54_1,RI,ld2_0,ld2_1,hc,bu,bj]
    case r14k1=>
     left
     simp only[Rw,rQ,rA,W0,O2_1,O2_2,wg54_1,RI,ld2_0,ld2_1,hc,bu,bj]
  case r142=>repeat (first | exact Kp.refl | refine Kp.set (by decide) ?_)
 have V3_2:=K3.g 2 O2_2
 have W3:=K3.1.trans (ad H2 dA1)
 refine⟨bI,ep,_,Ve (mf:=wf54) (fr:=J3) t54 rfl (.inl ?q3) W3 (by simp only[wf54,Rw,V3_2,ldr]),kk,h1.mono S2 hG,Vy.mono S2 hG _ _ h2⟩
 case q3=>
  rw[<-au]
  simp only[Rw,rQ,rA,wf54,Rx,R5,R6,R7,H2,H3]
def wg80_0:List Vc:=[ZO 1 (.box true (.t 0)),ZO 2 (.alloc [Z0,.nilsl,.nilsl])]
def Ti:List (Vc × Nat):=[(ZA 6 0 1,0),(ZL 7 6,1),(ZA 8 1 1,0),(ZL 9 8,4),(ZX 10 98 [(.t 9)],12),(ZO 11 (.build [Z0,.nilsl,.nilsl] [(0,1,(.t 7)),(1,1,(.t 10))]),31),(ZO 3 (.alloc [Z0,.nilsl,.nilsl]),0),(ZS 3 3 11,127)]
def wg80_2:List Vc:=[ZA 12 2 1,ZL 13 12,ZN 14 13,ZM 15 (ZC 0)]
def wg80_3:List Vc:=[ZO 16 (.bin false .lss (.t 15) (.t 14))]
def wg80_4:List Vc:=[ZP 17 3 13 15,ZK 18 3 17,ZO 5 (.alloc [Z0,.nilsl,.nilsl]),ZS 3 5 18]
def wg80_5:List (Vc × Nat):=[(ZA 19 2 3,0),(ZL 20 19,1),(ZK 21 3 5,0),(ZX 22 80 [(.t 21)],4),(ZO 23 (.bslice 1 [Z0,.nilsl,.nilsl] [(0,3,(.t 22))]),12),(ZO 24 (.append 56 3 none (.t 20) (.t 23)),31),(ZA 25 2 3,63),(ZS 1 25 24,127)]
def wg80_6:List Vc:=[ZO 26 (.bin false .add (.t 15) (ZC 1)),ZV 15 26]
def wg80_7:List Vc:=[ZK 27 3 3,ZS 3 2 27]
def Tv:Vn:=(ZQ wg80_3 (.seq (.cond (.t 16) .skip (.exit 0)) (.seq (.block 1 (ZQ wg80_4 (.draw wg80_5 [(1,some 3),(1,some 5)]))) (.region wg80_6))))
def wf80:Vm:=⟨28,(ZQ wg80_0 (.seq (.draw Ti [(1,some 4),(1,some 7),(6,some 4),(6,some 7)]) (.seq (ZQ wg80_2 (.block 0 (.loop Tv))) (ZR wg80_7)))),[.cell 2 true 3]⟩
theorem t80:Ry 80=some wf80:=by kernel_rfl
set_option maxHeartbeats 1000000 in
theorem freshDeriv_run:∀(n:Nat) (d:Dv) (m:Nat) (Y:Vi),d.fz=n->n+4 < m->Dv.good gr d=true->∀(F:Nat->Prop) (st:St) (cs:List AV),VU F st d cs->(∀ i,F i->i < st.next) ->
  ∃ cn af,R m Y 80 [.agg cs] st=.ret (.agg cn) af/\Vd st af/\VU (fun i=>st.next<=i/\i < af.next) af d cn:=by
 intro n
 induction n using Nat.strongRecOn with
 | _ n ih=>
 intro d m' Y hs hn dk F st cs hr hF
 obtain⟨m,rfl⟩:∃ m,m'=m+1:=⟨m' - 1,by omega⟩
 cases d with
 | mk r nv ev vs nl ex l=>
 obtain⟨g1,g2,g3,g4,g5,g6⟩:=good_mk dk
 have a2:=arN_le r
 have BX:=vaN_le r
 simp only[Dv.fz] at hs
 simp only[VU] at hr
 obtain⟨sv,xv,sl,xs,rfl,kb,nJ,aD,bg⟩:=hr
 have bJ:=bg.len
 have bO:=aD.len
 have gz:=aD.2.1
 -- the object of the result;the object of the copy
 obtain⟨s0,dP⟩:∃ s0,s0=st.new (.row [Z0,.nilsl,.nilsl]):=⟨_,rfl⟩
 have n0:s0.next=st.next+1:=by rw[dP];rfl
 have k0:Vd st s0:=by rw[dP];exact Vd.new st _
 obtain⟨sP,my⟩:∃ sP,sP=s0.new (.row [Z0,.nilsl,.nilsl]):=⟨_,rfl⟩
 have nP:sP.next=s0.next+1:=by rw[my];rfl
 have kP:Vd s0 sP:=by rw[my];exact Vd.new s0 _
 have gP:sP.get s0.next=some (.row [Z0,.nilsl,.nilsl]):=by rw[my,St.get_new,Qm rfl]
 have SP:=Vs.of (k0.trans kP) hF
 obtain⟨bQ,Av,s1,hc,k1,h1,h2⟩:=terms98_run _ vs m Y rfl (by omega) g5 (by omega) F sP sv xv (kb.mono SP fun _ h=>h) (Vy.mono SP (fun _ h=>h) _ _ nJ) (fun i hi=>by have:=hF i hi;omega)
 have hc:((gT m).cg Y).fn 98 [sv] sP=.ret bQ s1:=hc
 have o1:=h1.one
 have gP1:s1.get s0.next=some (.row [Z0,.nilsl,.nilsl]):=(k1.2 _ (by omega)).trans gP
 have bu:=fill2 (v:=bQ) r o1
 have b3:VG [ZI 0,.nilsl,.nilsl] [ZI 0,.nilsl,.nilsl]=true:=rfl
 have cZ:Vt 3 s1 (.ptr s0.next 0) (.agg [.int .i64 r,bQ,.nilsl])=some (s1.put s0.next (.row [.int .i64 r,bQ,.nilsl])):=V4 gP1 rfl rfl (by simp) (by show (AV.one (.int .i64 r)&&(AV.one bQ&&(AV.one .nilsl&&true)))=true;rw[o1];rfl)
 obtain⟨s2,bD⟩:∃ s2,s2=s1.put s0.next (.row [.int .i64 r,bQ,.nilsl]):=⟨_,rfl⟩
 have n2:s2.next=s1.next:=by rw[bD];rfl
 have o2:∀ j,j≠s0.next->s2.get j=s1.get j:=fun j hj=>by rw[bD,St.get_put,Qe hj]
 have ez:Vd st s2:=⟨by have:=k1.1;omega,fun j hj=>by rw[o2 j (by omega),k1.2 j (by omega),kP.2 j (by omega),k0.2 j hj]⟩
 have G2:s2.get s0.next=some (.row [.int .i64 r,bQ,.nilsl]):=by rw[bD,St.get_put,Qm rfl]
 have Sv:Vs (fun i=>sP.next<=i/\i < s1.next) s1 s2:=fun i hi=>o2 i (by omega)
 have h1:=h1.mono Sv (fun _ h=>h)
 have h2:=Vy.mono Sv (fun _ h=>h) _ _ h2
 have hL:∀(fr:Fr),fr.ds=[]->fr.get 2=some (.ptr st.next 0)->fr.get 3=some (.ptr s0.next 0)->fr.get 13=some sl->fr.get 14=some (ZI xs.length)->fr.get 15=some Z0 ->
   ∃ FR s' so xo G,Vx (ac m Y Tv none) m fr s2=.exit 0 FR s'/\FR.ds=[]/\FR.get 2=some (.ptr st.next 0)/\FR.get 3=some (.ptr s0.next 0)/\s2.next<=s'.next/\(∀ j,j < s2.next->j≠s0.next->s'.get j=s2.get j)/\s'.get s0.next=some (.row [.int .i64 r,bQ,so])/\xo.length=xs.length/\VI G s' l xo/\Gr s2.next s' so xo G:=by
  intro fr d0 q1 q2 q3 q4 q5
  refine Ws (B:=ac m Y Tv none) (N:=xs.length) (R3:=fun k f s=>f.ds=[]/\f.get 2=some (.ptr st.next 0)/\f.get 3=some (.ptr s0.next 0)/\f.get 13=some sl/\f.get 14=some (ZI xs.length)/\f.get 15=some (ZI k)/\s2.next<=s.next/\(∀ j,j < s2.next->j≠s0.next->s.get j=s2.get j)/\∃ so xo G,s.get s0.next=some (.row [.int .i64 r,bQ,so])/\xo.length=k/\VI G s (l.take k) xo/\Gr s2.next s so xo G)
   (Out:=fun rr=>∃ FR s' so xo G,rr=.exit 0 FR s'/\FR.ds=[]/\FR.get 2=some (.ptr st.next 0)/\FR.get 3=some (.ptr s0.next 0)/\s2.next<=s'.next/\(∀ j,j < s2.next->j≠s0.next->s'.get j=s2.get j)/\s'.get s0.next=some (.row [.int .i64 r,bQ,so])/\xo.length=xs.length/\VI G s' l xo/\Gr s2.next s' so xo G) ?_ xs.length 0 fr s2 m (by omega) (by omega) ⟨d0,q1,q2,q3,q4,q5,Qw _,fun _ _ _=>rfl,.nilsl,[],_,G2,rfl,by simp[VI],Gr.nil _ _⟩
  intro k f s hk ⟨d0,q1,q2,q3,q4,q5,qN,cK,so,xo,G,cW,qK,bq,bX⟩
  have am:=Wt k xs.length
  by_cases aQ:k < xs.length
  ·obtain⟨t,ht,bH⟩:=WR (l:=l) (k:=k) (by omega)
   obtain⟨x,hx,bZ⟩:=bg.at ht
   have aO:Vs F st s:=fun i hi=>by have:=hF i hi;rw[cK i (by have:=ez.1;omega) (by omega)];exact ez.2 i this
   obtain⟨p,ia,ld⟩:=aD.at hx
   have ld:=ld s aO
   obtain⟨s3,bj,ks,go,fT⟩:=next_el s (zs:=[Z0,.nilsl,.nilsl]) rfl bZ.cells3
   have aH:=Qr ht
   have bv:=Dv.fzL_mem aH
   have BY:=ez.1
   have jV:∀ i,F i->i < s3.next:=fun i hi=>by have:=hF i hi;omega
   have im:=VU.mono (aO.trans (Vs.of ks fun i hi=>by have:=hF i hi;omega)) (fun _ h=>h) t x bZ
   have ew:l.take (k+1)=l.take k++[t]:=by rw[QT,ht];rfl
   obtain⟨y,s4,ay,jX,ve⟩:=ih t.fz (by omega) t m Y rfl (by omega) (goodL_mem g6 t aH) F s3 x im jV
   have aC:((gT m).cg Y).fn 80 [.agg x] s3=.ret (.agg y) s4:=ay
   have eM:Vd s s4:=ks.trans jX
   have il:=eM.1
   obtain⟨fI,s5,cM,nj,Au,sG,sG2,lD⟩:=bX.app (bytes:=56) (y:=y) (G2:=fun i=>s3.next<=i/\i < s4.next) qN (by omega) (by omega) eM ve.cells3 (fun i hi=>⟨by omega,hi.2⟩)
   have mW:so≠.own s0.next 0 xo.length 3 none xo.length:=fun e=>by
    rcases bX.2.2 with⟨e',_⟩|⟨id,e',aZ,_⟩
    ·rw[e'] at e;cases e
    ·rw[e'] at e;injection e with e1;have:=k1.1;omega
   have g5r:s5.get s0.next=some (.row [.int .i64 r,bQ,so]):=by rw[nj _ (by have:=k1.1;omega) mW,eM.2 _ (by have:=k1.1;omega)];exact cW
   have oso:AV.one fI=true:=lD.one
   have pd:Vt 1 s5 (.ptr s0.next 2) fI=some (s5.put s0.next (.row [.int .i64 r,bQ,fI])):=st32 g5r oso
   have qO:∀ j,j < s2.next->j≠s0.next->(s5.put s0.next (.row [.int .i64 r,bQ,fI])).get j=s2.get j:=fun j h1 h2=>by
    rw[St.get_put,Qe h2,nj j (by omega) (fun e=>by
     rcases bX.2.2 with⟨e',_⟩|⟨id,e',aZ,_⟩
     ·rw[e'] at e;cases e
     ·rw[e'] at e;injection e with e1;omega),eM.2 j (by omega)]
    exact cK j h1 h2
   have nZ:∀ i,s2.next<=i->(s5.put s0.next (.row [.int .i64 r,bQ,fI])).get i=s5.get i:=fun i hi=>by rw[St.get_put,Qe (by have:=k1.1;omega)]
   have jc:VI (fun i=>G i\/s3.next<=i/\i < s4.next) (s5.put s0.next (.row [.int .i64 r,bQ,fI])) (l.take (k+1)) (xo++[y]):=by
    rw[ew]
    exact VI.snoc (VI.mono (sG.trans fun i hi=>nZ i (bX.1 i hi).1) (fun i hi=>.inl hi) _ _ bq) (VU.mono (sG2.trans fun i hi=>nZ i (by omega)) (fun i hi=>.inr hi) _ _ ve)
   have od:Gr s2.next (s5.put s0.next (.row [.int .i64 r,bQ,fI])) fI (xo++[y]) (fun i=>G i\/s3.next<=i/\i < s4.next):=lD.mono (Qw _) (fun id h1 _ _ _=>nZ id h1)
   obtain⟨ya,yb,yc,rfl⟩:∃ a b c,y=[a,b,c]:=by
    match y,ve.cells3.1 with
    | [a,b,c],_=>exact⟨a,b,c,rfl⟩
   have fl:VN [Z0,.nilsl,.nilsl] [(0,3,.agg [ya,yb,yc])]=some [ya,yb,yc]:=rfl
   have r3:s3.get s0.next=some (.row [.int .i64 r,bQ,so]):=by rw[ks.2 _ (by have:=k1.1;omega)];exact cW
   have r4:s4.get s0.next=some (.row [.int .i64 r,bQ,so]):=by rw[jX.2 _ (by have:=k1.1;omega)];exact r3
   have l2:Vf false 1 s3 (.ptr s0.next 2)=some so:=Vk r3 rfl
   have vf:Vf false 1 s4 (.ptr s0.next 2)=some so:=Vk r4 rfl
   have lx:=load_row go bZ.cells3.1
   have aU:=WC (i:=k) (by omega)
   rw[Qs aQ] at am
   obtain⟨J5,H5,O5_16⟩:∃ aa,ar m Y wg80_3 f s=.ok aa s/\aa.get 16=some (.bool true):=⟨_,by simp only[Rw,rQ,rA,q4,q5,wg80_3,am]<;>rfl,gh⟩
   have V5_13:=ag H5 q3
   have V5_15:=ag H5 q5
   obtain⟨J6,H6,O6_5⟩:∃ aa,ar m Y wg80_4 J5 s=.ok aa s3/\aa.get 5=some (.ptr s.next 0):=⟨_,by simp only[Rw,rQ,rA,V5_13,V5_15,wg80_4,ia,ld,bj]<;>rfl,gh⟩
   have V6_3:=ag H6 (ag H5 q2)
   obtain⟨J7,H7,K7⟩:∃ aa,VK ((gT m).cg Y) wg80_5 [(1,some 3),(1,some 5)] J6 s3=.ok aa (s5.put s0.next (.row [.int .i64 r,bQ,fI]))/\Kp [2,3,13,14,15,16,5] J6 aa:=by
    refine⟨?r170,?r171,?r172⟩
    case r171=>
     refine KB (ak:=?r17i) ?r17x ?r17y ?r17z
     case r17x=>
      simp only[Rw,rQ,rA,WH,WU,DR.cons,V5,VJ,VT,V6_3,O6_5,wg80_5,RG,l2,vf,lx,aC,fl,cnt1,cM,tag0,pd]
      rfl
     case r17y=>rfl
     case r17z=>
      simp only[QN,QW,Qy,Qd]
      refine⟨Wo (i:=1) (k:=3) rfl rfl rfl rfl ?r17k0,Wo (i:=1) (k:=5) rfl rfl rfl rfl ?r17k1⟩
      case r17k0=>
       right
       refine⟨?r17s0,?r17l0,bX.beq⟩
       case r17l0=>
        simp only[Rw,rQ,rA,V5,V6_3,O6_5,wg80_5,RG,l2,vf,lx,aC,fl,cnt1,cM,tag0,pd]
        rfl
      case r17k1=>
       right
       refine⟨?r17s1,?r17l1,bX.beq⟩
       case r17l1=>
        simp only[Rw,rQ,rA,V5,V6_3,O6_5,wg80_5,RG,l2,vf,lx,aC,fl,cnt1,cM,tag0,pd]
        rfl
    case r172=>repeat (first | exact Kp.refl | refine Kp.set (by decide) ?_)
   have V7_2:=K7.g 2 (ag H6 (ag H5 q1))
   have V7_3:=K7.g 3 V6_3
   have V7_13:=K7.g 13 (ag H6 V5_13)
   have V7_14:=K7.g 14 (ag H6 (ag H5 q4))
   have V7_15:=K7.g 15 (ag H6 V5_15)
   have W7:=K7.1.trans (ad H6 (ad H5 d0))
   obtain⟨J8,H8,O8_15⟩:∃ aa,ar m Y wg80_6 J7 (s5.put s0.next (.row [.int .i64 r,bQ,fI]))=.ok aa (s5.put s0.next (.row [.int .i64 r,bQ,fI]))/\aa.get 15=some (ZI ((k+1))):=⟨_,by simp only[Rw,rQ,rA,V7_15,wg80_6,aU]<;>rfl,gh⟩
   have jy:ac m Y Tv none f s=.norm J8 (s5.put s0.next (.row [.int .i64 r,bQ,fI])):=by
    simp only[Rw,rQ,rA,Tv,Rx,R5,R6,R7,H5,H6,H7,H8,O5_16]
   rw[jy]
   exact⟨aQ,(ad H8 W7),(ag H8 V7_2),(ag H8 V7_3),(ag H8 V7_13),(ag H8 V7_14),O8_15,by show s2.next<=s5.next;omega,qO,fI,_,_,by rw[St.get_put,Qm rfl],by simp[qK],jc,od⟩
  ·rw[Qp aQ] at am
   have ce:k=xs.length:=by omega
   rw[ce,bJ,QH] at bq
   obtain⟨J9,H9,O9_16⟩:∃ aa,ar m Y wg80_3 f s=.ok aa s/\aa.get 16=some (.bool false):=⟨_,by simp only[Rw,rQ,rA,q4,q5,wg80_3,am]<;>rfl,gh⟩
   have lj:ac m Y Tv none f s=.exit 0 J9 s:=by
    simp only[Rw,rQ,rA,Tv,Rx,R5,R6,R7,H9,O9_16]
   rw[lj]
   exact⟨_,_,so,xo,G,rfl,(ad H9 d0),(ag H9 q1),(ag H9 q2),qN,cK,cW,by omega,bq,bX⟩
 obtain⟨fA10,cX⟩:∃ fA,fA=Vo 0 [.agg [.int .i64 r,sv,sl]] Fr.nil:=⟨_,rfl⟩
 have gA10_0:=R9 cX 0
 have dA10:fA10.ds=[]:=by rw[cX];rfl
 obtain⟨J11,H11,O11_1,O11_2⟩:∃ aa,ar m Y wg80_0 fA10 st=.ok aa s0/\aa.get 1=some (.fptr [.int .i64 r,sv,sl] 0)/\aa.get 2=some (.ptr st.next 0):=⟨_,by simp only[Rw,rQ,rA,gA10_0,wg80_0,dP]<;>rfl,gn gh,gh⟩
 obtain⟨J12,H12,K12,O12_3⟩:∃ aa,VK ((gT m).cg Y) Ti [(1,some 4),(1,some 7),(6,some 4),(6,some 7)] J11 s0=.ok aa s2/\Kp [0,1,2] J11 aa/\aa.get 3=some (.ptr s0.next 0):=by
  refine⟨?r220,?r221,?r222,?r22o3⟩
  case r221=>
   refine KB (ak:=?r22i) ?r22x ?r22y ?r22z
   case r22x=>
    simp only[Rw,rQ,rA,WH,WU,DR.cons,V5,VJ,VT,O11_1,Ti,RI,YV,Ks,hc,bu,gP1,gP,b3,cZ,<-my,bD]
    rfl
   case r22y=>rfl
   case r22z=>
    simp only[QN,QW,Qy,Qd]
    refine⟨Wo (i:=1) (k:=4) rfl rfl rfl rfl ?r22k0,Wo (i:=1) (k:=7) rfl rfl rfl rfl ?r22k1,Wo (i:=6) (k:=4) rfl rfl rfl rfl ?r22k2,Wo (i:=6) (k:=7) rfl rfl rfl rfl ?r22k3⟩
    case r22k0=>
     left
     simp only[Rw,rQ,rA,W0,O11_1,Ti,RI,YV,Ks,hc,bu,gP1,gP,b3,cZ,<-my,bD]
    case r22k1=>
     left
     simp only[Rw,rQ,rA,W0,O11_1,Ti,RI,YV,Ks,hc,bu,gP1,gP,b3,cZ,<-my,bD]
    case r22k2=>
     right
     refine⟨?r22s2,?r22l2,avPtr _ _⟩
     case r22l2=>
      simp only[Rw,rQ,rA,V5,Wf,VJ,O11_1,Ti,RI,YV,Ks,hc,bu,gP1,gP,b3,cZ,<-my,bD]
      rfl
    case r22k3=>
     right
     refine⟨?r22s3,?r22l3,avPtr _ _⟩
     case r22l3=>
      simp only[Rw,rQ,rA,V5,Wf,VJ,O11_1,Ti,RI,YV,Ks,hc,bu,gP1,gP,b3,cZ,<-my,bD]
      rfl
  case r222=>repeat (first | exact Kp.refl | refine Kp.set (by decide) ?_)
  case r22o3=>simp only[Fr.get_set,rQ,↓reduceIte]
 have V12_1:=K12.g 1 O11_1
 have V12_2:=K12.g 2 O11_2
 have W12:=K12.1.trans (ad H11 dA10)
 obtain⟨J13,H13,O13_13,O13_14,O13_15⟩:∃ aa,ar m Y wg80_2 J12 s2=.ok aa s2/\aa.get 13=some (sl)/\aa.get 14=some (ZI xs.length)/\aa.get 15=some Z0:=⟨_,by simp only[Rw,rQ,rA,V12_1,wg80_2,RI,ld3_2,bO]<;>rfl,gn (gn gh),gn gh,gh⟩
 obtain⟨FR,s6,so,xo,G,hL,dF,F2,F3,n6,o6,r6,qK,bq,bX⟩:=hL J13 (ad H13 W12) (ag H13 V12_2) (ag H13 O12_3) O13_13 O13_14 O13_15
 have n1le:=k1.1
 have Aw:s6.get st.next=some (.row [Z0,.nilsl,.nilsl]):=by
  rw[o6 _ (by omega) (by omega),o2 _ (by omega),k1.2 _ (by omega),kP.2 _ (by omega),dP,St.get_new,Qm rfl]
 have l6:Vf true 3 s6 (.ptr s0.next 0)=some (.agg [.int .i64 r,bQ,so]):=Wk r6 rfl
 have t6:Vt 3 s6 (.ptr st.next 0) (.agg [.int .i64 r,bQ,so])=some (s6.put st.next (.row [.int .i64 r,bQ,so])):=V4 Aw rfl rfl (by simp) (by show (AV.one (.int .i64 r)&&(AV.one bQ&&(AV.one so&&true)))=true;rw[o1,bX.one];rfl)
 have ldr:Vf true 3 (s6.put st.next (.row [.int .i64 r,bQ,so])) (.ptr st.next 0)=some (.agg [.int .i64 r,bQ,so]):=Wk (by rw[St.get_put,Qm rfl]) rfl
 have kk:Vd st (s6.put st.next (.row [.int .i64 r,bQ,so])):=⟨by show st.next<=s6.next;omega,fun j hj=>by rw[St.get_put,Qe (by omega),o6 j (by omega) (by omega)];exact ez.2 j hj⟩
 have dv:VU (fun i=>st.next<=i/\i < (s6.put st.next (.row [.int .i64 r,bQ,so])).next) (s6.put st.next (.row [.int .i64 r,bQ,so])) (.mk r nv ev vs nl ex l) [.int .i64 r,bQ,so]:=by
  simp only[VU]
  have Sa:Vs (fun i=>sP.next<=i/\i < s1.next) s2 (s6.put st.next (.row [.int .i64 r,bQ,so])):=fun i hi=>by rw[St.get_put,Qe (by omega),o6 i (by omega) (by omega)]
  have Sb:Vs G s6 (s6.put st.next (.row [.int .i64 r,bQ,so])):=fun i hi=>by have:=(bX.1 i hi).1;rw[St.get_put,Qe (by omega)]
  have Sc:Vs (fun i=>s2.next<=i/\i < s6.next) s6 (s6.put st.next (.row [.int .i64 r,bQ,so])):=fun i hi=>by rw[St.get_put,Qe (by omega)]
  refine⟨bQ,Av,so,xo,rfl,h1.mono Sa fun i hi=>⟨by omega,by show i < s6.next;omega⟩,Vy.mono Sa (fun i hi=>⟨by omega,by show i < s6.next;omega⟩) _ _ h2,(bX.slr (by omega)).mono Sc fun i hi=>⟨by omega,hi.2⟩,VI.mono Sb (fun i hi=>⟨by have:=(bX.1 i hi).1;omega,(bX.1 i hi).2⟩) _ _ bq⟩
 obtain⟨J14,H14⟩:∃ aa,ar m Y wg80_7 FR s6=.ok aa (s6.put st.next (.row [.int .i64 r,bQ,so])):=⟨_,by simp only[Rw,rQ,rA,F2,F3,wg80_7,l6,t6]<;>rfl⟩
 refine⟨[.int .i64 r,bQ,so],_,Ve (mf:=wf80) (fr:=J14) t80 rfl (.inl ?q14) (ad H14 dF) (by simp only[wf80,Rw,(ag H14 F2),ldr]),kk,dv⟩
 case q14=>
  rw[<-cX]
  simp only[Rw,rQ,rA,wf80,Rx,R5,R6,R7,H11,H12,H13,hL,H14]
end
end Go.AM.D32
