import Derived.Test.YtejdliehekjicaaGreatAwWa21
set_option maxRecDepth 100000
set_option linter.unusedSimpArgs false
namespace Go.AM.D32
open Go Go.AM
open Nat renaming reduceEqDiff -> rQ, reduceAdd -> rA
theorem intBeq_self(i:Int):TO i i=true:=by cases i<;>exact QD _
theorem avBeq3(a b c:Int):V8 (.agg [.int .i64 a,.int .i64 b,.int .i64 c]) (.agg [.int .i64 a,.int .i64 b,.int .i64 c])=true:=by
 simp only[V8,VG,intBeq_self];rfl
theorem draw31_3{m:Nat}{Y:Vi}{fr:Fr}{s:St}{b x7:Nat}{x:AV}{a p i:Int}(g4:fr.get 4=some (.ptr b 0))(g5:fr.get 5=some (.ptr (b+1) 0))(g7:fr.get 7=some (.ptr x7 0))(hb:s.get b=some (.row [x]))(hb1:s.get (b+1)=some (.row [Z0,Z0,Z0]))(h7:s.get x7=some (.row [.int .i64 a,.int .i64 p,.int .i64 i]))(n1:x7≠b):
  ∃ fr',VK ((gT m).cg Y) wg31_3 [(0,some 1),(0,some 2)] fr s=.ok fr' ((s.put b (.row [.nilsl])).put (b+1) (.row [.int .i64 a,.int .i64 p,.int .i64 i]))/\Kq [34] fr fr':=by
 have l7:Vf true 3 s (.ptr x7 0)=some (.agg [.int .i64 a,.int .i64 p,.int .i64 i]):=Wk h7 rfl
 have l7':Vf true 3 (s.put b (.row [.nilsl])) (.ptr x7 0)=some (.agg [.int .i64 a,.int .i64 p,.int .i64 i]):=Wk (by rw[St.get_put,Qe n1];exact h7) rfl
 have t1:Vt 1 s (.ptr b 0) .nilsl=some (s.put b (.row [.nilsl])):=V4 hb rfl rfl (by simp) rfl
 have t2:Vt 3 (s.put b (.row [.nilsl])) (.ptr (b+1) 0) (.agg [.int .i64 a,.int .i64 p,.int .i64 i])=some ((s.put b (.row [.nilsl])).put (b+1) (.row [.int .i64 a,.int .i64 p,.int .i64 i])):=V4 (by rw[St.get_put,Qe (by omega)];exact hb1) rfl rfl (by simp) rfl
 have hl:lens ((gT m).cg Y) wg31_3 fr s=[]:=rfl
 refine⟨?f,?h1,?h2⟩
 case h1=>
  refine adraw_ok2 (its:=?i) hl ?x ?y ?z
  case x=>
   have hp:VT wg31_3 [] s=s:=rfl
   rw[hp]
   simp only[amE,rQ,rA,wg31_3,WH,WU,DR.cons,V5,VJ,g4,g5,g7,l7,t1,t2]
   rfl
  case y=>rfl
  case z=>
   simp only[QN,QW,Qy,Qd]
   refine⟨Wo (i:=0) (k:=1) rfl rfl rfl rfl ?k0,Wo (i:=0) (k:=2) rfl rfl rfl rfl ?k1⟩
   case k0=>
    right;refine⟨?s2,?l2,avBeq3 _ _ _⟩
    case l2=>simp only[amE,rQ,rA,V5,g7,l7];try rfl
   case k1=>
    right;refine⟨?s3,?l3,avBeq3 _ _ _⟩
    case l3=>simp only[amE,rQ,rA,V5,g7,l7'];try rfl
 case h2=>exact Kq.refl.s
theorem Kq.of{D:List Nat}{a b:Fr}(h:∀ j,j∉D->b.get j=a.get j)(d:b.ds=a.ds):Kq D a b:=⟨d,h⟩
def Yb(l:List Sp):List Int × List Int:=Y4 (ens l) (Wn (V6 (ens l))).length (Wn (V6 (ens l))) []
def okM(k:Nat)(ps:List Int)(l:List Sp):Prop:=KC k ps l/\(Yb l).1=[]
def PrM(sp:List Sp)(lo:Nat)(s:St)(x:Pr):Prop:=sp.find? (fun z=>z.2.2.prop==x.e.prop)=some (x.p,x.i,x.e)/\x.cl=clE (ens sp) x.e.prop/\s.get x.id=some (.row x.row)/\s.get x.cid=some (.row (V9 (VY x.cl)))/\lo<=x.id/\lo<=x.cid/\x.id < s.next/\x.cid < s.next
set_option maxHeartbeats 2000000 in
theorem merge_run{F:Nat->Prop}{st:St}{lv pv jv:AV}{ls:List (List AV)}{ps:List Int}{N:Int}{js:List (AV × List En)}(hl:SlN 1 F st lv ls)(hp:SlI F st pv ps)(hj:YQ F st jv js)(hF:∀ i,F i->i < st.next)(hP:ps.length=ls.length)(hA:areB ls.length N js=true)(m:Nat)(Y:Vi)(hn:fzJ js+40000 < m)(hk24:ls.length<=24):
  ∃ st' v r,R (m+3) Y 31 [.agg [lv,pv,.int .i64 N],jv] st=.ret (.tuple [v,.agg r]) st'/\Vd st st' ∧
   ((okM ls.length ps (Vq js)/\r=[Z0,Z0,Z0]/\∃ PS:List Pr,PS.map (fun x=>x.e.prop)=(Yb (Vq js)).2/\JU st.next st' v PS/\∀ x∈PS,PrM (Vq js) st.next st' x) ∨
    (¬ okM ls.length ps (Vq js)/\v=.nilsl/\∃ kd p i:Nat,kd≠0/\r=[ZI kd,ZI p,ZI i])):=by
 have hone:AV.one jv=true:=hj.1.one
 have hA':=hA
 unfold areB at hA'
 simp only[Qd,QF,QB] at hA'
 obtain⟨⟨hA1,hA2⟩,hA3⟩:=hA'
 have hens:(ens (Vq js)).length<=4000:=by rw[spots_len];exact hA2
 have hgood:∀ z∈Vq js,En.good ls.length z.2.2=true/\z.2.2.ok:=fun z hz=>by
  unfold Vq at hz
  obtain⟨y,hy,hzr⟩:=QO.1 hz
  have hy1:y.1∈js:=by
   have hy':=XF hy
   rw[hy'.2.2];exact Xu _
  unfold row at hzr
  obtain⟨u,hu,rfl⟩:=Q6.1 hzr
  have hu1:u.1∈y.1.2:=by
   have hu':=XF hu
   rw[hu'.2.2];exact Xu _
  exact⟨hA3 y.1 hy1 u.1 hu1,(hj.2 y.1 hy1).2 u.1 hu1⟩
 obtain⟨sA,hsA⟩:∃ sA,sA=(st.new (.row [.nilsl])).new (.row [Z0,Z0,Z0]):=⟨_,rfl⟩
 have kA:Vd st sA:=by rw[hsA];exact(Vd.new st _).trans (Vd.new _ _)
 have nA:sA.next=st.next+2:=by rw[hsA];rfl
 have A0:sA.get st.next=some (.row [.nilsl]):=by rw[hsA];simp[St.get_new]
 have A1:sA.get (st.next+1)=some (.row [Z0,Z0,Z0]):=by rw[hsA];simp[St.get_new]
 have SA:=Vs.of kA hF
 have hFA:∀ i,F i->i < sA.next:=fun i hi=>by have:=hF i hi;omega
 obtain⟨sG,v,r,c69,kG,hG⟩:=gathered_run (hl.mono SA fun _ h=>h) (hp.mono SA fun _ h=>h) (hj.mono SA fun _ h=>h) hFA hP hA m Y (by omega)
 have c69:((gT (m+2)).cg Y).fn 69 [.agg [lv,pv,.int .i64 N],jv] sA=.ret (.tuple [v,.agg r]) sG:=c69
 have nG:=kG.1
 obtain⟨ra,rb,rc,hr⟩:∃ ra rb rc:Int,r=[.int .i64 ra,.int .i64 rb,.int .i64 rc]:=by
  rcases hG with⟨_,_,h,_⟩|⟨_,_,_,_,_,_,_,h⟩<;>exact⟨_,_,_,h⟩
 have hv:v.cells=[v]/\AV.one v=true:=by
  rcases hG with⟨_,h,_,_⟩|⟨h,_⟩<;>rw[h]<;>exact⟨rfl,rfl⟩
 rw[hr] at c69
 -- what was gathered,in variables
 have st1:Vt 1 ((sG.new (.row [.nilmap])).new (.row [Z0,Z0,Z0])) (.ptr sG.next 0) v=some (((sG.new (.row [.nilmap])).new (.row [Z0,Z0,Z0])).put sG.next (.row [v])):=V4 (x:=[.nilmap]) (by simp[St.get_new]) (by rw[hv.1];rfl) (by rw[hv.1];rfl) (by simp) (by rw[hv.1];simp[hv.2])
 have st2:Vt 3 (((sG.new (.row [.nilmap])).new (.row [Z0,Z0,Z0])).put sG.next (.row [v])) (.ptr (sG.new (.row [.nilmap])).next 0) (.agg [.int .i64 ra,.int .i64 rb,.int .i64 rc])=some ((((sG.new (.row [.nilmap])).new (.row [Z0,Z0,Z0])).put sG.next (.row [v])).put (sG.new (.row [.nilmap])).next (.row [.int .i64 ra,.int .i64 rb,.int .i64 rc])):=V4 (x:=[Z0,Z0,Z0]) (by simp[St.get_new,St.get_put]) rfl rfl (by simp) rfl
 obtain⟨s1,hs1⟩:∃ s1,s1=(((sG.new (.row [.nilmap])).new (.row [Z0,Z0,Z0])).put sG.next (.row [v])).put (sG.new (.row [.nilmap])).next (.row [.int .i64 ra,.int .i64 rb,.int .i64 rc]):=⟨_,rfl⟩
 rw[<-hs1] at st2
 have n1:s1.next=sG.next+2:=by rw[hs1];rfl
 have k1:Vd sG s1:=by rw[hs1];exact(((Vd.new sG _).trans (Vd.new _ _)).put _ _ (Qw _)).put _ _ (by simp)
 have B6:s1.get sG.next=some (.row [v]):=by rw[hs1];simp[St.get_put,St.get_new]
 have B7:s1.get (sG.next+1)=some (.row [.int .i64 ra,.int .i64 rb,.int .i64 rc]):=by rw[hs1];simp[St.get_put,St.get_new]
 have B0:s1.get st.next=some (.row [.nilsl]):=by rw[k1.2 _ (by omega),kG.2 _ (by omega)];exact A0
 have B1:s1.get (st.next+1)=some (.row [Z0,Z0,Z0]):=by rw[k1.2 _ (by omega),kG.2 _ (by omega)];exact A1
 have K1:Vd st s1:=(kA.trans kG).trans k1
 have l70:Vf false 1 s1 (.ptr (sG.next+1) 0)=some (.int .i64 ra):=Vk B7 rfl
 have hne:=Yk ra (.ofNat 0)
 obtain⟨fA28,hA28⟩:∃ fA,fA=Vo 0 [.agg [lv,pv,.int .i64 N],jv] Fr.nil:=⟨_,rfl⟩
 have gA28_0:=gAt hA28 0
 have gA28_1:=gAt hA28 1
 have dA28:fA28.ds=[]:=by rw[hA28];rfl
 have un0:∀ j,2<=j->fA28.get j=none:=fun j hj=>by rw[hA28];simp only[Vo,Fr.get_set];rw[Qe (by omega),Qe (by omega),Fr.get_nil]
 obtain⟨J29,hR29,kR29,O29_2,O29_4,O29_5⟩:∃ fr',ar (m+2) Y wg31_0 fA28 st=.ok fr' sA/\Kq [5,4,2] fA28 fr'/\fr'.get 2=some (.fptr [lv,pv,.int .i64 N] 0)/\fr'.get 4=some (.ptr st.next 0)/\fr'.get 5=some (.ptr (st.next+1) 0):=⟨_,by simp only[amE,rQ,rA,gA28_0,wg31_0,hsA]<;>rfl,Kq.refl.s.s.s,gn (gn gh),gn gh,gh⟩
 have V29_1:=kR29.g 1 gA28_1
 have W29:=kR29.1.trans dA28
 obtain⟨J30,hR30,O30_6,O30_7⟩:∃ fr',ar (m+2) Y wg31_1 J29 sA=.ok fr' s1/\fr'.get 6=some (.ptr sG.next 0)/\fr'.get 7=some (.ptr (sG.next+1) 0):=⟨_,by simp only[amE,rQ,rA,V29_1,O29_2,wg31_1,Jh,c69,extract0,extract1,st1,st2]<;>rfl,gn gh,gh⟩
 obtain⟨J31,hR31,O31_33⟩:∃ fr',ar (m+2) Y wg31_2 J30 s1=.ok fr' s1/\fr'.get 33=some (.bool (ra != .ofNat 0)):=⟨_,by simp only[amE,rQ,rA,O30_7,wg31_2,faP,l70,hne]<;>rfl,gh⟩
 have V31_2:=ag hR31 (ag hR30 O29_2)
 have V31_4:=ag hR31 (ag hR30 O29_4)
 have V31_5:=ag hR31 (ag hR30 O29_5)
 have V31_7:=ag hR31 O30_7
 have W31:=ad hR31 (ad hR30 W29)
 have un1:∀ j∈[45,46,47,48,11,49,50,51,52,53,54,55,56,57,58,13,59,60,61,62,63,64,65,66,55],J31.get j=none:=fun j hj=>by
  rw[(((kR29.t (aq hR30)).t (aq hR31))).2 j (by
   simp only[Qx,QI,Xh] at hj
   rcases hj with rfl | rfl | rfl | rfl | rfl | rfl | rfl | rfl | rfl | rfl | rfl | rfl | rfl | rfl | rfl | rfl | rfl | rfl | rfl | rfl | rfl | rfl | rfl | rfl | rfl<;>decide)]
  exact un0 j (by simp only[Qx,QI,Xh] at hj;omega)
 rcases hG with⟨hfit,rfl,hr0,PL,mm,hg⟩|⟨rfl,d,x,rr,hsp,hfd,hkd,hr0⟩
 case inr=>
  rw[hr0] at hr
  injection hr with hr1 hr2
  injection hr1 with _ hr1
  injection hr2 with hr2 hr3
  injection hr2 with _ hr2
  injection hr3 with hr3 _
  injection hr3 with _ hr3
  subst hr1;subst hr2;subst hr3
  have hb33:(Int.ofNat (Wp ls.length ps d x) != Int.ofNat 0)=true:=by simpa using hkd
  rw[hb33] at O31_33
  obtain⟨fD,hD,kD⟩:=draw31_3 (m:=m+2) (Y:=Y) (fr:=J31) (s:=s1) (b:=st.next) (x7:=sG.next+1) V31_4 V31_5 V31_7 B0 B1 B7 (by omega)
  have dD:=kD.1.trans W31
  have hnot:¬ okM ls.length ps (Vq js):=fun h=>hkd (h.1 d x rr hsp)
  have r1:Vf false 1 ((s1.put st.next (.row [.nilsl])).put (st.next+1) (.row [ZI ((Wp ls.length ps d x)),ZI x.1,ZI x.2.1])) (.ptr st.next 0)=some .nilsl:=Vk (x:=[.nilsl]) (by rw[St.get_put,Qe (by omega),St.get_put,Qm rfl]) rfl
  have r2:Vf true 3 ((s1.put st.next (.row [.nilsl])).put (st.next+1) (.row [ZI ((Wp ls.length ps d x)),ZI x.1,ZI x.2.1])) (.ptr (st.next+1) 0)=some (.agg [ZI ((Wp ls.length ps d x)),ZI x.1,ZI x.2.1]):=Wk (by rw[St.get_put,Qm rfl]) rfl
  have kk:Vd st ((s1.put st.next (.row [.nilsl])).put (st.next+1) (.row [ZI ((Wp ls.length ps d x)),ZI x.1,ZI x.2.1])):=(K1.put _ _ (Qw _)).put _ _ (by omega)
  have D4:=kD.g 4 V31_4
  have D5:=kD.g 5 V31_5
  refine⟨_,.nilsl,[ZI ((Wp ls.length ps d x)),ZI x.1,ZI x.2.1],Ve (mf:=wf31) (fr:=fD) t31 rfl (.inl ?q32) dD (by simp only[wf31,amE,D4,D5,r1,r2]),kk,.inr ⟨hnot,rfl,_,_,_,hkd,rfl⟩⟩
  case q32=>
   rw[<-hA28]
   simp only[amE,rQ,rA,wf31,b00,b11,b22,b33,hR29,hR30,hR31,hD,O31_33]
 rw[hr0] at hr
 injection hr with hr1 hr2
 injection hr1 with _ hr1
 injection hr2 with hr2 hr3
 injection hr2 with _ hr2
 injection hr3 with hr3 _
 injection hr3 with _ hr3
 subst hr1;subst hr2;subst hr3
 rw[show (Int.ofNat 0 != Int.ofNat 0)=false from rfl] at O31_33
 have hll:=hl.len
 obtain⟨fD,s2,hD,kD1,kD2,D8,D9,n2,C0,C1,C2,C3,o2⟩:=draw31_4 (m:=m+2) (Y:=Y) (fr:=J31) (st:=s1) (pv:=pv) (N:=N) hk24 hll V31_2
 have kD:Kq [35,36,37,38,39,40,41,42,8,9] J31 fD:=Kq.of kD1 kD2
 have dD:=kD.1.trans W31
 have D1:=kD.g 1 (ag hR31 (ag hR30 V29_1))
 have D2:=kD.g 2 V31_2
 have D4:=kD.g 4 V31_4
 have D5:=kD.g 5 V31_5
 have D6:=kD.g 6 (ag hR31 O30_6)
 have D7:=kD.g 7 V31_7
 have un2:∀ j∈[45,46,47,48,11,49,50,51,52,53,54,55,56,57,58,13,59,60,61,62,63,64,65,66,55],fD.get j=none:=fun j hj=>by
  rw[kD.2 j (by
   simp only[Qx,QI,Xh] at hj
   rcases hj with rfl | rfl | rfl | rfl | rfl | rfl | rfl | rfl | rfl | rfl | rfl | rfl | rfl | rfl | rfl | rfl | rfl | rfl | rfl | rfl | rfl | rfl | rfl | rfl | rfl<;>decide)]
  exact un1 j hj
 -- the range over the map
 have K2:Vd st s2:=⟨by omega,fun j hj=>(o2 j (by have:=K1.1;omega)).trans (K1.2 j hj)⟩
 have gA2:s2.get (sA.next+2)=some (.map (esP PL)):=by rw[o2 _ (by have:=hg.lim;omega),k1.2 _ (by have:=hg.lim;omega)];exact hg.all
 have l62:Vf false 1 s2 (.ptr sG.next 0)=some (.map (sA.next+2)):=Vk ((o2 _ (by omega)).trans B6) rfl
 have rg:rngA s2 (.map (sA.next+2))=some (.ptr s2.next 0,(s2.put (sA.next+2) (.fmap (esP PL))).new (.iter (sA.next+2) [])):=by unfold rngA;simp only[gA2]
 obtain⟨s3,hs3⟩:∃ s3,s3=(s2.put (sA.next+2) (.fmap (esP PL))).new (.iter (sA.next+2) []):=⟨_,rfl⟩
 rw[<-hs3] at rg
 have n3:s3.next=s2.next+1:=by rw[hs3];rfl
 have o3:∀ j,j < s2.next->j≠sA.next+2->s3.get j=s2.get j:=fun j h1 h2=>by rw[hs3,St.get_new,Qe (by show j≠s2.next;omega),St.get_put,Qe h2]
 have I3:s3.get s2.next=some (.iter (sA.next+2) []):=by rw[hs3,St.get_new];exact Qm rfl
 obtain⟨gl1,gl2,gl3⟩:=hg.lim
 have hP3:PrSt (sA.next+2) (sA.next+8) sG.next (Vq js) s3 PL:=by
  refine⟨by rw[hs3,St.get_new,Qe (by show _≠s2.next;omega),St.get_put,Qm rfl],hg.prs,fun x hx=>?_,hg.ids,by omega⟩
  obtain⟨xa,xb,xc,xd,xf,xg,xu,xv⟩:=hg.one x hx
  exact⟨xa,xb,by rw[o3 _ (by omega) (by omega),o2 _ (by omega),k1.2 _ xu];exact xc,by rw[o3 _ (by omega) (by omega),o2 _ (by omega),k1.2 _ xv];exact xd,xf,xg,xu,xv⟩
 have hfitE:YP (ens (Vq js)):=hfit.fitE fun z hz=>by
  obtain⟨g1,_⟩:=hgood z hz
  unfold En.good at g1
  simp only[Qd,QF] at g1
  exact⟨((Tb _).1 g1.1.1.1.1.1.1).1,g1.1.2⟩
 have hPLm:∀ x∈PL,(x.p,x.i,x.e)∈Vq js:=fun x hx=>X9 (hg.one x hx).1
 have hleaf:∀ x∈PL,∀ c∈x.cl,0<=c.1/\c.1 < (ls.length:Int):=fun x hx c hc=>by
  rw[(hg.one x hx).2.1] at hc
  obtain⟨e,he,e1,e2,e3⟩:=clE_mem.1 hc
  obtain⟨z,hz,rfl⟩:=Q6.1 he
  obtain⟨a,bb,hab⟩:=Z7 hz
  have h1:=Ut (hfit a z bb hab)
  obtain⟨g1,_⟩:=hgood z hz
  unfold En.good at g1
  simp only[Qd,QF] at g1
  rw[<-e2]
  exact⟨((Tb _).1 g1.1.1.1.1.1.1).1,h1.1⟩
 have hclb:∀ x∈PL,x.cl.length<=4000:=fun x hx=>by rw[(hg.one x hx).2.1];exact QY (clE_le _ _) hens
 have hclne:∀ x∈PL,x.cl≠[]:=fun x hx=>by
  rw[(hg.one x hx).2.1]
  exact clE_ne ((YK _ _).2 ⟨x.e,Q6.2 ⟨_,hPLm x hx,rfl⟩,rfl⟩)
 have hpl:∀ l:List En,(V6 l).length<=l.length:=fun l=>by
  induction l using JS with
  | nil=>simp[V6]
  | snoc l x ih=>
   rw[Yp]
   split
   ·simp;omega
   ·simp;omega
 have hPLn:PL.length<=4000:=by
  have h1:=Xn List.length hg.prs
  rw[Qu] at h1
  have:=hpl (ens (Vq js))
  omega
 obtain⟨J33,hR33,kR33,O33_44⟩:∃ fr',ar (m+2) Y wg31_5 fD s2=.ok fr' s3/\Kq [44,43] fD fr'/\fr'.get 44=some (.ptr s2.next 0):=⟨_,by simp only[amE,rQ,rA,D6,wg31_5,l62,rg,OpR.of2,nd_rng]<;>rfl,Kq.refl.s.s,gh⟩
 have V33_1:=kR33.g 1 D1
 have V33_2:=kR33.g 2 D2
 have V33_4:=kR33.g 4 D4
 have V33_5:=kR33.g 5 D5
 have V33_6:=kR33.g 6 D6
 have V33_7:=kR33.g 7 D7
 have V33_8:=kR33.g 8 D8
 have V33_9:=kR33.g 9 D9
 have W33:=kR33.1.trans dD
 have un3:∀ j∈[45,46,47,48,11,49,50,51,52,53,54,55,56,57,58,13,59,60,61,62,63,64,65,66,55],J33.get j=none:=fun j hj=>by
  rw[kR33.2 j (by
   simp only[Qx,QI,Xh] at hj
   rcases hj with rfl | rfl | rfl | rfl | rfl | rfl | rfl | rfl | rfl | rfl | rfl | rfl | rfl | rfl | rfl | rfl | rfl | rfl | rfl | rfl | rfl | rfl | rfl | rfl | rfl<;>decide)]
  exact un2 j hj
 obtain⟨fM,s4,hM,kM1,kM2,hP4,T4,n4,o4⟩:=total31 (m:=m+2) (Y:=Y) (ro:=none) (fr:=J33) (s:=s3) (tp:=s1.next+3) (T:=s1.next+1) (id0:=s2.next) (k:=ls.length) hP3 I3 ((o3 _ (by omega) (by omega)).trans C3) ((o3 _ (by omega) (by omega)).trans C1)
  (by omega) (by omega) (by omega) (by omega) (by omega) (by omega) ⟨by omega,by omega,by omega⟩ (by omega) hleaf hclb hclne hPLn (by omega) O33_44 V33_9 (fun j hj=>un3 j (by
   simp only[Qx,QI,Xh] at hj ⊢
   omega))
 have kM:Kq [44,45,46,47,48,11,49,50,51,52,53,54,55,56,57,58,13,59,60,61,62,63,64,65,66,55] J33 fM:=Kq.of kM1 kM2
 have dM:=kM.1.trans W33
 have M1:=kM.g 1 V33_1
 have M2:=kM.g 2 V33_2
 have M4:=kM.g 4 V33_4
 have M5:=kM.g 5 V33_5
 have M6:=kM.g 6 V33_6
 have M7:=kM.g 7 V33_7
 have M8:=kM.g 8 V33_8
 have M9:=kM.g 9 V33_9
 have T4':s4.get (s1.next+1)=some (.row (Vw ls.length fun i=>VF (ens (Vq js)) i)):=by
  rw[T4]
  congr 2
  refine Xn (Vw ls.length) (funext fun i=>?_)
  have h1:PL.flatMap (·.cl)=(V6 (ens (Vq js))).flatMap (clE (ens (Vq js))):=by
   rw[<-hg.prs,List.flatMap_map,Zf,Zf]
   exact Xn List.flatten (QX fun x hx=>(hg.one x hx).2.1)
  rw[h1]
  exact(all_claims _ _ (Wu _) (fun e he=>(YK _ _).2 ⟨e,he,rfl⟩)).2 i
 have E6:s4.get sG.next=some (.row [.map (sA.next+2)]):=by rw[o4 _ (by omega) (by omega) (by omega),o3 _ (by omega) (by omega),o2 _ (by omega)];exact B6
 have l64:Vf false 1 s4 (.ptr sG.next 0)=some (.map (sA.next+2)):=Vk E6 rfl
 have c71:((gT (m+2)).cg Y).fn 71 [.map (sA.next+2)] s4=.ret (.func (.func 118) [] [.ptr s4.next 0]) (s4.new (.row [.map (sA.next+2)])):=keys71_run (sA.next+2) (m+1) Y s4
 have hdupP:(PL.map fun x=>x.e.prop).Nodup:=by rw[hg.prs];exact Wu _
 have hokp:∀ x∈PL,okN x.e.prop=true:=fun x hx=>by
  obtain⟨g1,_⟩:=hgood _ (hPLm x hx)
  unfold En.good at g1
  simp only[Qd,QF] at g1
  exact g1.1.1.1.1.2
 obtain⟨lv0,s5,c70,hlf5,n5,o5,hx5,hz5⟩:=sorted70_run (PL:=PL) (A:=sA.next+2) (c:=s4.next) (st:=s4.new (.row [.map (sA.next+2)])) (by rw[St.get_new,Qm rfl]) (by rw[St.get_new,Qe (by omega)];exact hP4.all) hokp hdupP hPLn (m+1) Y
 have c70:((gT (m+2)).cg Y).fn 70 [.func (.func 118) [] [.ptr s4.next 0]] (s4.new (.row [.map (sA.next+2)]))=.ret lv0 s5:=c70
 rw[hg.prs] at hlf5 hx5 hz5
 have n5':s4.next+1<=s5.next:=n5
 have o5':∀ j,j < s4.next->s5.get j=s4.get j:=fun j hj=>by rw[o5 j (by show j < s4.next+1;omega),St.get_new,Qe (by omega)]
 have hlv0:lv0.cells=[lv0]/\AV.one lv0=true:=by
  rcases hlf5 with⟨h,_⟩|⟨_,_,h,_,_⟩<;>rw[h]<;>exact⟨rfl,rfl⟩
 have st5:Vt 1 (s5.new (.row [.nilsl])) (.ptr s5.next 0) lv0=some ((s5.new (.row [.nilsl])).put s5.next (.row [lv0])):=V4 (x:=[.nilsl]) (by rw[St.get_new,Qm rfl]) (by rw[hlv0.1];rfl) (by rw[hlv0.1];rfl) (by simp) (by rw[hlv0.1];simp[hlv0.2])
 obtain⟨s6,hs6⟩:∃ s6,s6=(s5.new (.row [.nilsl])).put s5.next (.row [lv0]):=⟨_,rfl⟩
 rw[<-hs6] at st5
 have n6:s6.next=s5.next+1:=by rw[hs6];rfl
 have G14:s6.get s5.next=some (.row [lv0]):=by rw[hs6,St.get_put,Qm rfl]
 have o6:∀ j,j < s5.next->s6.get j=s5.get j:=fun j hj=>by rw[hs6,St.get_put,Qe (by omega),St.get_new,Qe (by omega)]
 have o46:∀ j,j < s4.next->s6.get j=s4.get j:=fun j hj=>(o6 j (by omega)).trans (o5' j hj)
 obtain⟨lid,hlf6,li1,li2,li3⟩:∃ lid,LfS s6 lv0 lid (Wn (V6 (ens (Vq js))))/\s4.next<=lid/\lid≠s5.next/\lid < s6.next:=by
  by_cases h0:Wn (V6 (ens (Vq js)))=[]
  ·exact⟨s4.next,.inl ⟨hz5 h0,h0⟩,Qw _,by omega,by omega⟩
  ·have:=hx5 h0
   exact⟨s4.next+1,hlf5.keep (o6 _ this),by omega,by show s4.next+1≠s5.next;exact Nat.ne_of_lt this,by have h:s4.next+1 < s5.next:=this;omega⟩
 obtain⟨J34,hR34,O34_14⟩:∃ fr',ar (m+2) Y wg31_12 fM s4=.ok fr' s6/\fr'.get 14=some (.ptr s5.next 0):=⟨_,by simp only[amE,rQ,rA,M6,wg31_12,l64,c71,c70,st5]<;>rfl,gh⟩
 have V34_6:=ag hR34 M6
 have V34_8:=ag hR34 M8
 have V34_9:=ag hR34 M9
 obtain⟨J35,hR35,O35_15⟩:∃ fr',ar (m+2) Y wg31_13 J34 s6=.ok fr' s6/\fr'.get 15=some (.func (.func 72) [] [.ptr sG.next 0,.ptr (s1.next+2) 0,.ptr (s1.next+3) 0]):=⟨_,by simp only[amE,rQ,rA,V34_6,V34_8,V34_9,wg31_13,Q4,QZ,Jy]<;>rfl,gh⟩
 obtain⟨J36,hR36,O36_16⟩:∃ fr',ar (m+2) Y wg31_14 J35 s6=.ok fr' s6/\fr'.get 16=some (.nilsl):=⟨_,by simp only[amE,rQ,rA,wg31_14]<;>rfl,gh⟩
 have V36_14:=ag hR36 (ag hR35 O34_14)
 have hP6:PrSt (sA.next+2) (sA.next+8) sG.next (Vq js) s6 PL:=hP4.keep fun j hj=>o46 j (by omega)
 have q36:∀ j,j < s2.next->j≠sA.next+2->j≠s1.next+1->s6.get j=s2.get j:=fun j h1 h2 h3=>by rw[o46 j (by omega),o4 j (by omega) (by omega) h3,o3 j h1 h2]
 obtain⟨fL,s7,ov,PS,lv7,hL,kL,L16,hov,hPSp,hPSm,G147,hlf7,n7,o7⟩:=loop31_run (m:=m+2) (Y:=Y) (ro:=none) (fr0:=J36) (s0:=s6) (A:=sA.next+2) (lim:=sA.next+8) (hi:=sG.next) (d:=Vq js) (PL:=PL) (x6:=sG.next) (x8:=s1.next+2) (x9:=s1.next+3) (x14:=s5.next) (Th:=s1.next) (Tt:=s1.next+1) (lid:=lid) (k:=ls.length) (lv0:=lv0) (L0:=Wn (V6 (ens (Vq js)))) hP6
  ((o46 _ (by omega)).trans E6) ((q36 _ (by omega) (by omega) (by omega)).trans C2) ((q36 _ (by omega) (by omega) (by omega)).trans C3) ((q36 _ (by omega) (by omega) (by omega)).trans C0) ((o46 _ (by omega)).trans T4') G14 hlf6 (WA _)
  (fun x hx=>by
   obtain⟨g1,g2⟩:=hgood _ (hPLm x hx)
   unfold En.good at g1
   simp only[Qd,QF] at g1
   exact⟨g2,g1.1.2⟩) hleaf hens (by omega) ⟨by omega,by omega,by omega,by omega,by omega,by omega,fun _=>li3,by omega⟩ ⟨by omega,by omega,by omega,by omega,by omega,by omega,by omega,by omega⟩ ⟨by omega,by omega,by omega,by omega,by omega,by omega⟩ ⟨by omega,by omega,by omega,by omega,by omega⟩ ⟨by omega,by omega,by omega,by omega⟩
  (ag hR36 (ag hR35 V34_6)) (ag hR36 (ag hR35 V34_8)) (ag hR36 (ag hR35 V34_9)) V36_14 (ag hR36 O35_15) O36_16
 have dL:=kL.1.trans (ad hR36 (ad hR35 (ad hR34 dM)))
 have L1:=kL.g 1 (ag hR36 (ag hR35 (ag hR34 M1)))
 have L2:=kL.g 2 (ag hR36 (ag hR35 (ag hR34 M2)))
 have L4:=kL.g 4 (ag hR36 (ag hR35 (ag hR34 M4)))
 have L5:=kL.g 5 (ag hR36 (ag hR35 (ag hR34 M5)))
 have L14:=kL.g 14 V36_14
 change PS.map (fun x=>x.e.prop)=(Yb (Vq js)).2 at hPSp
 change LfS s7 lv7 lid (Yb (Vq js)).1 at hlf7
 have hpo:=UL hfitE (Wn (V6 (ens (Vq js)))).length (Wn (V6 (ens (Vq js)))) [] (by rw[QG];exact(WA _).nodup_iff.2 (Wu _)) (Y9.nil _) (YB.nil _)
 have hpm:((Yb (Vq js)).1++(Yb (Vq js)).2).Perm (V6 (ens (Vq js))):=hpo.2.2.trans (by rw[QG];exact WA _)
 have hlen7:((Yb (Vq js)).1).length<=4000:=by
  have h1:=hpm.length_eq
  rw[QJ] at h1
  have:=hpl (ens (Vq js))
  omega
 have hPS4:PS.length<=4000:=by
  have h1:=hpm.length_eq
  rw[QJ,<-hPSp,Qu] at h1
  have:=hpl (ens (Vq js))
  omega
 have l147:Vf false 1 s7 (.ptr s5.next 0)=some lv7:=Vk G147 rfl
 have len7:(bif VD 0 lv7 then Wm s7 lv7 else none)=some (ZI (((Yb (Vq js)).1).length)):=SlI.len (hlf7.sl (by omega)) s7
 have hgt:=gtrN ((Yb (Vq js)).1).length 0
 have F0:s7.get st.next=some (.row [.nilsl]):=by rw[o7 _ (by omega) (by omega) (by omega) (by omega),q36 _ (by omega) (by omega) (by omega),o2 _ (by omega)];exact B0
 have F1:s7.get (st.next+1)=some (.row [Z0,Z0,Z0]):=by rw[o7 _ (by omega) (by omega) (by omega) (by omega),q36 _ (by omega) (by omega) (by omega),o2 _ (by omega)];exact B1
 have K7:Vd st s7:=⟨by omega,fun j hj=>by rw[o7 _ (by omega) (by omega) (by omega) (by omega),q36 _ (by omega) (by omega) (by omega)];exact K2.2 j hj⟩
 by_cases hle:(Yb (Vq js)).1=[]
 case neg=>
  have hpos:0 < ((Yb (Vq js)).1).length:=Z2.2 hle
  rw[Qs hpos] at hgt
  have hnot:¬ okM ls.length ps (Vq js):=fun h=>hle h.2
  have e65:((gT (m+2)).cg Y).fn 65 [jv] s7=.ret (.func (.func 107) [] [.ptr s7.next 0]) (s7.new (.row [jv])):=S6 jv hone (m+1) Y _
  have S7:Vs F st (s7.new (.row [jv])):=Vs.of (K7.trans (Vd.new _ _)) hF
  obtain⟨J37,hR37,O37_111⟩:∃ fr',ar (m+2) Y wg31_25 fL s7=.ok fr' s7/\fr'.get 111=some (.bool true):=⟨_,by simp only[amE,rQ,rA,L14,wg31_25,l147,len7,hgt]<;>rfl,gh⟩
  have V37_1:=ag hR37 L1
  obtain⟨J38,hR38,O38_113⟩:∃ fr',ar (m+2) Y wg31_26 J37 s7=.ok fr' (s7.new (.row [jv]))/\fr'.get 113=some (.func (.func 107) [] [.ptr s7.next 0]):=⟨_,by simp only[amE,rQ,rA,V37_1,wg31_26,e65]<;>rfl,gh⟩
  have V38_4:=ag hR38 (ag hR37 L4)
  have V38_5:=ag hR38 (ag hR37 L5)
  have W38:=ad hR38 (ad hR37 dL)
  have hlid7:lid < s7.next:=by omega
  obtain⟨s8,pp,ii,hR,R0,R1,n8,o8⟩:=circle31_run (left:=(Yb (Vq js)).1) (lid:=lid) (lv:=lv7) (b:=st.next) (x14:=s5.next) (c:=s7.next) (fr:=J38) (s:=s7.new (.row [jv])) hj (m+1) Y (by omega) S7 (by rw[St.get_new,Qe (by omega)];exact F0) (by rw[St.get_new,Qe (by omega)];exact F1) (by rw[St.get_new,Qe (by omega)];exact G147) (by rw[St.get_new,Qm rfl]) (hlf7.keep (by rw[St.get_new,Qe (by omega)])) hlen7 hle
   (fun q hq=>hpm.mem_iff.1 (XC _ hq)) (fun i hi=>by have:=hF i hi;show i < s7.next+1;omega) ⟨by show _ < s7.next+1;omega,by show _ < s7.next+1;omega,by show _ < s7.next+1;omega,by show _ < s7.next+1;omega⟩ V38_4 V38_5 (ag hR38 (ag hR37 L14)) O38_113
  obtain⟨FS,hFS⟩:∃ FS:Fr,FS={ J38 with ds:=.coll::J38.ds }:=⟨_,rfl⟩
  rw[<-hFS] at hR
  have F4:FS.get 4=some (.ptr st.next 0):=by rw[hFS];exact V38_4
  have F5:FS.get 5=some (.ptr (st.next+1) 0):=by rw[hFS];exact V38_5
  have dS:FS.ds=[.coll]:=by rw[hFS,W38]
  have r1:Vf false 1 s8 (.ptr st.next 0)=some .nilsl:=Vk R0 rfl
  have r2:Vf true 3 s8 (.ptr (st.next+1) 0)=some (.agg [ZI 4,ZI pp,ZI ii]):=Wk R1 rfl
  have kk:Vd st s8:=⟨by have h:s7.next+1<=s8.next:=n8;omega,fun j hj=>by rw[o8 j (by show j < s7.next+1;omega) (by omega) (by omega),St.get_new,Qe (by omega)];exact K7.2 j hj⟩
  refine⟨_,.nilsl,[ZI 4,ZI pp,ZI ii],fun_of2 (mf:=wf31) (fr:=FS) t31 rfl (.inl ?q39) (coll_one dS) (by simp only[wf31,amE,F4,F5,r1,r2]),kk,.inr ⟨hnot,rfl,4,pp,ii,by omega,rfl⟩⟩
  case q39=>
   rw[<-hA28]
   simp only[amE,rQ,rA,wf31,b00,b11,b22,b33,b44,b88,hR29,hR30,hR31,hD,hR33,hM,hR34,hR35,hR36,hL,hR37,hR38,hR,O31_33,O37_111]
 rw[hle] at hgt len7
 rw[Qp (by simp)] at hgt
 have hP7:PrSt (sA.next+2) (sA.next+8) sG.next (Vq js) s7 PL:=hP6.keep fun j hj=>o7 j (by omega) (by omega) (by omega) (by omega)
 have hdupS:(PS.map fun x=>x.e.prop).Nodup:=by
  rw[hPSp]
  exact(QS.1 (hpm.nodup_iff.2 (Wu _))).2.1
 have lenO:(bif VD 0 ov then Wm s7 ov else none)=some (ZI PS.length):=by
  rcases hov with⟨h1,h2⟩|⟨oid,_,_,h3,_⟩
  ·rw[h1,h2];rfl
  ·rw[h3];rfl
 obtain⟨J40,hR40,O40_111⟩:∃ fr',ar (m+2) Y wg31_25 fL s7=.ok fr' s7/\fr'.get 111=some (.bool false):=⟨_,by simp only[amE,rQ,rA,L14,wg31_25,l147,len7,hgt,X2]<;>rfl,gh⟩
 have V40_16:=ag hR40 L16
 obtain⟨J41,hR41,O41_122,O41_123,O41_124⟩:∃ fr',ar (m+2) Y wg31_31 J40 s7=.ok fr' s7/\fr'.get 122=some (ov)/\fr'.get 123=some (ZI PS.length)/\fr'.get 124=some Z0:=⟨_,by simp only[amE,rQ,rA,V40_16,wg31_31,lenO]<;>rfl,gn (gn gh),gn gh,gh⟩
 obtain⟨fS,s8,hS,kS,n8,o8,hS8⟩:=sorts31_run (m:=m+2) (Y:=Y) (ro:=none) (fr0:=J41) (s0:=s7) hP7 hov (by omega) hPSm hdupS (fun x hx=>⟨by rw[(hg.one x hx).2.1];exact leaf_nodup hfitE _,hclb x hx⟩) (by omega) hPS4 O41_122 O41_123 O41_124
 have dS:=kS.1.trans (ad hR41 (ad hR40 dL))
 have S4:=kS.g 4 (ag hR41 (ag hR40 L4))
 have S5:=kS.g 5 (ag hR41 (ag hR40 L5))
 have S16:=kS.g 16 (ag hR41 V40_16)
 have hcid:∀ x∈PS,sA.next+8<=x.cid/\x.cid < sG.next:=fun x hx=>by
  obtain⟨_,_,_,_,_,xg,_,xv⟩:=hP7.one x (hPSm x hx)
  exact⟨xg,xv⟩
 have H0:s8.get st.next=some (.row [.nilsl]):=by rw[o8 _ fun x hx=>by have:=hcid x hx;omega];exact F0
 have H1:s8.get (st.next+1)=some (.row [Z0,Z0,Z0]):=by rw[o8 _ fun x hx=>by have:=hcid x hx;omega];exact F1
 have hovc:ov.cells=[ov]/\AV.one ov=true:=by
  rcases hov with⟨h,_⟩|⟨_,_,_,h,_⟩<;>rw[h]<;>exact⟨rfl,rfl⟩
 have t1:Vt 1 s8 (.ptr st.next 0) ov=some (s8.put st.next (.row [ov])):=V4 H0 (by rw[hovc.1];rfl) (by rw[hovc.1];rfl) (by simp) (by rw[hovc.1];simp[hovc.2])
 have t2:Vt 3 (s8.put st.next (.row [ov])) (.ptr (st.next+1) 0) (.agg [Z0,Z0,Z0])=some ((s8.put st.next (.row [ov])).put (st.next+1) (.row [Z0,Z0,Z0])):=V4 (by rw[St.get_put,Qe (by omega)];exact H1) rfl rfl (by simp) rfl
 have r1:Vf false 1 ((s8.put st.next (.row [ov])).put (st.next+1) (.row [Z0,Z0,Z0])) (.ptr st.next 0)=some ov:=Vk (x:=[ov]) (by rw[St.get_put,Qe (by omega),St.get_put,Qm rfl]) rfl
 have r2:Vf true 3 ((s8.put st.next (.row [ov])).put (st.next+1) (.row [Z0,Z0,Z0])) (.ptr (st.next+1) 0)=some (.agg [Z0,Z0,Z0]):=Wk (by rw[St.get_put,Qm rfl]) rfl
 have o9:∀ j,j≠st.next->j≠st.next+1->((s8.put st.next (.row [ov])).put (st.next+1) (.row [Z0,Z0,Z0])).get j=s8.get j:=fun j h1 h2=>by rw[St.get_put,Qe h2,St.get_put,Qe h1]
 have n9:((s8.put st.next (.row [ov])).put (st.next+1) (.row [Z0,Z0,Z0])).next=s7.next:=n8
 generalize (s8.put st.next (.row [ov])).put (st.next+1) (.row [Z0,Z0,Z0])=s9 at t2 r1 r2 o9 n9
 have kk:Vd st s9:=⟨by omega,fun j hj=>by rw[o9 j (by omega) (by omega),o8 _ fun x hx=>by have:=hcid x hx;omega];exact K7.2 j hj⟩
 have hfin:JU st.next s9 ov PS/\∀ x∈PS,PrM (Vq js) st.next s9 x:=by
  refine⟨?_,fun x hx=>?_⟩
  ·rcases hov with h|⟨oid,p1,p2,p3,p4⟩
   ·exact .inl h
   ·exact .inr ⟨oid,by omega,by omega,p3,by rw[o9 _ (by omega) (by omega),o8 _ fun x hx=>by have:=hcid x hx;omega];exact p4⟩
  ·obtain⟨xa,xb,xc,xd,xf,xg,xu,xv⟩:=hP7.one x (hPSm x hx)
   refine⟨xa,xb,?_,by rw[o9 _ (by omega) (by omega)];exact hS8 x hx,by omega,by omega,by omega,by omega⟩
   rw[o9 _ (by omega) (by omega),o8 _ fun y hy=>?_]
   ·exact xc
   ·by_cases hxy:x=y
    ·subst hxy
     have key:∀ l:List Pr,(l.flatMap fun x=>[x.id,x.cid]).Nodup->x∈l->x.id≠x.cid:=by
      intro l
      induction l with
      | nil=>intro _ h;simp at h
      | cons z l ih=>
       intro hn hx
       rw[Xa,QS] at hn
       rcases Qx.1 hx with h | h
       ·rw[h];simpa using hn.1
       ·exact ih hn.2.1 h
     exact key PL hg.ids (hPSm x hx)
    ·have hne:x.e.prop≠y.e.prop:=fun he=>hxy (by
      have hx1:=Sk hdupP (hPSm x hx)
      have hy1:=Sk hdupP (hPSm y hy)
      rw[he] at hx1
      rw[hx1] at hy1;injection hy1)
     exact(hg.ne (hPSm x hx) (hPSm y hy) hne).2.1
 obtain⟨J42,hR42⟩:∃ fr',ar (m+2) Y wg31_36 fS s8=.ok fr' s9:=⟨_,by simp only[amE,rQ,rA,S4,S5,S16,wg31_36,build3z,t1,t2]<;>rfl⟩
 have V42_4:=ag hR42 S4
 have V42_5:=ag hR42 S5
 refine⟨_,ov,[Z0,Z0,Z0],Ve (mf:=wf31) (fr:=J42) t31 rfl (.inl ?q42) (ad hR42 dS) (by simp only[wf31,amE,V42_4,V42_5,r1,r2]),kk,.inl ⟨⟨hfit,hle⟩,rfl,PS,hPSp,hfin.1,hfin.2⟩⟩
 case q42=>
  rw[<-hA28]
  simp only[amE,rQ,rA,wf31,b00,b11,b22,b33,b44,bAA,b88,hR29,hR30,hR31,hD,hR33,hM,hR34,hR35,hR36,hL,hR40,hR41,hS,hR42,O31_33,O40_111]
noncomputable section
open Nat renaming reduceEqDiff -> rQ, reduceAdd -> rA
theorem avPtr(i o:Nat):V8 (.ptr i o) (.ptr i o)=true:=by simp only[V8,QD,Bool.and_self]
theorem bu3(a b:Int){v:AV}(hv:AV.one v=true):VN [Z0,Z0,.nilsl] [(0,1,.int .i64 a),(1,1,.int .i64 b),(2,1,v)]=some [.int .i64 a,.int .i64 b,v]:=by
 have h:=one_cells hv
 have h1:(AV.int .i64 a).cells=[.int .i64 a]:=rfl
 have h2:(AV.int .i64 b).cells=[.int .i64 b]:=rfl
 simp[VN,h,h1,h2,setCells,Nat.ble]
def wg98_0:List Vc:=[ZM 2 (.c .nilsl)]
def wg98_1:List Vc:=[ZM 3 (.c .nilsl)]
def wg98_2:List Vc:=[ZV 6 0,ZN 7 6,ZM 8 (ZC 0)]
def wg98_3:List Vc:=[ZO 9 (.bin false .lss (.t 8) (.t 7))]
def wg98_4:List Vc:=[ZP 10 3 6 8,ZK 11 3 10,ZO 5 (.alloc [Z0,Z0,.nilsl]),ZS 3 5 11]
def Tx:List (Vc × Nat):=[(ZV 12 3,0),(ZA 13 0 5,0),(ZL 14 13,2),(ZA 15 1 5,0),(ZL 16 15,8),(ZA 17 2 5,0),(ZL 18 17,32),(ZX 19 98 [(.t 18)],96),(ZO 20 (.build [Z0,Z0,.nilsl] [(0,1,(.t 14)),(1,1,(.t 16)),(2,1,(.t 19))]),254),(ZO 21 (.bslice 1 [Z0,Z0,.nilsl] [(0,3,(.t 20))]),510),(ZO 22 (.append 40 3 none (.t 12) (.t 21)),1023),(ZV 3 22,2047)]
def wg98_6:List Vc:=[ZO 23 (.bin false .add (.t 8) (ZC 1)),ZV 8 23]
def wg98_7:List Vc:=[ZV 24 3,ZV 2 24]
def TB:Vn:=(ZQ wg98_3 (.seq (.cond (.t 9) .skip (.exit 0)) (.seq (.block 1 (ZQ wg98_4 (.draw Tx [(2,some 7),(2,some 10),(4,some 7),(4,some 10)]))) (.region wg98_6))))
def wf98:Vm:=⟨25,(ZQ wg98_0 (ZQ wg98_1 (.seq (ZQ wg98_2 (.block 0 (.loop TB))) (ZR wg98_7)))),[.t 2]⟩
theorem t98:tbl 98=some wf98:=by kernel_rfl
theorem terms98_run:∀(n:Nat) (l:List Tm) (m:Nat) (Y:Vi),Tm.fzL l+l.length=n->n+2 < m->shL l=true->l.length<=1000->∀(F:Nat->Prop) (st:St) (sl:AV) (xs:List (List AV)),SlR F st sl xs->Vy F st l xs->(∀ i,F i->i < st.next) ->
  ∃ sl' xs' st',R m Y 98 [sl] st=.ret sl' st'/\Vd st st'/\SlR (fun i=>st.next<=i/\i < st'.next) st' sl' xs'/\Vy (fun i=>st.next<=i/\i < st'.next) st' l xs':=by
 intro n
 induction n using Nat.strongRecOn with
 | _ n ih=>
 intro l m' Y hs hn hsh hlen F st sl xs hsl hrs hF
 obtain⟨m,rfl⟩:∃ m,m'=m+1:=⟨m' - 1,by omega⟩
 have hxl:=hrs.len
 have hln:=hsl.len st
 have hL:∀(fr:Fr),fr.ds=[]->fr.get 3=some .nilsl->fr.get 6=some sl->fr.get 7=some (ZI xs.length)->fr.get 8=some Z0 ->
   ∃ FR s' so xo G,Vx (ac m Y TB none) m fr st=.exit 0 FR s'/\FR.ds=[]/\FR.get 3=some so/\Vd st s'/\xo.length=xs.length/\Vy G s' l xo/\Gr st.next s' so xo G:=by
  intro fr d0 g3 g6 g7 g8
  refine Ws (B:=ac m Y TB none) (N:=xs.length) (Inv:=fun k f s=>f.ds=[]/\f.get 6=some sl/\f.get 7=some (ZI xs.length)/\f.get 8=some (ZI k)/\Vd st s/\∃ so xo G,f.get 3=some so/\xo.length=k/\Vy G s (l.take k) xo/\Gr st.next s so xo G)
   (Out:=fun r=>∃ FR s' so xo G,r=.exit 0 FR s'/\FR.ds=[]/\FR.get 3=some so/\Vd st s'/\xo.length=xs.length/\Vy G s' l xo/\Gr st.next s' so xo G) ?_ xs.length 0 fr st m (by omega) (by omega) ⟨d0,g6,g7,g8,Vd.refl st,.nilsl,[],_,g3,rfl,by simp[Vy],Gr.nil _ _⟩
  intro k f s hk ⟨d0,q6,q7,q8,hks,so,xo,G,q3,hxo,hro,hgr⟩
  have hlt:=Wt k xs.length
  by_cases hkN:k < xs.length
  ·obtain⟨t,ht,hdr⟩:=WR (l:=l) (k:=k) (by omega)
   obtain⟨x,hx,hrx⟩:=hrs.at ht
   have hsame:Vs F st s:=Vs.of hks hF
   obtain⟨p,ia,ld⟩:=hsl.at hx
   have ld:=ld s hsame
   obtain⟨s1,sto,ks,go,hnx⟩:=next_el s (zs:=[Z0,Z0,.nilsl]) rfl hrx.cells3
   have hmem:=Qr ht
   have hfz:=Tm.fzL_mem hmem
   have hF1:∀ i,F i->i < s1.next:=fun i hi=>Qz (hF i hi) (QY hks.1 ks.1)
   have hrx1:=hrx.mono (hsame.trans (Vs.of ks fun i hi=>Qz (hF i hi) hks.1)) fun _ h=>h
   have htake:l.take (k+1)=l.take k++[t]:=by rw[QT,ht];rfl
   have hsht:=shL_mem hsh t hmem
   cases t with
   | mk k1 n1 nl1 ex1 l1=>
   simp only[Tm.fz] at hfz
   obtain⟨hl8,hsl1⟩:=shT_mk hsht
   have hrx2:=hrx1
   simp only[We] at hrx2
   obtain⟨slx,xx,rfl,hslx,hrsx⟩:=hrx2
   obtain⟨sl1,x1,s2,hcall,ks2,hsl2,hrs2⟩:=ih (Tm.fzL l1+l1.length) (by omega) l1 m Y rfl (by omega) hsl1 (by omega) F s1 slx xx hslx hrsx hF1
   have hcall':((gT m).cg Y).fn 98 [slx] s1=.ret sl1 s2:=hcall
   have hk02:Vd s s2:=ks.trans ks2
   have o1:=hsl2.one
   obtain⟨so',s3,happ,hk3,hn3,sG,sG2,hgr'⟩:=hgr.app (bytes:=40) (y:=[.int .i64 k1,.int .i64 n1,sl1]) (G2:=fun i=>s1.next<=i/\i < s2.next) hks.1 (by omega) (by omega) hk02 ⟨rfl,by simp only[QN,QW,o1];rfl⟩ (fun i hi=>⟨by have:=ks.1;omega,hi.2⟩)
   have hk03:Vd st s3:=⟨by have:=hks.1;have:=hk02.1;omega,fun i hi=>by
    rw[hk3 i (by have:=hks.1;have:=hk02.1;omega) (fun e=>by
     rcases hgr.2.2 with⟨e',_⟩|⟨id,e',hid,_⟩
     ·rw[e'] at e;cases e
     ·rw[e'] at e;injection e with e1;omega),hk02.2 i (by have:=hks.1;omega),hks.2 i hi]⟩
   have hro':Vy (fun i=>G i\/s1.next<=i/\i < s2.next) s3 (l.take (k+1)) (xo++[[.int .i64 k1,.int .i64 n1,sl1]]):=by
    rw[htake]
    refine Vy.snoc (Vy.mono sG (fun i hi=>.inl hi) _ _ hro) ?_
    simp only[We]
    exact⟨sl1,x1,rfl,hsl2.mono sG2 fun i hi=>.inr hi,Vy.mono sG2 (fun i hi=>.inr hi) _ _ hrs2⟩
   have go2:s2.get s.next=some (.row [.int .i64 k1,.int .i64 n1,slx]):=(ks2.2 _ (by omega)).trans go
   have l0:Vf false 1 s1 (.ptr s.next 0)=some (.int .i64 k1):=Vk go rfl
   have l1':Vf false 1 s1 (.ptr s.next 1)=some (.int .i64 n1):=Vk go rfl
   have l2:Vf false 1 s1 (.ptr s.next 2)=some slx:=Vk go rfl
   have m0:Vf false 1 s2 (.ptr s.next 0)=some (.int .i64 k1):=Vk go2 rfl
   have m1:Vf false 1 s2 (.ptr s.next 1)=some (.int .i64 n1):=Vk go2 rfl
   have bu:=bu3 k1 n1 o1
   have fl:VN [Z0,Z0,.nilsl] [(0,3,.agg [.int .i64 k1,.int .i64 n1,sl1])]=some [.int .i64 k1,.int .i64 n1,sl1]:=rfl
   have had:=WC (i:=k) (by omega)
   rw[Qs hkN] at hlt
   obtain⟨J1,H1,O1_9⟩:∃ fr',ar m Y wg98_3 f s=.ok fr' s/\fr'.get 9=some (.bool true):=⟨_,by simp only[amE,rQ,rA,q7,q8,wg98_3,hlt]<;>rfl,gh⟩
   have V1_6:=ag H1 q6
   have V1_8:=ag H1 q8
   obtain⟨J2,H2,O2_5⟩:∃ fr',ar m Y wg98_4 J1 s=.ok fr' s1/\fr'.get 5=some (.ptr s.next 0):=⟨_,by simp only[amE,rQ,rA,V1_6,V1_8,wg98_4,ia,ld,sto]<;>rfl,gh⟩
   have V2_3:=ag H2 (ag H1 q3)
   obtain⟨J3,H3,K3,O3_3⟩:∃ fr',VK ((gT m).cg Y) Tx [(2,some 7),(2,some 10),(4,some 7),(4,some 10)] J2 s1=.ok fr' s3/\Kp [6,7,8,9,5] J2 fr'/\fr'.get 3=some (so'):=by
    refine⟨?r30,?r31,?r32,?r3o3⟩
    case r31=>
     refine KB (its:=?r3i) ?r3x ?r3y ?r3z
     case r3x=>
      simp only[amE,rQ,rA,WH,WU,DR.cons,V5,VJ,VT,V2_3,O2_5,Tx,faP,l0,l1',l2,m0,m1,hcall',bu,fl,cnt1,happ,tag0]
      rfl
     case r3y=>rfl
     case r3z=>
      simp only[QN,QW,Qy,Qd]
      refine⟨Wo (i:=2) (k:=7) rfl rfl rfl rfl ?r3k0,Wo (i:=2) (k:=10) rfl rfl rfl rfl ?r3k1,Wo (i:=4) (k:=7) rfl rfl rfl rfl ?r3k2,Wo (i:=4) (k:=10) rfl rfl rfl rfl ?r3k3⟩
      case r3k0=>
       right
       refine⟨?r3s0,?r3l0,bint _⟩
       case r3l0=>
        simp only[amE,rQ,rA,V5,V2_3,O2_5,Tx,faP,l0,l1',l2,m0,m1,hcall',bu,fl,cnt1,happ,tag0]
        rfl
      case r3k1=>
       right
       refine⟨?r3s1,?r3l1,bint _⟩
       case r3l1=>
        simp only[amE,rQ,rA,V5,V2_3,O2_5,Tx,faP,l0,l1',l2,m0,m1,hcall',bu,fl,cnt1,happ,tag0]
        rfl
      case r3k2=>
       right
       refine⟨?r3s2,?r3l2,bint _⟩
       case r3l2=>
        simp only[amE,rQ,rA,V5,V2_3,O2_5,Tx,faP,l0,l1',l2,m0,m1,hcall',bu,fl,cnt1,happ,tag0]
        rfl
      case r3k3=>
       right
       refine⟨?r3s3,?r3l3,bint _⟩
       case r3l3=>
        simp only[amE,rQ,rA,V5,V2_3,O2_5,Tx,faP,l0,l1',l2,m0,m1,hcall',bu,fl,cnt1,happ,tag0]
        rfl
    case r32=>repeat (first | exact Kp.refl | refine Kp.set (by decide) ?_)
    case r3o3=>simp only[Fr.get_set,rQ,↓reduceIte]
   have V3_6:=K3.g 6 (ag H2 V1_6)
   have V3_7:=K3.g 7 (ag H2 (ag H1 q7))
   have V3_8:=K3.g 8 (ag H2 V1_8)
   have W3:=K3.1.trans (ad H2 (ad H1 d0))
   obtain⟨J4,H4,O4_8⟩:∃ fr',ar m Y wg98_6 J3 s3=.ok fr' s3/\fr'.get 8=some (ZI ((k+1))):=⟨_,by simp only[amE,rQ,rA,V3_8,wg98_6,had]<;>rfl,gh⟩
   have hI4:ac m Y TB none f s=.norm J4 s3:=by
    simp only[amE,rQ,rA,TB,b00,b11,b22,b33,H1,H2,H3,H4,O1_9]
   rw[hI4]
   exact⟨hkN,(ad H4 W3),(ag H4 V3_6),(ag H4 V3_7),O4_8,hk03,so',_,_,(ag H4 O3_3),by simp[hxo],hro',hgr'⟩
  ·rw[Qp hkN] at hlt
   have hkl:k=xs.length:=by omega
   rw[hkl,hxl,QH] at hro
   obtain⟨J5,H5,O5_9⟩:∃ fr',ar m Y wg98_3 f s=.ok fr' s/\fr'.get 9=some (.bool false):=⟨_,by simp only[amE,rQ,rA,q7,q8,wg98_3,hlt]<;>rfl,gh⟩
   have hI5:ac m Y TB none f s=.exit 0 J5 s:=by
    simp only[amE,rQ,rA,TB,b00,b11,b22,b33,H5,O5_9]
   rw[hI5]
   exact⟨_,_,so,xo,G,rfl,(ad H5 d0),(ag H5 q3),hks,by omega,hro,hgr⟩
 obtain⟨fA6,hA6⟩:∃ fA,fA=Vo 0 [sl] Fr.nil:=⟨_,rfl⟩
 have gA6_0:=gAt hA6 0
 have dA6:fA6.ds=[]:=by rw[hA6];rfl
 obtain⟨J7,H7⟩:∃ fr',ar m Y wg98_0 fA6 st=.ok fr' st:=⟨_,by simp only[amE,rQ,rA,wg98_0]<;>rfl⟩
 obtain⟨J8,H8,O8_3⟩:∃ fr',ar m Y wg98_1 J7 st=.ok fr' st/\fr'.get 3=some (.nilsl):=⟨_,by simp only[amE,rQ,rA,wg98_1]<;>rfl,gh⟩
 have V8_0:=ag H8 (ag H7 gA6_0)
 obtain⟨J9,H9,O9_6,O9_7,O9_8⟩:∃ fr',ar m Y wg98_2 J8 st=.ok fr' st/\fr'.get 6=some (sl)/\fr'.get 7=some (ZI xs.length)/\fr'.get 8=some Z0:=⟨_,by simp only[amE,rQ,rA,V8_0,wg98_2,hln]<;>rfl,gn (gn gh),gn gh,gh⟩
 obtain⟨FR,s',so,xo,G,hL,dF,F3,k3,hxo,hro,hgr⟩:=hL J9 (ad H9 (ad H8 (ad H7 dA6))) (ag H9 O8_3) O9_6 O9_7 O9_8
 obtain⟨J11,H11,O11_2⟩:∃ fr',ar m Y wg98_7 FR s'=.ok fr' s'/\fr'.get 2=some (so):=⟨_,by simp only[amE,rQ,rA,F3,wg98_7]<;>rfl,gh⟩
 refine⟨so,xo,_,Ve (mf:=wf98) (fr:=J11) t98 rfl (.inl ?q11) (ad H11 dF) (by simp only[wf98,amE,O11_2]),k3,hgr.slr (by omega),Vy.mono (Vs.refl _ _) (fun i hi=>hgr.1 i hi) _ _ hro⟩
 case q11=>
  rw[<-hA6]
  simp only[amE,rQ,rA,wf98,b00,b11,b22,b33,H7,H8,H9,hL,H11]
def wg54_0:List Vc:=[ZO 1 (.box true (.t 0)),ZO 2 (.alloc [Z0,.nilsl])]
def wg54_1:List (Vc × Nat):=[(ZA 3 0 1,0),(ZL 4 3,1),(ZA 5 1 1,0),(ZL 6 5,4),(ZX 7 98 [(.t 6)],12),(ZO 8 (.build [Z0,.nilsl] [(0,1,(.t 4)),(1,1,(.t 7))]),31),(ZS 2 2 8,63)]
def wf54:Vm:=⟨9,(ZQ wg54_0 (.seq (.draw wg54_1 [(1,some 4),(1,some 6)]) .ret)),[.cell 2 true 2]⟩
theorem t54:tbl 54=some wf54:=by kernel_rfl
theorem fresh54_run(l:List Tm)(g:Int)(hsh:shL l=true)(hlen:l.length<=1000)(m:Nat)(Y:Vi)(hm:Tm.fzL l+l.length+4 < m)(F:Nat->Prop)(st:St)(sl:AV)(xs:List (List AV))(hsl:SlR F st sl xs)(hrs:Vy F st l xs)(hF:∀ i,F i->i < st.next):
  ∃ sl' xs' st',R (m+1) Y 54 [.agg [.int .i64 g,sl]] st=.ret (.agg [.int .i64 g,sl']) st'/\Vd st st'/\SlR (fun i=>st.next<=i/\i < st'.next) st' sl' xs'/\Vy (fun i=>st.next<=i/\i < st'.next) st' l xs':=by
 have hF1:∀ i,F i->i < (st.new (.row [Z0,.nilsl])).next:=fun i hi=>by have:=hF i hi;simp;omega
 have S0:Vs F st (st.new (.row [Z0,.nilsl])):=Vs.of (Vd.new st _) hF
 obtain⟨sl',xs',s2,hc,k2,h1,h2⟩:=terms98_run _ l m Y rfl (by omega) hsh hlen F _ sl xs (hsl.mono S0 fun _ h=>h) (Vy.mono S0 (fun _ h=>h) _ _ hrs) hF1
 have hc:((gT m).cg Y).fn 98 [sl] (st.new (.row [Z0,.nilsl]))=.ret sl' s2:=hc
 have o1:=h1.one
 have g2:s2.get st.next=some (.row [Z0,.nilsl]):=by rw[k2.2 _ (by simp),St.get_new,Qm rfl]
 have bu:VN [Z0,.nilsl] [(0,1,.int .i64 g),(1,1,sl')]=some [.int .i64 g,sl']:=by
  have h:=one_cells o1
  have h1:(AV.int .i64 g).cells=[.int .i64 g]:=rfl
  simp[VN,h,h1,setCells,Nat.ble]
 have sto:Vt 2 s2 (.ptr st.next 0) (.agg [.int .i64 g,sl'])=some (s2.put st.next (.row [.int .i64 g,sl'])):=V4 g2 rfl rfl (by simp) (by show (AV.one (.int .i64 g)&&(AV.one sl'&&true))=true;rw[o1];rfl)
 have ldr:Vf true 2 (s2.put st.next (.row [.int .i64 g,sl'])) (.ptr st.next 0)=some (.agg [.int .i64 g,sl']):=Wk (by rw[St.get_put,Qm rfl]) rfl
 have kk:Vd st (s2.put st.next (.row [.int .i64 g,sl'])):=((Vd.new st _).trans k2).put _ _ (Qw _)
 have S2:Vs (fun i=>(st.new (.row [Z0,.nilsl])).next<=i/\i < s2.next) s2 (s2.put st.next (.row [.int .i64 g,sl'])):=fun i hi=>by
  rw[St.get_put,Qe (by have h:st.next+1<=i:=hi.1;omega)]
 have hG:∀ i,((st.new (.row [Z0,.nilsl])).next<=i/\i < s2.next)->(st.next<=i/\i < (s2.put st.next (.row [.int .i64 g,sl'])).next):=fun i hi=>⟨by have h:st.next+1<=i:=hi.1;omega,hi.2⟩
 obtain⟨fA12,hA12⟩:∃ fA,fA=Vo 0 [.agg [.int .i64 g,sl]] Fr.nil:=⟨_,rfl⟩
 have gA12_0:=gAt hA12 0
 have dA12:fA12.ds=[]:=by rw[hA12];rfl
 obtain⟨J13,H13,O13_1,O13_2⟩:∃ fr',ar m Y wg54_0 fA12 st=.ok fr' (st.new (.row [Z0,.nilsl]))/\fr'.get 1=some (.fptr [.int .i64 g,sl] 0)/\fr'.get 2=some (.ptr st.next 0):=⟨_,by simp only[amE,rQ,rA,gA12_0,wg54_0]<;>rfl,gn gh,gh⟩
 obtain⟨J14,H14,K14⟩:∃ fr',VK ((gT m).cg Y) wg54_1 [(1,some 4),(1,some 6)] J13 (st.new (.row [Z0,.nilsl]))=.ok fr' (s2.put st.next (.row [.int .i64 g,sl']))/\Kp [0,1,2] J13 fr':=by
  refine⟨?r140,?r141,?r142⟩
  case r141=>
   refine KB (its:=?r14i) ?r14x ?r14y ?r14z
   case r14x=>
    simp only[amE,rQ,rA,WH,WU,DR.cons,V5,VJ,VT,O13_1,O13_2,wg54_1,faF,ld2_0,ld2_1,hc,bu,sto]
    rfl
   case r14y=>rfl
   case r14z=>
    simp only[QN,QW,Qy,Qd]
    refine⟨Wo (i:=1) (k:=4) rfl rfl rfl rfl ?r14k0,Wo (i:=1) (k:=6) rfl rfl rfl rfl ?r14k1⟩
    case r14k0=>
     left
     simp only[amE,rQ,rA,W0,O13_1,O13_2,wg54_1,faF,ld2_0,ld2_1,hc,bu,sto]
    case r14k1=>
     left
     simp only[amE,rQ,rA,W0,O13_1,O13_2,wg54_1,faF,ld2_0,ld2_1,hc,bu,sto]
  case r142=>repeat (first | exact Kp.refl | refine Kp.set (by decide) ?_)
 have V14_2:=K14.g 2 O13_2
 have W14:=K14.1.trans (ad H13 dA12)
 refine⟨sl',xs',_,Ve (mf:=wf54) (fr:=J14) t54 rfl (.inl ?q14) W14 (by simp only[wf54,amE,V14_2,ldr]),kk,h1.mono S2 hG,Vy.mono S2 hG _ _ h2⟩
 case q14=>
  rw[<-hA12]
  simp only[amE,rQ,rA,wf54,b00,b11,b22,b33,H13,H14]
def wg80_0:List Vc:=[ZO 1 (.box true (.t 0)),ZO 2 (.alloc [Z0,.nilsl,.nilsl])]
def Ti:List (Vc × Nat):=[(ZA 6 0 1,0),(ZL 7 6,1),(ZA 8 1 1,0),(ZL 9 8,4),(ZX 10 98 [(.t 9)],12),(ZO 11 (.build [Z0,.nilsl,.nilsl] [(0,1,(.t 7)),(1,1,(.t 10))]),31),(ZO 3 (.alloc [Z0,.nilsl,.nilsl]),0),(ZS 3 3 11,127)]
def wg80_2:List Vc:=[ZA 12 2 1,ZL 13 12,ZN 14 13,ZM 15 (ZC 0)]
def wg80_3:List Vc:=[ZO 16 (.bin false .lss (.t 15) (.t 14))]
def wg80_4:List Vc:=[ZP 17 3 13 15,ZK 18 3 17,ZO 5 (.alloc [Z0,.nilsl,.nilsl]),ZS 3 5 18]
def wg80_5:List (Vc × Nat):=[(ZA 19 2 3,0),(ZL 20 19,1),(ZK 21 3 5,0),(ZX 22 80 [(.t 21)],4),(ZO 23 (.bslice 1 [Z0,.nilsl,.nilsl] [(0,3,(.t 22))]),12),(ZO 24 (.append 56 3 none (.t 20) (.t 23)),31),(ZA 25 2 3,63),(ZS 1 25 24,127)]
def wg80_6:List Vc:=[ZO 26 (.bin false .add (.t 15) (ZC 1)),ZV 15 26]
def wg80_7:List Vc:=[ZK 27 3 3,ZS 3 2 27]
def Tv:Vn:=(ZQ wg80_3 (.seq (.cond (.t 16) .skip (.exit 0)) (.seq (.block 1 (ZQ wg80_4 (.draw wg80_5 [(1,some 3),(1,some 5)]))) (.region wg80_6))))
def wf80:Vm:=⟨28,(ZQ wg80_0 (.seq (.draw Ti [(1,some 4),(1,some 7),(6,some 4),(6,some 7)]) (.seq (ZQ wg80_2 (.block 0 (.loop Tv))) (ZR wg80_7)))),[.cell 2 true 3]⟩
theorem t80:tbl 80=some wf80:=by kernel_rfl
set_option maxHeartbeats 1000000 in
theorem freshDeriv_run:∀(n:Nat) (d:Dv) (m:Nat) (Y:Vi),d.fz=n->n+4 < m->Dv.good gr d=true->∀(F:Nat->Prop) (st:St) (cs:List AV),VU F st d cs->(∀ i,F i->i < st.next) ->
  ∃ cs' st',R m Y 80 [.agg cs] st=.ret (.agg cs') st'/\Vd st st'/\VU (fun i=>st.next<=i/\i < st'.next) st' d cs':=by
 intro n
 induction n using Nat.strongRecOn with
 | _ n ih=>
 intro d m' Y hs hn hgd F st cs hr hF
 obtain⟨m,rfl⟩:∃ m,m'=m+1:=⟨m' - 1,by omega⟩
 cases d with
 | mk r nv ev vs nl ex l=>
 obtain⟨g1,g2,g3,g4,g5,g6⟩:=good_mk hgd
 have a2:=arN_le r
 have v64:=vaN_le r
 simp only[Dv.fz] at hs
 simp only[VU] at hr
 obtain⟨sv,xv,sl,xs,rfl,hv1,hv2,hsl,hrs⟩:=hr
 have hxl:=hrs.len
 have hln:=hsl.len
 have hlb:=hsl.2.1
 -- the object of the result;the object of the copy
 obtain⟨s0,hs0⟩:∃ s0,s0=st.new (.row [Z0,.nilsl,.nilsl]):=⟨_,rfl⟩
 have n0:s0.next=st.next+1:=by rw[hs0];rfl
 have k0:Vd st s0:=by rw[hs0];exact Vd.new st _
 obtain⟨sP,hsP⟩:∃ sP,sP=s0.new (.row [Z0,.nilsl,.nilsl]):=⟨_,rfl⟩
 have nP:sP.next=s0.next+1:=by rw[hsP];rfl
 have kP:Vd s0 sP:=by rw[hsP];exact Vd.new s0 _
 have gP:sP.get s0.next=some (.row [Z0,.nilsl,.nilsl]):=by rw[hsP,St.get_new,Qm rfl]
 have SP:=Vs.of (k0.trans kP) hF
 obtain⟨sv',xv',s1,hc,k1,h1,h2⟩:=terms98_run _ vs m Y rfl (by omega) g5 (by omega) F sP sv xv (hv1.mono SP fun _ h=>h) (Vy.mono SP (fun _ h=>h) _ _ hv2) (fun i hi=>by have:=hF i hi;omega)
 have hc:((gT m).cg Y).fn 98 [sv] sP=.ret sv' s1:=hc
 have o1:=h1.one
 have gP1:s1.get s0.next=some (.row [Z0,.nilsl,.nilsl]):=(k1.2 _ (by omega)).trans gP
 have bu:=fill2 (v:=sv') r o1
 have b3:VG [ZI 0,.nilsl,.nilsl] [ZI 0,.nilsl,.nilsl]=true:=rfl
 have sto1:Vt 3 s1 (.ptr s0.next 0) (.agg [.int .i64 r,sv',.nilsl])=some (s1.put s0.next (.row [.int .i64 r,sv',.nilsl])):=V4 gP1 rfl rfl (by simp) (by show (AV.one (.int .i64 r)&&(AV.one sv'&&(AV.one .nilsl&&true)))=true;rw[o1];rfl)
 obtain⟨s2,hs2⟩:∃ s2,s2=s1.put s0.next (.row [.int .i64 r,sv',.nilsl]):=⟨_,rfl⟩
 have n2:s2.next=s1.next:=by rw[hs2];rfl
 have o2:∀ j,j≠s0.next->s2.get j=s1.get j:=fun j hj=>by rw[hs2,St.get_put,Qe hj]
 have k02:Vd st s2:=⟨by have:=k1.1;omega,fun j hj=>by rw[o2 j (by omega),k1.2 j (by omega),kP.2 j (by omega),k0.2 j hj]⟩
 have G2:s2.get s0.next=some (.row [.int .i64 r,sv',.nilsl]):=by rw[hs2,St.get_put,Qm rfl]
 have Sv:Vs (fun i=>sP.next<=i/\i < s1.next) s1 s2:=fun i hi=>o2 i (by omega)
 have h1:=h1.mono Sv (fun _ h=>h)
 have h2:=Vy.mono Sv (fun _ h=>h) _ _ h2
 have hL:∀(fr:Fr),fr.ds=[]->fr.get 2=some (.ptr st.next 0)->fr.get 3=some (.ptr s0.next 0)->fr.get 13=some sl->fr.get 14=some (ZI xs.length)->fr.get 15=some Z0 ->
   ∃ FR s' so xo G,Vx (ac m Y Tv none) m fr s2=.exit 0 FR s'/\FR.ds=[]/\FR.get 2=some (.ptr st.next 0)/\FR.get 3=some (.ptr s0.next 0)/\s2.next<=s'.next/\(∀ j,j < s2.next->j≠s0.next->s'.get j=s2.get j)/\s'.get s0.next=some (.row [.int .i64 r,sv',so])/\xo.length=xs.length/\VI G s' l xo/\Gr s2.next s' so xo G:=by
  intro fr d0 q2 q3 q13 q14 q15
  refine Ws (B:=ac m Y Tv none) (N:=xs.length) (Inv:=fun k f s=>f.ds=[]/\f.get 2=some (.ptr st.next 0)/\f.get 3=some (.ptr s0.next 0)/\f.get 13=some sl/\f.get 14=some (ZI xs.length)/\f.get 15=some (ZI k)/\s2.next<=s.next/\(∀ j,j < s2.next->j≠s0.next->s.get j=s2.get j)/\∃ so xo G,s.get s0.next=some (.row [.int .i64 r,sv',so])/\xo.length=k/\VI G s (l.take k) xo/\Gr s2.next s so xo G)
   (Out:=fun rr=>∃ FR s' so xo G,rr=.exit 0 FR s'/\FR.ds=[]/\FR.get 2=some (.ptr st.next 0)/\FR.get 3=some (.ptr s0.next 0)/\s2.next<=s'.next/\(∀ j,j < s2.next->j≠s0.next->s'.get j=s2.get j)/\s'.get s0.next=some (.row [.int .i64 r,sv',so])/\xo.length=xs.length/\VI G s' l xo/\Gr s2.next s' so xo G) ?_ xs.length 0 fr s2 m (by omega) (by omega) ⟨d0,q2,q3,q13,q14,q15,Qw _,fun _ _ _=>rfl,.nilsl,[],_,G2,rfl,by simp[VI],Gr.nil _ _⟩
  intro k f s hk ⟨d0,q2,q3,q13,q14,q15,hnx0,hold,so,xo,G,hrow,hxo,hro,hgr⟩
  have hlt:=Wt k xs.length
  by_cases hkN:k < xs.length
  ·obtain⟨t,ht,hdr⟩:=WR (l:=l) (k:=k) (by omega)
   obtain⟨x,hx,hrx⟩:=hrs.at ht
   have hsame:Vs F st s:=fun i hi=>by have:=hF i hi;rw[hold i (by have:=k02.1;omega) (by omega)];exact k02.2 i this
   obtain⟨p,ia,ld⟩:=hsl.at hx
   have ld:=ld s hsame
   obtain⟨s3,sto,ks,go,hnx⟩:=next_el s (zs:=[Z0,.nilsl,.nilsl]) rfl hrx.cells3
   have hmem:=Qr ht
   have hfz:=Dv.fzL_mem hmem
   have kk1:=k02.1
   have hF1:∀ i,F i->i < s3.next:=fun i hi=>by have:=hF i hi;omega
   have hrx1:=VU.mono (hsame.trans (Vs.of ks fun i hi=>by have:=hF i hi;omega)) (fun _ h=>h) t x hrx
   have htake:l.take (k+1)=l.take k++[t]:=by rw[QT,ht];rfl
   obtain⟨y,s4,hcall,ks2,hry⟩:=ih t.fz (by omega) t m Y rfl (by omega) (goodL_mem g6 t hmem) F s3 x hrx1 hF1
   have hcall':((gT m).cg Y).fn 80 [.agg x] s3=.ret (.agg y) s4:=hcall
   have hk02:Vd s s4:=ks.trans ks2
   have hk1:=hk02.1
   obtain⟨so',s5,happ,hk3,hn3,sG,sG2,hgr'⟩:=hgr.app (bytes:=56) (y:=y) (G2:=fun i=>s3.next<=i/\i < s4.next) hnx0 (by omega) (by omega) hk02 hry.cells3 (fun i hi=>⟨by omega,hi.2⟩)
   have hks0:so≠.own s0.next 0 xo.length 3 none xo.length:=fun e=>by
    rcases hgr.2.2 with⟨e',_⟩|⟨id,e',hid,_⟩
    ·rw[e'] at e;cases e
    ·rw[e'] at e;injection e with e1;have:=k1.1;omega
   have g5r:s5.get s0.next=some (.row [.int .i64 r,sv',so]):=by rw[hk3 _ (by have:=k1.1;omega) hks0,hk02.2 _ (by have:=k1.1;omega)];exact hrow
   have oso:AV.one so'=true:=hgr'.one
   have st5:Vt 1 s5 (.ptr s0.next 2) so'=some (s5.put s0.next (.row [.int .i64 r,sv',so'])):=st32 g5r oso
   have hold5:∀ j,j < s2.next->j≠s0.next->(s5.put s0.next (.row [.int .i64 r,sv',so'])).get j=s2.get j:=fun j h1 h2=>by
    rw[St.get_put,Qe h2,hk3 j (by omega) (fun e=>by
     rcases hgr.2.2 with⟨e',_⟩|⟨id,e',hid,_⟩
     ·rw[e'] at e;cases e
     ·rw[e'] at e;injection e with e1;omega),hk02.2 j (by omega)]
    exact hold j h1 h2
   have hlow:∀ i,s2.next<=i->(s5.put s0.next (.row [.int .i64 r,sv',so'])).get i=s5.get i:=fun i hi=>by rw[St.get_put,Qe (by have:=k1.1;omega)]
   have hro':VI (fun i=>G i\/s3.next<=i/\i < s4.next) (s5.put s0.next (.row [.int .i64 r,sv',so'])) (l.take (k+1)) (xo++[y]):=by
    rw[htake]
    exact VI.snoc (VI.mono (sG.trans fun i hi=>hlow i (hgr.1 i hi).1) (fun i hi=>.inl hi) _ _ hro) (VU.mono (sG2.trans fun i hi=>hlow i (by omega)) (fun i hi=>.inr hi) _ _ hry)
   have hgr5:Gr s2.next (s5.put s0.next (.row [.int .i64 r,sv',so'])) so' (xo++[y]) (fun i=>G i\/s3.next<=i/\i < s4.next):=hgr'.mono (Qw _) (fun id h1 _ _ _=>hlow id h1)
   obtain⟨ya,yb,yc,rfl⟩:∃ a b c,y=[a,b,c]:=by
    match y,hry.cells3.1 with
    | [a,b,c],_=>exact⟨a,b,c,rfl⟩
   have fl:VN [Z0,.nilsl,.nilsl] [(0,3,.agg [ya,yb,yc])]=some [ya,yb,yc]:=rfl
   have r3:s3.get s0.next=some (.row [.int .i64 r,sv',so]):=by rw[ks.2 _ (by have:=k1.1;omega)];exact hrow
   have r4:s4.get s0.next=some (.row [.int .i64 r,sv',so]):=by rw[ks2.2 _ (by have:=k1.1;omega)];exact r3
   have l2:Vf false 1 s3 (.ptr s0.next 2)=some so:=Vk r3 rfl
   have l2':Vf false 1 s4 (.ptr s0.next 2)=some so:=Vk r4 rfl
   have lx:=load_row go hrx.cells3.1
   have had:=WC (i:=k) (by omega)
   rw[Qs hkN] at hlt
   obtain⟨J15,H15,O15_16⟩:∃ fr',ar m Y wg80_3 f s=.ok fr' s/\fr'.get 16=some (.bool true):=⟨_,by simp only[amE,rQ,rA,q14,q15,wg80_3,hlt]<;>rfl,gh⟩
   have V15_13:=ag H15 q13
   have V15_15:=ag H15 q15
   obtain⟨J16,H16,O16_5⟩:∃ fr',ar m Y wg80_4 J15 s=.ok fr' s3/\fr'.get 5=some (.ptr s.next 0):=⟨_,by simp only[amE,rQ,rA,V15_13,V15_15,wg80_4,ia,ld,sto]<;>rfl,gh⟩
   have V16_3:=ag H16 (ag H15 q3)
   obtain⟨J17,H17,K17⟩:∃ fr',VK ((gT m).cg Y) wg80_5 [(1,some 3),(1,some 5)] J16 s3=.ok fr' (s5.put s0.next (.row [.int .i64 r,sv',so']))/\Kp [2,3,13,14,15,16,5] J16 fr':=by
    refine⟨?r170,?r171,?r172⟩
    case r171=>
     refine KB (its:=?r17i) ?r17x ?r17y ?r17z
     case r17x=>
      simp only[amE,rQ,rA,WH,WU,DR.cons,V5,VJ,VT,V16_3,O16_5,wg80_5,faP,l2,l2',lx,hcall',fl,cnt1,happ,tag0,st5]
      rfl
     case r17y=>rfl
     case r17z=>
      simp only[QN,QW,Qy,Qd]
      refine⟨Wo (i:=1) (k:=3) rfl rfl rfl rfl ?r17k0,Wo (i:=1) (k:=5) rfl rfl rfl rfl ?r17k1⟩
      case r17k0=>
       right
       refine⟨?r17s0,?r17l0,hgr.beq⟩
       case r17l0=>
        simp only[amE,rQ,rA,V5,V16_3,O16_5,wg80_5,faP,l2,l2',lx,hcall',fl,cnt1,happ,tag0,st5]
        rfl
      case r17k1=>
       right
       refine⟨?r17s1,?r17l1,hgr.beq⟩
       case r17l1=>
        simp only[amE,rQ,rA,V5,V16_3,O16_5,wg80_5,faP,l2,l2',lx,hcall',fl,cnt1,happ,tag0,st5]
        rfl
    case r172=>repeat (first | exact Kp.refl | refine Kp.set (by decide) ?_)
   have V17_2:=K17.g 2 (ag H16 (ag H15 q2))
   have V17_3:=K17.g 3 V16_3
   have V17_13:=K17.g 13 (ag H16 V15_13)
   have V17_14:=K17.g 14 (ag H16 (ag H15 q14))
   have V17_15:=K17.g 15 (ag H16 V15_15)
   have W17:=K17.1.trans (ad H16 (ad H15 d0))
   obtain⟨J18,H18,O18_15⟩:∃ fr',ar m Y wg80_6 J17 (s5.put s0.next (.row [.int .i64 r,sv',so']))=.ok fr' (s5.put s0.next (.row [.int .i64 r,sv',so']))/\fr'.get 15=some (ZI ((k+1))):=⟨_,by simp only[amE,rQ,rA,V17_15,wg80_6,had]<;>rfl,gh⟩
   have hI18:ac m Y Tv none f s=.norm J18 (s5.put s0.next (.row [.int .i64 r,sv',so'])):=by
    simp only[amE,rQ,rA,Tv,b00,b11,b22,b33,H15,H16,H17,H18,O15_16]
   rw[hI18]
   exact⟨hkN,(ad H18 W17),(ag H18 V17_2),(ag H18 V17_3),(ag H18 V17_13),(ag H18 V17_14),O18_15,by show s2.next<=s5.next;omega,hold5,so',_,_,by rw[St.get_put,Qm rfl],by simp[hxo],hro',hgr5⟩
  ·rw[Qp hkN] at hlt
   have hkl:k=xs.length:=by omega
   rw[hkl,hxl,QH] at hro
   obtain⟨J19,H19,O19_16⟩:∃ fr',ar m Y wg80_3 f s=.ok fr' s/\fr'.get 16=some (.bool false):=⟨_,by simp only[amE,rQ,rA,q14,q15,wg80_3,hlt]<;>rfl,gh⟩
   have hI19:ac m Y Tv none f s=.exit 0 J19 s:=by
    simp only[amE,rQ,rA,Tv,b00,b11,b22,b33,H19,O19_16]
   rw[hI19]
   exact⟨_,_,so,xo,G,rfl,(ad H19 d0),(ag H19 q2),(ag H19 q3),hnx0,hold,hrow,by omega,hro,hgr⟩
 obtain⟨fA20,hA20⟩:∃ fA,fA=Vo 0 [.agg [.int .i64 r,sv,sl]] Fr.nil:=⟨_,rfl⟩
 have gA20_0:=gAt hA20 0
 have dA20:fA20.ds=[]:=by rw[hA20];rfl
 obtain⟨J21,H21,O21_1,O21_2⟩:∃ fr',ar m Y wg80_0 fA20 st=.ok fr' s0/\fr'.get 1=some (.fptr [.int .i64 r,sv,sl] 0)/\fr'.get 2=some (.ptr st.next 0):=⟨_,by simp only[amE,rQ,rA,gA20_0,wg80_0,hs0]<;>rfl,gn gh,gh⟩
 obtain⟨J22,H22,K22,O22_3⟩:∃ fr',VK ((gT m).cg Y) Ti [(1,some 4),(1,some 7),(6,some 4),(6,some 7)] J21 s0=.ok fr' s2/\Kp [0,1,2] J21 fr'/\fr'.get 3=some (.ptr s0.next 0):=by
  refine⟨?r220,?r221,?r222,?r22o3⟩
  case r221=>
   refine KB (its:=?r22i) ?r22x ?r22y ?r22z
   case r22x=>
    simp only[amE,rQ,rA,WH,WU,DR.cons,V5,VJ,VT,O21_1,Ti,faF,YV,Ks,hc,bu,gP1,gP,b3,sto1,<-hsP,hs2]
    rfl
   case r22y=>rfl
   case r22z=>
    simp only[QN,QW,Qy,Qd]
    refine⟨Wo (i:=1) (k:=4) rfl rfl rfl rfl ?r22k0,Wo (i:=1) (k:=7) rfl rfl rfl rfl ?r22k1,Wo (i:=6) (k:=4) rfl rfl rfl rfl ?r22k2,Wo (i:=6) (k:=7) rfl rfl rfl rfl ?r22k3⟩
    case r22k0=>
     left
     simp only[amE,rQ,rA,W0,O21_1,Ti,faF,YV,Ks,hc,bu,gP1,gP,b3,sto1,<-hsP,hs2]
    case r22k1=>
     left
     simp only[amE,rQ,rA,W0,O21_1,Ti,faF,YV,Ks,hc,bu,gP1,gP,b3,sto1,<-hsP,hs2]
    case r22k2=>
     right
     refine⟨?r22s2,?r22l2,avPtr _ _⟩
     case r22l2=>
      simp only[amE,rQ,rA,V5,Wf,VJ,O21_1,Ti,faF,YV,Ks,hc,bu,gP1,gP,b3,sto1,<-hsP,hs2]
      rfl
    case r22k3=>
     right
     refine⟨?r22s3,?r22l3,avPtr _ _⟩
     case r22l3=>
      simp only[amE,rQ,rA,V5,Wf,VJ,O21_1,Ti,faF,YV,Ks,hc,bu,gP1,gP,b3,sto1,<-hsP,hs2]
      rfl
  case r222=>repeat (first | exact Kp.refl | refine Kp.set (by decide) ?_)
  case r22o3=>simp only[Fr.get_set,rQ,↓reduceIte]
 have V22_1:=K22.g 1 O21_1
 have V22_2:=K22.g 2 O21_2
 have W22:=K22.1.trans (ad H21 dA20)
 obtain⟨J23,H23,O23_13,O23_14,O23_15⟩:∃ fr',ar m Y wg80_2 J22 s2=.ok fr' s2/\fr'.get 13=some (sl)/\fr'.get 14=some (ZI xs.length)/\fr'.get 15=some Z0:=⟨_,by simp only[amE,rQ,rA,V22_1,wg80_2,faF,ld3_2,hln]<;>rfl,gn (gn gh),gn gh,gh⟩
 obtain⟨FR,s6,so,xo,G,hL,dF,F2,F3,n6,o6,r6,hxo,hro,hgr⟩:=hL J23 (ad H23 W22) (ag H23 V22_2) (ag H23 O22_3) O23_13 O23_14 O23_15
 have n1le:=k1.1
 have r6':s6.get st.next=some (.row [Z0,.nilsl,.nilsl]):=by
  rw[o6 _ (by omega) (by omega),o2 _ (by omega),k1.2 _ (by omega),kP.2 _ (by omega),hs0,St.get_new,Qm rfl]
 have l6:Vf true 3 s6 (.ptr s0.next 0)=some (.agg [.int .i64 r,sv',so]):=Wk r6 rfl
 have t6:Vt 3 s6 (.ptr st.next 0) (.agg [.int .i64 r,sv',so])=some (s6.put st.next (.row [.int .i64 r,sv',so])):=V4 r6' rfl rfl (by simp) (by show (AV.one (.int .i64 r)&&(AV.one sv'&&(AV.one so&&true)))=true;rw[o1,hgr.one];rfl)
 have ldr:Vf true 3 (s6.put st.next (.row [.int .i64 r,sv',so])) (.ptr st.next 0)=some (.agg [.int .i64 r,sv',so]):=Wk (by rw[St.get_put,Qm rfl]) rfl
 have kk:Vd st (s6.put st.next (.row [.int .i64 r,sv',so])):=⟨by show st.next<=s6.next;omega,fun j hj=>by rw[St.get_put,Qe (by omega),o6 j (by omega) (by omega)];exact k02.2 j hj⟩
 have hfin:VU (fun i=>st.next<=i/\i < (s6.put st.next (.row [.int .i64 r,sv',so])).next) (s6.put st.next (.row [.int .i64 r,sv',so])) (.mk r nv ev vs nl ex l) [.int .i64 r,sv',so]:=by
  simp only[VU]
  have Sa:Vs (fun i=>sP.next<=i/\i < s1.next) s2 (s6.put st.next (.row [.int .i64 r,sv',so])):=fun i hi=>by rw[St.get_put,Qe (by omega),o6 i (by omega) (by omega)]
  have Sb:Vs G s6 (s6.put st.next (.row [.int .i64 r,sv',so])):=fun i hi=>by have:=(hgr.1 i hi).1;rw[St.get_put,Qe (by omega)]
  have Sc:Vs (fun i=>s2.next<=i/\i < s6.next) s6 (s6.put st.next (.row [.int .i64 r,sv',so])):=fun i hi=>by rw[St.get_put,Qe (by omega)]
  refine⟨sv',xv',so,xo,rfl,h1.mono Sa fun i hi=>⟨by omega,by show i < s6.next;omega⟩,Vy.mono Sa (fun i hi=>⟨by omega,by show i < s6.next;omega⟩) _ _ h2,(hgr.slr (by omega)).mono Sc fun i hi=>⟨by omega,hi.2⟩,VI.mono Sb (fun i hi=>⟨by have:=(hgr.1 i hi).1;omega,(hgr.1 i hi).2⟩) _ _ hro⟩
 obtain⟨J25,H25⟩:∃ fr',ar m Y wg80_7 FR s6=.ok fr' (s6.put st.next (.row [.int .i64 r,sv',so])):=⟨_,by simp only[amE,rQ,rA,F2,F3,wg80_7,l6,t6]<;>rfl⟩
 have V25_2:=ag H25 F2
 refine⟨[.int .i64 r,sv',so],_,Ve (mf:=wf80) (fr:=J25) t80 rfl (.inl ?q25) (ad H25 dF) (by simp only[wf80,amE,V25_2,ldr]),kk,hfin⟩
 case q25=>
  rw[<-hA20]
  simp only[amE,rQ,rA,wf80,b00,b11,b22,b33,H21,H22,H23,hL,H25]
end
end Go.AM.D32
