import Derived.Test.YtejdliehekjicaaGreatAwWa12
set_option maxRecDepth 100000
set_option linter.unusedSimpArgs false
namespace Go.AM.D32
open Go Go.AM
open Nat renaming reduceEqDiff -> rQ, reduceAdd -> rA
theorem spots_len(js:List (AV × List En)):(ens (Vq js)).length=tot js:=by
 unfold ens Vq tot
 rw[Qu,Zj]
 have:∀(l:List (AV × List En)) (k:Nat),((l.zipIdx k).map fun x=>(row x.2 x.1.2).length).sum=(l.map fun p=>p.2.length).sum:=by
  intro l
  induction l with
  | nil=>intro k;rfl
  | cons a l ih=>intro k;simp only[Zd,Q4,Zq,ih];simp[row]
 exact this js 0
theorem Tz{α:Type}:∀(l:List α) (k n:Nat),(l.take k).zipIdx n=(l.zipIdx n).take k
 | [],k,n=>by simp
 | x::l,0,n=>by simp
 | x::l,k+1,n=>by simp only[Xf,Zd,Tz l k (n+1)]
theorem spots_split{js:List (AV × List En)}{p i:Nat}{q:AV × List En}{e:En}(hp:js[p]?=some q)(hi:q.2[i]?=some e):∃ r,Vq js=Vq (js.take p)++row p (q.2.take i)++(p,i,e)::r:=by
 have h1:Vq js=Vq (js.take (p+1))++(js.zipIdx.drop (p+1)).flatMap (fun x=>row x.2 x.1.2):=by
  unfold Vq
  rw[Tz,<-X0,Zb]
 have h2:row p q.2=row p (q.2.take (i+1))++(q.2.zipIdx.drop (i+1)).map (fun x=>(p,x.2,x.1)):=by
  unfold row
  rw[Tz,<-QQ,Zb]
 refine⟨(q.2.zipIdx.drop (i+1)).map (fun x=>(p,x.2,x.1))++(js.zipIdx.drop (p+1)).flatMap (fun x=>row x.2 x.1.2),?_⟩
 rw[h1,spots_take hp,h2,row_take hi];simp
theorem firstE_some{d:List Sp}{e:En}{x:Sp}(h:d.find? (fun z=>z.2.2.prop==e.prop)=some x):Wg d e=x.2.2:=by unfold Wg;rw[h]
theorem firstE_none{d:List Sp}{e:En}(h:d.find? (fun z=>z.2.2.prop==e.prop)=none):Wg d e=e:=by unfold Wg;rw[h]
theorem clE_any(d:List Sp)(q lf:Int):((clE (ens d) q).any fun c=>c.1==lf)=(d.any fun z=>z.2.2.prop==q&&z.2.2.leaf==lf):=by
 unfold clE ens
 induction d with
 | nil=>rfl
 | cons z d ih=>
  simp only[Q4,List.any_cons,<-ih]
  cases h:z.2.2.prop==q<;>simp[List.filter,h]
theorem clE_le(l:List En)(q:Int):(clE l q).length<=l.length:=by unfold clE;rw[Qu];exact Zc ..
theorem kindAt_2{k:Nat}{ps:List Int}{d:List Sp}{x:Sp}(h1:x.2.2.leaf < k)(h2:ps.getD x.2.2.leaf.toNat 0=(x.1:Int))
  (h3:((d.any fun z=>z.2.2.prop==x.2.2.prop&&z.2.2.leaf==x.2.2.leaf)||!YT x.2.2 (Wg d x.2.2)||!decide (x.2.2.seen=(Wg d x.2.2).seen))=true):Wp k ps d x=2:=by
 unfold Wp
 rw[h3,Qp (by omega),h2];simp
theorem kindAt_3{k:Nat}{ps:List Int}{d:List Sp}{x:Sp}(h1:x.2.2.leaf < k)(h2:ps.getD x.2.2.leaf.toNat 0=(x.1:Int))
  (h3:((d.any fun z=>z.2.2.prop==x.2.2.prop&&z.2.2.leaf==x.2.2.leaf)||!YT x.2.2 (Wg d x.2.2)||!decide (x.2.2.seen=(Wg d x.2.2).seen))=false) (b:Bool)
  (h4:(!(x.2.2.ver==(VF (ens d) x.2.2.leaf:Int))||!(x.2.2.ver==x.2.2.seen.getD x.2.2.leaf.toNat 0))=b):Wp k ps d x=bif b then 3 else 0:=by
 unfold Wp
 rw[h3,h4,Qp (by omega),h2];simp
theorem kindAt_1{k:Nat}{ps:List Int}{d:List Sp}{x:Sp}(h:x.2.2.leaf>=k\/ps.getD x.2.2.leaf.toNat 0≠(x.1:Int)):Wp k ps d x=1:=by
 unfold Wp
 have:(decide (x.2.2.leaf>=k)||!(ps.getD x.2.2.leaf.toNat 0==(x.1:Int)))=true:=by
  rw[XB]
  rcases h with h | h
  ·exact .inl (Qs h)
  ·right;simpa using h
 rw[this];rfl
theorem lookP(PL:List Pr){s:St}{A:Nat}(h:s.get A=some (.map (esP PL)))(q:Int):JP false .nilptr true s (.map A) (.int .i64 q)=some (match PL.find? (fun x=>x.e.prop==q) with
  | some x=>.tuple [.ptr x.id 0,.bool true]
  | none=>.tuple [.nilptr,.bool false]):=by
 unfold JP
 simp only[h]
 unfold esP
 rw[Sh (fun x:Pr=>x.e.prop) (fun x=>AV.ptr x.id 0)]
 cases PL.find? (fun x=>x.e.prop==q)<;>rfl
theorem mapupP(PL:List Pr){s:St}{A:Nat}(h:s.get A=some (.map (esP PL)))(q:Int)(hf:PL.find? (fun x=>x.e.prop==q)=none)(v:AV):Tw false s (.map A) (.int .i64 q) v=some (s.put A (.map (esP PL++[(.int .i64 q,v)]))):=by
 unfold Tw
 simp only[h]
 unfold esP
 rw[putA_new (fun x:Pr=>x.e.prop) (fun x=>AV.ptr x.id 0) q v PL hf];rfl
theorem build7(a b c d e f:AV)(ha:a.cells=[a]:=by rfl):VN [Z0,Z0,.nilsl,Z0,.nilsl,.nilsl,.nilsl] [(0,1,a),(1,2,.agg [b,c]),(3,3,.agg [d,e,f])]=some [a,b,c,d,e,f,.nilsl]:=by
 have e1:(AV.agg [b,c]).cells=[b,c]:=rfl
 have e2:(AV.agg [d,e,f]).cells=[d,e,f]:=rfl
 simp[VN,ha,e1,e2,setCells,Nat.ble]
theorem build10(a b c d e f g h i j:AV)(hj:j.cells=[j]):VN [Z0,Z0,.nilsl,Z0,.nilsl,.nilsl,.nilsl,Z0,Z0,.nilsl] [(0,7,.agg [a,b,c,d,e,f,g]),(7,2,.agg [h,i]),(9,1,j)]=some [a,b,c,d,e,f,g,h,i,j]:=by
 have e1:(AV.agg [h,i]).cells=[h,i]:=rfl
 have e2:(AV.agg [a,b,c,d,e,f,g]).cells=[a,b,c,d,e,f,g]:=rfl
 simp[VN,hj,e1,e2,setCells,Nat.ble]
theorem build3z:VN [Z0,Z0,Z0] []=some [Z0,Z0,Z0]:=rfl
def z3:AO:=.row [Z0,Z0,Z0]
structure GInv(st s0:St)(b:Nat)(k:Nat)(ps:List Int)(d:List Sp)(s1:St):Prop where
 old:∀ i,i < b+7->i≠b+2->i≠b+4->s1.get i=s0.get i
 nx:b+8<=s1.next
 fits:KC k ps d
 gat:∃ PL mm,Y5 (b+2) (b+4) (b+8) d s1 PL mm
def GFin(b:Nat)(k:Nat)(ps:List Int)(l:List Sp)(s0 s1:St):Prop:=
 (∀ i,i < b->s1.get i=s0.get i)/\b+8<=s1.next/\∃ d x r,l=d++x::r/\KC k ps d/\Wp k ps d x≠0/\s1.get b=some (.row [.nilmap])/\s1.get (b+1)=some (.row [ZI ((Wp k ps d x)),ZI x.1,ZI x.2.1])
set_option maxHeartbeats 1000000 in
theorem gath_round{F:Nat->Prop}{st:St}{lv pv jv:AV}{ls:List (List AV)}{ps:List Int}{N:Int}{js:List (AV × List En)}(hl:SlN 1 F st lv ls)(hp:SlI F st pv ps)(hj:YQ F st jv js)(hF:∀ i,F i->i < st.next)(hP:ps.length=ls.length)(hA:JK ls.length N js=true)(m:Nat)(Y:Vi)(hn:fzJ js+5000 < m){fr:Fr}{s0 s1:St}{b:Nat}(hb:s0.next=b+7)(ks:Vd st s0)(hsb:st.next=b)
  (q0:s0.get b=some (.row [.nilmap])) (q1:s0.get (b+1)=some z3) (q3:s0.get (b+3)=some (.row [.map (b+2)])) (q5:s0.get (b+5)=some (.row [.map (b+4)]))
  (d0:fr.ds=[]) (g2:fr.get 2=some (.fptr [lv,pv,.int .i64 N] 0)) (g4:fr.get 4=some (.ptr b 0)) (g5:fr.get 5=some (.ptr (b+1) 0)) (g6:fr.get 6=some (.ptr (b+3) 0)) (g7:fr.get 7=some (.ptr (b+5) 0))
  {p i:Nat} {qq:AV × List En} {e:En} (hq:js[p]?=some qq) (hi:qq.2[i]?=some e) (hI:GInv st s0 b ls.length ps (Vq (js.take p)++row p (qq.2.take i)) s1) (hL0:s1.get s0.next=some (.loop .ready)) (hL1:s0.next < s1.next):
  ∃ fr1 s2,ac (m+1) Y wa69_0 (some s0.next) (VL [17,18] [atV p i,.agg e.cells] { fr with ds:=[] }) s1=.norm fr1 s2/\Vd s1 s2 ∧
   ((∃ fr2 s3,ac (m+1) Y WF (some s0.next) fr1 (s2.put s0.next (.loop .busy))=.norm fr2 s3/\s3.get s0.next=some (.loop .busy)/\s0.next < s3.next/\GInv st s0 b ls.length ps (Vq (js.take p)++row p (qq.2.take i)++[(p,i,e)]) s3) ∨
    (∃ fr2 s3,ac (m+1) Y WF (some s0.next) fr1 (s2.put s0.next (.loop .busy))=.ret fr2 s3/\s3.get s0.next=some (.loop .busy)/\GFin b ls.length ps (Vq js) s0 s3)):=by
 have hm1:=Qr hq
 have hm2:=Qr hi
 obtain⟨h1,h2⟩:=hj
 have he:=(h2 qq hm1).2 e hm2
 have hfz:=fzJ_en hm1 hm2
 have hll:=hl.len
 obtain⟨rr,hsp⟩:=spots_split hq hi
 have htot:=spots_len js
 unfold JK at hA
 simp only[Qd,QF,QB] at hA
 obtain⟨⟨hA1,hA2⟩,hA3⟩:=hA
 have hg:=hA3 qq hm1 e hm2
 unfold En.good at hg
 simp only[Qd,QF] at hg
 obtain⟨⟨⟨⟨⟨⟨w1,w2⟩,w3⟩,w4⟩,w5⟩,w6⟩,w7⟩:=hg
 have hlf:=((Tb _).1 w1).1
 generalize hd:Vq (js.take p)++row p (qq.2.take i)=d at *
 have hdl:(ens d).length<=4000:=by
  have:(ens (Vq js)).length=(ens d).length+(rr.length+1):=by rw[hsp];unfold ens;simp
  omega
 obtain⟨a,b',c',hda,_⟩:=e.d.cells_abc
 have hcs:e.cells=[.int .i64 e.leaf,.int .i64 e.ver,.int .i64 e.prop,.int .i64 e.gate,e.vsl,a,b',c',e.ssl]:=by unfold En.cells;rw[hda];rfl
 have c9:=e.cells9
 obtain⟨fB,hfB⟩:∃ fB,fB=VL [17,18] [atV p i,.agg e.cells] { fr with ds:=[] }:=⟨_,rfl⟩
 rw[<-hfB]
 have gB17:fB.get 17=some (atV p i):=by rw[hfB];simp only[VL,Fr.get_set,rQ,↓reduceIte]
 have gB18:fB.get 18=some (.agg e.cells):=by rw[hfB];simp only[VL,Fr.get_set,rQ,↓reduceIte]
 have gB2:fB.get 2=some (.fptr [lv,pv,.int .i64 N] 0):=by rw[hfB];simp only[VL,Fr.get_set,rQ,↓reduceIte];exact g2
 have gB4:fB.get 4=some (.ptr b 0):=by rw[hfB];simp only[VL,Fr.get_set,rQ,↓reduceIte];exact g4
 have gB5:fB.get 5=some (.ptr (b+1) 0):=by rw[hfB];simp only[VL,Fr.get_set,rQ,↓reduceIte];exact g5
 have gB6:fB.get 6=some (.ptr (b+3) 0):=by rw[hfB];simp only[VL,Fr.get_set,rQ,↓reduceIte];exact g6
 have gB7:fB.get 7=some (.ptr (b+5) 0):=by rw[hfB];simp only[VL,Fr.get_set,rQ,↓reduceIte];exact g7
 have dB:fB.ds=[]:=by rw[hfB];rfl
 -- the copies of the loop's variables
 have sto1:Vt 2 (s1.new (.row [Z0,Z0])) (.ptr s1.next 0) (atV p i)=some ((s1.new (.row [Z0,Z0])).put s1.next (.row [ZI p,ZI i])):=VQ rfl rfl rfl
 have k1a:Vd s1 ((s1.new (.row [Z0,Z0])).put s1.next (.row [ZI p,ZI i])):=(Vd.refl s1).newput _ _
 have g1a:((s1.new (.row [Z0,Z0])).put s1.next (.row [ZI p,ZI i])).get s1.next=some (.row [ZI p,ZI i]):=by rw[St.get_put,Qm rfl]
 have n1a:((s1.new (.row [Z0,Z0])).put s1.next (.row [ZI p,ZI i])).next=s1.next+1:=rfl
 generalize hs1a:(s1.new (.row [Z0,Z0])).put s1.next (.row [ZI p,ZI i])=s1a at sto1 k1a g1a n1a
 have sto2:Vt 9 (s1a.new (.row ze9)) (.ptr s1a.next 0) (.agg e.cells)=some ((s1a.new (.row ze9)).put s1a.next (.row e.cells)):=VQ rfl c9.1 c9.2
 have k2:Vd s1a ((s1a.new (.row ze9)).put s1a.next (.row e.cells)):=(Vd.refl s1a).newput _ _
 have g2b:((s1a.new (.row ze9)).put s1a.next (.row e.cells)).get s1a.next=some (.row e.cells):=by rw[St.get_put,Qm rfl]
 have n2b:((s1a.new (.row ze9)).put s1a.next (.row e.cells)).next=s1a.next+1:=rfl
 unfold ze9 at sto2 k2 g2b n2b
 generalize hs2:(s1a.new (.row _)).put s1a.next (.row e.cells)=s2 at sto2 k2 g2b n2b
 rw[n1a] at sto2 g2b n2b
 obtain⟨J12,H12,O12_8⟩:∃ fr',ar (m+1) Y wg69_4 fB s1=.ok fr' s1a/\fr'.get 8=some (.ptr s1.next 0):=⟨_,by simp only[amE,rQ,↓reduceIte,rA,gB17,wg69_4,sto1]<;>rfl,gh⟩
 have V12_2:=ag H12 gB2
 have V12_4:=ag H12 gB4
 have V12_5:=ag H12 gB5
 have V12_6:=ag H12 gB6
 have V12_7:=ag H12 gB7
 have V12_18:=ag H12 gB18
 have W12:=ad H12 dB
 obtain⟨J13,H13,O13_9⟩:∃ fr',ar (m+1) Y wg69_5 J12 s1a=.ok fr' s2/\fr'.get 9=some (.ptr (s1.next+1) 0):=⟨_,by simp only[amE,rQ,↓reduceIte,rA,V12_18,wg69_5,sto2,n1a]<;>rfl,gh⟩
 have V13_2:=ag H13 V12_2
 have V13_4:=ag H13 V12_4
 have V13_5:=ag H13 V12_5
 have V13_6:=ag H13 V12_6
 have V13_7:=ag H13 V12_7
 have V13_8:=ag H13 O12_8
 have W13:=ad H13 W12
 have hI1:ac (m+1) Y wa69_0 (some s0.next) fB s1=.norm J13 s2:=by
  simp only[amE,rQ,↓reduceIte,rA,wa69_0,b00,b11,b22,b33,H12,H13]
 have k12:=k1a.trans k2
 have L1:s2.get s0.next=some (.loop .ready):=by rw[k12.2 _ hL1];exact hL0
 refine⟨_,_,hI1,k12,?_⟩
 obtain⟨iold,inx,ifits,PL,mm,igat⟩:=hI
 have gat2:=(igat.keep k12).low (id:=s0.next) (by omega) (by omega) (by omega) (.loop .busy)
 have g3:∀ k,k≠s0.next->(s2.put s0.next (.loop .busy)).get k=s2.get k:=fun k hk=>by rw[St.get_put,Qe hk]
 have g3L:(s2.put s0.next (.loop .busy)).get s0.next=some (.loop .busy):=by rw[St.get_put,Qm rfl]
 have n3:(s2.put s0.next (.loop .busy)).next=s1.next+2:=by show s2.next=_;omega
 generalize s2.put s0.next (.loop .busy)=s3 at gat2 g3 g3L n3
 have g3o:∀ k,k < s1.next->k≠s0.next->s3.get k=s1.get k:=fun k h1 h2=>(g3 k h2).trans (k12.2 k h1)
 have g3b:∀ k,k < b+7->k≠b+2->k≠b+4->s3.get k=s0.get k:=fun k h1 h2 h3=>(g3o k (by omega) (by omega)).trans (iold k h1 h2 h3)
 have a8:s3.get s1.next=some (.row [ZI p,ZI i]):=by rw[g3 _ (by omega),k2.2 _ (by omega)];exact g1a
 have a9:s3.get (s1.next+1)=some (.row e.cells):=by rw[g3 _ (by omega)];exact g2b
 have hb0:s3.get b=some (.row [.nilmap]):=(g3b b (by omega) (by omega) (by omega)).trans q0
 have hb1:s3.get (b+1)=some (.row [Z0,Z0,Z0]):=(g3b (b+1) (by omega) (by omega) (by omega)).trans q1
 have hb3:s3.get (b+3)=some (.row [.map (b+2)]):=(g3b (b+3) (by omega) (by omega) (by omega)).trans q3
 have hb5:s3.get (b+5)=some (.row [.map (b+4)]):=(g3b (b+5) (by omega) (by omega) (by omega)).trans q5
 rw[hcs] at a9
 have e0:Vf false 1 s3 (.ptr (s1.next+1) 0)=some (.int .i64 e.leaf):=Vk a9 rfl
 have l8:=ld2r a8
 have l81:Vf false 1 s3 (.ptr s1.next 0)=some (ZI p):=Vk a8 rfl
 have aa0:UC 2 1 (.ptr s1.next 0) Z0=some (.ptr s1.next 0):=rfl
 have hgeq:Vr false .geq (.int .i64 e.leaf) (ZI ls.length)=some (.bool (decide (e.leaf>=(ls.length:Int)))):=geqI _ _
 -- the end where something does not fit
 have fin:∀(kd:Nat) (s':St),Wp ls.length ps d (p,i,e)=kd->kd≠0->s'.get b=some (.row [.nilmap])->s'.get (b+1)=some (.row [ZI kd,ZI p,ZI i])->s3.next<=s'.next->(∀ k,k < b->s'.get k=s3.get k)->GFin b ls.length ps (Vq js) s0 s':=fun kd s' hk hne h4 h5 h6 h7=>
  ⟨fun k hk=>(h7 k hk).trans (g3b k (by omega) (by omega) (by omega)),by omega,d,(p,i,e),rr,hsp,ifits,by rw[hk];exact hne,h4,by rw[hk];exact h5⟩
 by_cases hG:e.leaf>=(ls.length:Int)
 ·rw[Qs hG] at hgeq
  have hk1:Wp ls.length ps d (p,i,e)=1:=kindAt_1 (.inl hG)
  obtain⟨sD,c76,k76⟩:=bad_run (.ofNat 1) (.ofNat p) (.ofNat i) m Y s3
  have c76:((gT (m+1)).cg Y).fn 76 [ZI 1,.agg [ZI p,ZI i]] s3=.ret (.agg [ZI 1,ZI p,ZI i]) sD:=c76
  have st1:Vt 1 sD (.ptr b 0) .nilmap=some (sD.put b (.row [.nilmap])):=V4 (((k76.2 _ (by omega)).trans hb0)) rfl rfl (by simp) rfl
  have gD:(sD.put b (.row [.nilmap])).get (b+1)=some (.row [Z0,Z0,Z0]):=by rw[St.get_put,Qe (by omega),k76.2 _ (by omega)];exact hb1
  have st2:Vt 3 (sD.put b (.row [.nilmap])) (.ptr (b+1) 0) (.agg [ZI 1,ZI p,ZI i])=some ((sD.put b (.row [.nilmap])).put (b+1) (.row [ZI 1,ZI p,ZI i])):=V4 gD rfl rfl (by simp) rfl
  obtain⟨J14,H14,K14,O14_35⟩:∃ fr',VK ((gT (m+1)).cg Y) Ua [] J13 s3=.ok fr' s3/\Kp [2,4,5,6,7,8,9] J13 fr'/\fr'.get 35=some (.bool true):=⟨_,Wj rfl (by simp only[amE,rQ,↓reduceIte,rA,V13_2,V13_8,O13_9,Ua,faP,faF,YV,e0,hll,hgeq,TM,Qc,Qb]<;>rfl),Kp.refl.s.s.s.s.s.s.s.s.s.s.s.s.s.s.s.s.s,gh⟩
  have V14_4:=K14.g 4 V13_4
  have V14_5:=K14.g 5 V13_5
  have V14_8:=K14.g 8 V13_8
  obtain⟨J15,H15⟩:∃ fr',ar (m+1) Y wg69_7 J14 s3=.ok fr' ((sD.put b (.row [.nilmap])).put (b+1) (.row [ZI 1,ZI p,ZI i])):=⟨_,by simp only[amE,rQ,↓reduceIte,rA,V14_4,V14_5,V14_8,wg69_7,l8,c76,st1,st2]<;>rfl⟩
  have hI2:ac (m+1) Y WF (some s0.next) J13 s3=.ret J15 ((sD.put b (.row [.nilmap])).put (b+1) (.row [ZI 1,ZI p,ZI i])):=by
   simp only[amE,rQ,↓reduceIte,rA,WF,b00,b11,b22,b33,H14,H15,O14_35]
  exact .inr ⟨_,_,hI2,by rw[St.get_put,Qe (by omega),St.get_put,Qe (by omega),k76.2 _ (by omega)];exact g3L,fin 1 _ hk1 (by omega) (by rw[St.get_put,Qe (by omega),St.get_put,Qm rfl]) (by rw[St.get_put,Qm rfl]) k76.1 (fun k hk=>by rw[St.get_put,Qe (by omega),St.get_put,Qe (by omega),k76.2 _ (by omega)])⟩
 rw[Qp hG] at hgeq
 have hlt:e.leaf.toNat < ps.length:=by omega
 have hlf':Int.ofNat e.leaf.toNat=e.leaf:=by show ((e.leaf.toNat:Nat):Int)=e.leaf;omega
 obtain⟨px,ix,ldx⟩:=SlI.at hp (Qn hlt)
 have ix:VC 1 pv (.int .i64 e.leaf)=some px:=by rw[<-hlf'];exact ix
 have ldx:=ldx s3 (fun j hj=>by
  have:=hF j hj
  rw[g3b j (by omega) (by omega) (by omega)];exact ks.2 j this)
 have hgd:ps.getD e.leaf.toNat 0=ps[e.leaf.toNat]:=by rw[X4,Qn hlt];rfl
 have hne:=Yk ps[e.leaf.toNat] (.ofNat p)
 by_cases hpl:ps[e.leaf.toNat]=(p:Int)
 case neg=>
  have hpt:(ps[e.leaf.toNat] != Int.ofNat p)=true:=by simpa using hpl
  rw[hpt] at hne
  have hk1:Wp ls.length ps d (p,i,e)=1:=kindAt_1 (.inr (by show ps.getD e.leaf.toNat 0≠_;rw[hgd];exact hpl))
  obtain⟨sD,c76,k76⟩:=bad_run (.ofNat 1) (.ofNat p) (.ofNat i) m Y s3
  have c76:((gT (m+1)).cg Y).fn 76 [ZI 1,.agg [ZI p,ZI i]] s3=.ret (.agg [ZI 1,ZI p,ZI i]) sD:=c76
  have st1:Vt 1 sD (.ptr b 0) .nilmap=some (sD.put b (.row [.nilmap])):=V4 (((k76.2 _ (by omega)).trans hb0)) rfl rfl (by simp) rfl
  have gD:(sD.put b (.row [.nilmap])).get (b+1)=some (.row [Z0,Z0,Z0]):=by rw[St.get_put,Qe (by omega),k76.2 _ (by omega)];exact hb1
  have st2:Vt 3 (sD.put b (.row [.nilmap])) (.ptr (b+1) 0) (.agg [ZI 1,ZI p,ZI i])=some ((sD.put b (.row [.nilmap])).put (b+1) (.row [ZI 1,ZI p,ZI i])):=V4 gD rfl rfl (by simp) rfl
  obtain⟨J16,H16,K16,O16_35⟩:∃ fr',VK ((gT (m+1)).cg Y) Ua [] J13 s3=.ok fr' s3/\Kp [2,4,5,6,7,8,9] J13 fr'/\fr'.get 35=some (.bool true):=⟨_,Wj rfl (by simp only[amE,rQ,↓reduceIte,rA,V13_2,V13_8,O13_9,Ua,faP,faF,YV,Ks,e0,hll,hgeq,ix,ldx,aa0,l81,hne,TM,Qc,Qb]<;>rfl),Kp.refl.s.s.s.s.s.s.s.s.s.s.s.s.s.s.s.s.s,gh⟩
  have V16_4:=K16.g 4 V13_4
  have V16_5:=K16.g 5 V13_5
  have V16_8:=K16.g 8 V13_8
  obtain⟨J17,H17⟩:∃ fr',ar (m+1) Y wg69_7 J16 s3=.ok fr' ((sD.put b (.row [.nilmap])).put (b+1) (.row [ZI 1,ZI p,ZI i])):=⟨_,by simp only[amE,rQ,↓reduceIte,rA,V16_4,V16_5,V16_8,wg69_7,l8,c76,st1,st2]<;>rfl⟩
  have hI2:ac (m+1) Y WF (some s0.next) J13 s3=.ret J17 ((sD.put b (.row [.nilmap])).put (b+1) (.row [ZI 1,ZI p,ZI i])):=by
   simp only[amE,rQ,↓reduceIte,rA,WF,b00,b11,b22,b33,H16,H17,O16_35]
  exact .inr ⟨_,_,hI2,by rw[St.get_put,Qe (by omega),St.get_put,Qe (by omega),k76.2 _ (by omega)];exact g3L,fin 1 _ hk1 (by omega) (by rw[St.get_put,Qe (by omega),St.get_put,Qm rfl]) (by rw[St.get_put,Qm rfl]) k76.1 (fun k hk=>by rw[St.get_put,Qe (by omega),St.get_put,Qe (by omega),k76.2 _ (by omega)])⟩
 have hpt:(ps[e.leaf.toNat] != Int.ofNat p)=false:=by simpa using hpl
 rw[hpt] at hne
 have hk1:e.leaf < (ls.length:Int):=by omega
 have hk2:ps.getD e.leaf.toNat 0=(p:Int):=by rw[hgd];exact hpl
 have l6:Vf false 1 s3 (.ptr (b+3) 0)=some (.map (b+2)):=Vk hb3 rfl
 have e2:Vf false 1 s3 (.ptr (s1.next+1) 2)=some (.int .i64 e.prop):=Vk a9 rfl
 have lk:=lookP PL gat2.all e.prop
 obtain⟨gl1,gl2,gl3⟩:=gat2.lim
 have hcm:Yf mm e.leaf < 100000:=by rw[gat2.cnt];have:=cntE_le (ens d) e.leaf;omega
 rcases gat2.find e.prop with⟨x,hx,hxq,hxf,hxd⟩|⟨hxf,hxd,hxn⟩
 ·
  rw[hxf] at lk
  obtain⟨xa,xb,xc,xd,xlf,xlg,xu,xv⟩:=gat2.one x hx
  have hxe:x.e.ok/\True:=⟨by
   have:(x.p,x.i,x.e)∈Vq js:=by rw[hsp];exact XC _ (X9 hxd)
   unfold Vq at this
   obtain⟨z,hz,hzr⟩:=QO.1 this
   have hz1:z.1∈js:=by
    have hz':=XF hz
    rw[hz'.2.2];exact Xu _
   unfold row at hzr
   obtain⟨u,hu,hue⟩:=Q6.1 hzr
   have hu1:u.1∈z.1.2:=by
    have hu':=XF hu
    rw[hu'.2.2];exact Xu _
   have:x.e=u.1:=by injection hue with _ h;injection h with _ h;exact h.symm
   rw[this];exact(h2 z.1 hz1).2 u.1 hu1,trivial⟩
  have hcl1:x.cl.length<=4000:=by rw[xb];exact QY (clE_le _ _) hdl
  have hcls:ClS s3 x.csl x.cid x.cl:=.inr ⟨rfl,xd⟩
  have hxid:x.id≠x.cid:=by
   have key:∀ l:List Pr,(l.flatMap fun x=>[x.id,x.cid]).Nodup->x∈l->x.id≠x.cid:=by
    intro l
    induction l with
    | nil=>intro _ h;simp at h
    | cons z l ih=>
     intro hn hx
     rw[Xa,QS] at hn
     rcases Qx.1 hx with h | h
     ·rw[h];simpa using hn.1
     ·exact ih hn.2.1 h
   exact key PL gat2.ids hx
  have xl1:x.id < s1.next:=(igat.one x hx).2.2.2.2.2.2.1
  have xl2:x.cid < s1.next:=(igat.one x hx).2.2.2.2.2.2.2
  obtain⟨J18,H18,K18,O18_35⟩:∃ fr',VK ((gT (m+1)).cg Y) Ua [] J13 s3=.ok fr' s3/\Kp [2,4,5,6,7,8,9] J13 fr'/\fr'.get 35=some (.bool false):=⟨_,Wj rfl (by simp only[amE,rQ,↓reduceIte,rA,V13_2,V13_8,O13_9,Ua,faP,faF,YV,Ks,e0,hll,hgeq,ix,ldx,aa0,l81,hne,TM,Qc,Qb]<;>rfl),Kp.refl.s.s.s.s.s.s.s.s.s.s.s.s.s.s.s.s.s,gh⟩
  have V18_4:=K18.g 4 V13_4
  have V18_5:=K18.g 5 V13_5
  have V18_6:=K18.g 6 V13_6
  have V18_7:=K18.g 7 V13_7
  have V18_8:=K18.g 8 V13_8
  have V18_9:=K18.g 9 O13_9
  have W18:=K18.1.trans W13
  obtain⟨J19,H19,O19_10,O19_11⟩:∃ fr',ar (m+1) Y wg69_8 J18 s3=.ok fr' s3/\fr'.get 10=some (.ptr x.id 0)/\fr'.get 11=some (.bool true):=⟨_,by simp only[amE,rQ,↓reduceIte,rA,V18_6,V18_9,wg69_8,faP,l6,e2,lk,JL]<;>rfl,gn gh,gh⟩
  have V19_4:=ag H19 V18_4
  have V19_5:=ag H19 V18_5
  have V19_7:=ag H19 V18_7
  have V19_8:=ag H19 V18_8
  have V19_9:=ag H19 V18_9
  have W19:=ad H19 W18
  obtain⟨J20,H20,O20_46⟩:∃ fr',ar (m+1) Y wg69_9 J19 s3=.ok fr' s3/\fr'.get 46=some (.bool false):=⟨_,by simp only[amE,rQ,↓reduceIte,rA,O19_11,wg69_9,WN,Qc,Qc,Qb]<;>rfl,gh⟩
  have V20_4:=ag H20 V19_4
  have V20_5:=ag H20 V19_5
  have V20_7:=ag H20 V19_7
  have V20_8:=ag H20 V19_8
  have V20_9:=ag H20 V19_9
  have V20_10:=ag H20 O19_10
  have W20:=ad H20 W19
  obtain⟨r1,r2,r3⟩:=gath_rest (m:=m+1) (Y:=Y) (ro:=some s0.next) (s:=s3) (fr:=J20) (b:=b) (c7:=b+5) (M:=b+4) (a8:=s1.next) (a9:=s1.next+1) (id:=x.id) (cid:=x.cid) (e:=e) (y:=x.e) (csl:=x.csl) (cl:=x.cl) (mm:=mm) (p:=p) (i:=i) (yp:=x.p) (yi:=x.i)
   he hxe.1 (by omega) hlf (by omega) (by omega) hcm W20 V20_4 V20_5 V20_7 V20_8 V20_9 V20_10 hb0 hb1 hb5 gat2.mov a8 (by rw[hcs];exact a9) xc hcls (by omega) (by omega) (by omega) (by omega) (by omega) hxid (by omega) ⟨by omega,by omega,by omega,by omega,by omega,by omega⟩ (.inr (by omega)) (by omega)
  have hB:(x.cl.any (fun c=>c.1==e.leaf)||!YT e x.e||!decide (e.seen=x.e.seen))=((d.any fun z=>z.2.2.prop==e.prop&&z.2.2.leaf==e.leaf)||!YT e (Wg d e)||!decide (e.seen=(Wg d e).seen)):=by
   rw[xb,hxq,clE_any,firstE_some hxd]
  rw[hB] at r1 r2 r3
  rw[gat2.cnt] at r2 r3
  cases hB2:((d.any fun z=>z.2.2.prop==e.prop&&z.2.2.leaf==e.leaf)||!YT e (Wg d e)||!decide (e.seen=(Wg d e).seen)) with
  | true=>
   obtain⟨fr',s',hr,t1,t2,t3,t4⟩:=r1 hB2
   have hI3:ac (m+1) Y WF (some s0.next) J13 s3=.ret fr' s':=by
    simp only[amE,rQ,↓reduceIte,rA,WF,b00,b11,b22,b33,H18,H19,H20,O18_35,O20_46,hr]
   exact .inr ⟨_,_,hI3,(t4 _ (by omega) (by omega) (by omega)).trans g3L,fin 2 _ (kindAt_2 (x:=(p,i,e)) hk1 hk2 hB2) (by omega) t1 t2 (by omega) (fun k hk=>(t4 k (by omega) (by omega) (by omega)).trans rfl)⟩
  | false=>
   cases hB3:(!(e.ver==(VF (ens d) e.leaf:Int))||!(e.ver==e.seen.getD e.leaf.toNat 0)) with
   | true=>
    obtain⟨fr',s',hr,t1,t2,t3,t4⟩:=r2 hB2 hB3
    have hI3:ac (m+1) Y WF (some s0.next) J13 s3=.ret fr' s':=by
     simp only[amE,rQ,↓reduceIte,rA,WF,b00,b11,b22,b33,H18,H19,H20,O18_35,O20_46,hr]
    exact .inr ⟨_,_,hI3,(t4 _ (by omega) (by omega) (by omega)).trans g3L,fin 3 _ (kindAt_3 (x:=(p,i,e)) hk1 hk2 hB2 true hB3) (by omega) t1 t2 (by omega) (fun k hk=>(t4 k (by omega) (by omega) (by omega)).trans rfl)⟩
   | false=>
    obtain⟨fr',s',n2,hr,t1,t2,t3,t4,t5,t6⟩:=r3 hB2 hB3
    have hI3:ac (m+1) Y WF (some s0.next) J13 s3=.norm fr' s':=by
     simp only[amE,rQ,↓reduceIte,rA,WF,b00,b11,b22,b33,H18,H19,H20,O18_35,O20_46,hr]
    have hfit:=ifits.snoc (kindAt_3 (x:=(p,i,e)) hk1 hk2 hB2 false hB3)
    refine .inl ⟨_,_,hI3,(t6 _ (by omega) (by omega) (by omega) (by omega)).trans g3L,by omega,⟨fun k h1 h2 h3=>(t6 k (by omega) (by omega) (by omega) (by omega)).trans (g3b k h1 h2 h3),by omega,hfit,PL.map (Pr.more e.prop (e.leaf,e.ver) n2),YH e.leaf mm,?_⟩⟩
    exact gat2.more hx hxq ((t6 _ (by omega) (by omega) (by omega) (by omega)).trans gat2.all) t1 t2 t3 t4 t5 (fun k h1 h2 h3 h4 h5=>t6 k h1 h3 h4 h5)
 ·
  rw[hxf] at lk
  have e3:Vf true 2 s3 (.ptr (s1.next+1) 3)=some (.agg [.int .i64 e.gate,e.vsl]):=WE a9 rfl rfl
  have e5:Vf true 3 s3 (.ptr (s1.next+1) 5)=some (.agg [a,b',c']):=WE a9 rfl rfl
  have e8:Vf false 1 s3 (.ptr (s1.next+1) 8)=some e.ssl:=Vk a9 rfl
  have hsc:e.ssl.cells=[e.ssl]:=by unfold En.ssl slI;cases e.snl<;>rfl
  have b7:=build7 (.int .i64 e.prop) (.int .i64 e.gate) e.vsl a b' c'
  have b10:=build10 (.int .i64 e.prop) (.int .i64 e.gate) e.vsl a b' c' .nilsl (ZI p) (ZI i) e.ssl hsc
  have hpr:YX e .nilsl p i=[.int .i64 e.prop,.int .i64 e.gate,e.vsl,a,b',c',.nilsl,ZI p,ZI i,e.ssl]:=by unfold YX;rw[hda];rfl
  obtain⟨s4,hs4⟩:∃ s4,s4=s3.new (.row [.int .i64 e.prop,.int .i64 e.gate,e.vsl,a,b',c',.nilsl,ZI p,ZI i,e.ssl]):=⟨_,rfl⟩
  have k34:Vd s3 s4:=by rw[hs4];exact Vd.new s3 _
  have g4n:s4.get (s1.next+2)=some (.row (YX e .nilsl p i)):=by rw[hs4,St.get_new,Qm n3.symm,hpr]
  have n4:s4.next=s1.next+3:=by rw[hs4];show s3.next+1=_;omega
  have gat4:=gat2.keep k34
  have l6':Vf false 1 s4 (.ptr (b+3) 0)=some (.map (b+2)):=Vk ((k34.2 _ (by omega)).trans hb3) rfl
  have a9':=(k34.2 (s1.next+1) (by omega)).trans a9
  have e2':Vf false 1 s4 (.ptr (s1.next+1) 2)=some (.int .i64 e.prop):=Vk a9' rfl
  have mu:=mapupP PL gat4.all e.prop hxf (.ptr (s1.next+2) 0)
  generalize hs5:s4.put (b+2) (.map (esP PL++[(.int .i64 e.prop,.ptr (s1.next+2) 0)]))=s5 at mu
  have g5:∀ k,k≠b+2->s5.get k=s4.get k:=fun k hk=>by rw[<-hs5,St.get_put,Qe hk]
  have g5A:s5.get (b+2)=some (.map (esP PL++[(.int .i64 e.prop,.ptr (s1.next+2) 0)])):=by rw[<-hs5,St.get_put,Qm rfl]
  have n5:s5.next=s1.next+3:=by rw[<-hs5];exact n4
  have g53:∀ k,k < s3.next->k≠b+2->s5.get k=s3.get k:=fun k h1 h2=>(g5 k h2).trans (k34.2 k h1)
  obtain⟨J21,H21,K21,O21_35⟩:∃ fr',VK ((gT (m+1)).cg Y) Ua [] J13 s3=.ok fr' s3/\Kp [2,4,5,6,7,8,9] J13 fr'/\fr'.get 35=some (.bool false):=⟨_,Wj rfl (by simp only[amE,rQ,↓reduceIte,rA,V13_2,V13_8,O13_9,Ua,faP,faF,YV,Ks,e0,hll,hgeq,ix,ldx,aa0,l81,hne,TM,Qc,Qb]<;>rfl),Kp.refl.s.s.s.s.s.s.s.s.s.s.s.s.s.s.s.s.s,gh⟩
  have V21_4:=K21.g 4 V13_4
  have V21_5:=K21.g 5 V13_5
  have V21_6:=K21.g 6 V13_6
  have V21_7:=K21.g 7 V13_7
  have V21_8:=K21.g 8 V13_8
  have V21_9:=K21.g 9 O13_9
  have W21:=K21.1.trans W13
  obtain⟨J22,H22,O22_10,O22_11⟩:∃ fr',ar (m+1) Y wg69_8 J21 s3=.ok fr' s3/\fr'.get 10=some (.nilptr)/\fr'.get 11=some (.bool false):=⟨_,by simp only[amE,rQ,↓reduceIte,rA,V21_6,V21_9,wg69_8,faP,l6,e2,lk,JL]<;>rfl,gn gh,gh⟩
  have V22_4:=ag H22 V21_4
  have V22_5:=ag H22 V21_5
  have V22_6:=ag H22 V21_6
  have V22_7:=ag H22 V21_7
  have V22_8:=ag H22 V21_8
  have V22_9:=ag H22 V21_9
  have W22:=ad H22 W21
  obtain⟨J23,H23,O23_46⟩:∃ fr',ar (m+1) Y wg69_9 J22 s3=.ok fr' s3/\fr'.get 46=some (.bool true):=⟨_,by simp only[amE,rQ,↓reduceIte,rA,O22_11,wg69_9,WN,Qb,Qc,Qb]<;>rfl,gh⟩
  have V23_4:=ag H23 V22_4
  have V23_5:=ag H23 V22_5
  have V23_6:=ag H23 V22_6
  have V23_7:=ag H23 V22_7
  have V23_8:=ag H23 V22_8
  have V23_9:=ag H23 V22_9
  have W23:=ad H23 W22
  obtain⟨J24,H24,O24_53⟩:∃ fr',ar (m+1) Y Sr J23 s3=.ok fr' s3/\fr'.get 53=some (.agg [.int .i64 e.prop,.int .i64 e.gate,e.vsl,a,b',c',.nilsl]):=⟨_,by simp only[amE,rQ,↓reduceIte,rA,V23_9,Sr,faP,e2,e3,e5,b7]<;>rfl,gh⟩
  have V24_4:=ag H24 V23_4
  have V24_5:=ag H24 V23_5
  have V24_6:=ag H24 V23_6
  have V24_7:=ag H24 V23_7
  have V24_8:=ag H24 V23_8
  have V24_9:=ag H24 V23_9
  have W24:=ad H24 W23
  obtain⟨J25,H25,O25_10⟩:∃ fr',ar (m+1) Y TR J24 s3=.ok fr' s4/\fr'.get 10=some (.ptr (s1.next+2) 0):=⟨_,by simp only[amE,rQ,↓reduceIte,rA,V24_8,V24_9,O24_53,TR,faP,l8,e8,b10,n3,hs4]<;>rfl,gh⟩
  have V25_4:=ag H25 V24_4
  have V25_5:=ag H25 V24_5
  have V25_6:=ag H25 V24_6
  have V25_7:=ag H25 V24_7
  have V25_8:=ag H25 V24_8
  have V25_9:=ag H25 V24_9
  have W25:=ad H25 W24
  have H26:ar (m+1) Y wg69_10 J23 s3=.ok J25 s4:=by show Vj _ (Sr++TR) _ _=_;rw[Yv H24];exact H25
  obtain⟨J27,H27⟩:∃ fr',ar (m+1) Y wg69_11 J25 s4=.ok fr' s5:=⟨_,by simp only[amE,rQ,↓reduceIte,rA,V25_6,V25_9,O25_10,wg69_11,faP,l6',e2',mu,nd_mapup]<;>rfl⟩
  have V27_4:=ag H27 V25_4
  have V27_5:=ag H27 V25_5
  have V27_7:=ag H27 V25_7
  have V27_8:=ag H27 V25_8
  have V27_9:=ag H27 V25_9
  have V27_10:=ag H27 O25_10
  have W27:=ad H27 W25
  obtain⟨r1,r2,r3⟩:=gath_rest (m:=m+1) (Y:=Y) (ro:=some s0.next) (s:=s5) (fr:=J27) (b:=b) (c7:=b+5) (M:=b+4) (a8:=s1.next) (a9:=s1.next+1) (id:=s1.next+2) (cid:=s1.next+9) (e:=e) (y:=e) (csl:=.nilsl) (cl:=[]) (mm:=mm) (p:=p) (i:=i) (yp:=p) (yi:=i)
   he he (by simp;omega) hlf (by omega) (by simp) hcm W27 V27_4 V27_5 V27_7 V27_8 V27_9 V27_10 ((g53 _ (by omega) (by omega)).trans hb0) ((g53 _ (by omega) (by omega)).trans hb1) ((g53 _ (by omega) (by omega)).trans hb5) ((g53 _ (by omega) (by omega)).trans gat2.mov) ((g53 _ (by omega) (by omega)).trans a8) (by rw[hcs];exact(g53 _ (by omega) (by omega)).trans a9) ((g5 _ (by omega)).trans g4n) (.inl ⟨rfl,rfl⟩) (by omega) (by omega) (by omega) (by omega) (by omega) (by omega) (by omega) ⟨by omega,by omega,by omega,by omega,by omega,by omega⟩ (.inl rfl) (by omega)
  have hB:(([]:List (Int × Int)).any (fun c=>c.1==e.leaf)||!YT e e||!decide (e.seen=e.seen))=((d.any fun z=>z.2.2.prop==e.prop&&z.2.2.leaf==e.leaf)||!YT e (Wg d e)||!decide (e.seen=(Wg d e).seen)):=by
   rw[firstE_none hxd]
   have:(d.any fun z=>z.2.2.prop==e.prop&&z.2.2.leaf==e.leaf)=false:=by
    rw[ZE];intro z hz h
    rw[Qd] at h
    exact XJ.1 hxd z hz h.1
   rw[this];rfl
  rw[hB] at r1 r2 r3
  rw[gat2.cnt] at r2 r3
  cases hB2:((d.any fun z=>z.2.2.prop==e.prop&&z.2.2.leaf==e.leaf)||!YT e (Wg d e)||!decide (e.seen=(Wg d e).seen)) with
  | true=>
   obtain⟨fr',s',hr,t1,t2,t3,t4⟩:=r1 hB2
   have hI3:ac (m+1) Y WF (some s0.next) J13 s3=.ret fr' s':=by
    simp only[amE,rQ,↓reduceIte,rA,WF,b00,b11,b22,b33,H21,H22,H23,H26,H27,O21_35,O23_46,hr]
   exact .inr ⟨_,_,hI3,(t4 _ (by omega) (by omega) (by omega)).trans ((g53 _ (by omega) (by omega)).trans g3L),fin 2 _ (kindAt_2 (x:=(p,i,e)) hk1 hk2 hB2) (by omega) t1 t2 (by omega) (fun k hk=>(t4 k (by omega) (by omega) (by omega)).trans (g53 k (by omega) (by omega)))⟩
  | false=>
   cases hB3:(!(e.ver==(VF (ens d) e.leaf:Int))||!(e.ver==e.seen.getD e.leaf.toNat 0)) with
   | true=>
    obtain⟨fr',s',hr,t1,t2,t3,t4⟩:=r2 hB2 hB3
    have hI3:ac (m+1) Y WF (some s0.next) J13 s3=.ret fr' s':=by
     simp only[amE,rQ,↓reduceIte,rA,WF,b00,b11,b22,b33,H21,H22,H23,H26,H27,O21_35,O23_46,hr]
    exact .inr ⟨_,_,hI3,(t4 _ (by omega) (by omega) (by omega)).trans ((g53 _ (by omega) (by omega)).trans g3L),fin 3 _ (kindAt_3 (x:=(p,i,e)) hk1 hk2 hB2 true hB3) (by omega) t1 t2 (by omega) (fun k hk=>(t4 k (by omega) (by omega) (by omega)).trans (g53 k (by omega) (by omega)))⟩
   | false=>
    obtain⟨fr',s',n2,hr,t1,t2,t3,t4,t5,t6⟩:=r3 hB2 hB3
    have hI3:ac (m+1) Y WF (some s0.next) J13 s3=.norm fr' s':=by
     simp only[amE,rQ,↓reduceIte,rA,WF,b00,b11,b22,b33,H21,H22,H23,H26,H27,O21_35,O23_46,hr]
    have hfit:=ifits.snoc (kindAt_3 (x:=(p,i,e)) hk1 hk2 hB2 false hB3)
    refine .inl ⟨_,_,hI3,(t6 _ (by omega) (by omega) (by omega) (by omega)).trans ((g53 _ (by omega) (by omega)).trans g3L),by omega,⟨fun k h1 h2 h3=>(t6 k (by omega) (by omega) (by omega) (by omega)).trans ((g53 k (by omega) h2).trans (g3b k h1 h2 h3)),by omega,hfit,PL++[⟨e,p,i,[(e.leaf,e.ver)],s1.next+2,n2⟩],YH e.leaf mm,?_⟩⟩
    exact gat2.new (n1:=s1.next+2) (n2:=n2) hxn ((t6 _ (by omega) (by omega) (by omega) (by omega)).trans g5A) t1 t2 t3 (by omega) (by omega) (by omega) (by omega) t5 (fun k h1 h2 h3=>(t6 k (by omega) h3 (by omega) (by omega)).trans (g53 k h1 h2))
open Nat renaming reduceEqDiff -> rQ, reduceAdd -> rA
set_option maxHeartbeats 1000000 in
theorem gathered_run{F:Nat->Prop}{st:St}{lv pv jv:AV}{ls:List (List AV)}{ps:List Int}{N:Int}{js:List (AV × List En)}(hl:SlN 1 F st lv ls)(hp:SlI F st pv ps)(hj:YQ F st jv js)(hF:∀ i,F i->i < st.next)(hP:ps.length=ls.length)(hA:JK ls.length N js=true)(m:Nat)(Y:Vi)(hn:fzJ js+5000 < m):
  ∃ st' v r,R (m+2) Y 69 [.agg [lv,pv,.int .i64 N],jv] st=.ret (.tuple [v,.agg r]) st'/\Vd st st' ∧
   ((KC ls.length ps (Vq js)/\v=.map (st.next+2)/\r=[Z0,Z0,Z0]/\∃ PL mm,Y5 (st.next+2) (st.next+4) (st.next+8) (Vq js) st' PL mm) ∨
    (v=.nilmap/\∃ d x rr,Vq js=d++x::rr/\KC ls.length ps d/\Wp ls.length ps d x≠0/\r=[ZI ((Wp ls.length ps d x)),ZI x.1,ZI x.2.1])):=by
 have hone:AV.one jv=true:=hj.1.one
 have sto1:Vt 1 ((((st.new (.row [.nilmap])).new (.row [Z0,Z0,Z0])).new (.map [])).new (.row [.nilmap])) (.ptr (((st.new (.row [.nilmap])).new (.row [Z0,Z0,Z0])).new (.map [])).next 0) (.map ((st.new (.row [.nilmap])).new (.row [Z0,Z0,Z0])).next)=some (((((st.new (.row [.nilmap])).new (.row [Z0,Z0,Z0])).new (.map [])).new (.row [.nilmap])).put (((st.new (.row [.nilmap])).new (.row [Z0,Z0,Z0])).new (.map [])).next (.row [.map ((st.new (.row [.nilmap])).new (.row [Z0,Z0,Z0])).next])):=VQ rfl rfl rfl
 have sto2:Vt 1 (((((((st.new (.row [.nilmap])).new (.row [Z0,Z0,Z0])).new (.map [])).new (.row [.nilmap])).put (((st.new (.row [.nilmap])).new (.row [Z0,Z0,Z0])).new (.map [])).next (.row [.map ((st.new (.row [.nilmap])).new (.row [Z0,Z0,Z0])).next])).new (.map [])).new (.row [.nilmap])) (.ptr ((((((st.new (.row [.nilmap])).new (.row [Z0,Z0,Z0])).new (.map [])).new (.row [.nilmap])).put (((st.new (.row [.nilmap])).new (.row [Z0,Z0,Z0])).new (.map [])).next (.row [.map ((st.new (.row [.nilmap])).new (.row [Z0,Z0,Z0])).next])).new (.map [])).next 0) (.map (((((st.new (.row [.nilmap])).new (.row [Z0,Z0,Z0])).new (.map [])).new (.row [.nilmap])).put (((st.new (.row [.nilmap])).new (.row [Z0,Z0,Z0])).new (.map [])).next (.row [.map ((st.new (.row [.nilmap])).new (.row [Z0,Z0,Z0])).next])).next)=some ((((((((st.new (.row [.nilmap])).new (.row [Z0,Z0,Z0])).new (.map [])).new (.row [.nilmap])).put (((st.new (.row [.nilmap])).new (.row [Z0,Z0,Z0])).new (.map [])).next (.row [.map ((st.new (.row [.nilmap])).new (.row [Z0,Z0,Z0])).next])).new (.map [])).new (.row [.nilmap])).put ((((((st.new (.row [.nilmap])).new (.row [Z0,Z0,Z0])).new (.map [])).new (.row [.nilmap])).put (((st.new (.row [.nilmap])).new (.row [Z0,Z0,Z0])).new (.map [])).next (.row [.map ((st.new (.row [.nilmap])).new (.row [Z0,Z0,Z0])).next])).new (.map [])).next (.row [.map (((((st.new (.row [.nilmap])).new (.row [Z0,Z0,Z0])).new (.map [])).new (.row [.nilmap])).put (((st.new (.row [.nilmap])).new (.row [Z0,Z0,Z0])).new (.map [])).next (.row [.map ((st.new (.row [.nilmap])).new (.row [Z0,Z0,Z0])).next])).next])):=VQ rfl rfl rfl
 have e65:((gT (m+1)).cg Y).fn 65 [jv] ((((((((st.new (.row [.nilmap])).new (.row [Z0,Z0,Z0])).new (.map [])).new (.row [.nilmap])).put (((st.new (.row [.nilmap])).new (.row [Z0,Z0,Z0])).new (.map [])).next (.row [.map ((st.new (.row [.nilmap])).new (.row [Z0,Z0,Z0])).next])).new (.map [])).new (.row [.nilmap])).put ((((((st.new (.row [.nilmap])).new (.row [Z0,Z0,Z0])).new (.map [])).new (.row [.nilmap])).put (((st.new (.row [.nilmap])).new (.row [Z0,Z0,Z0])).new (.map [])).next (.row [.map ((st.new (.row [.nilmap])).new (.row [Z0,Z0,Z0])).next])).new (.map [])).next (.row [.map (((((st.new (.row [.nilmap])).new (.row [Z0,Z0,Z0])).new (.map [])).new (.row [.nilmap])).put (((st.new (.row [.nilmap])).new (.row [Z0,Z0,Z0])).new (.map [])).next (.row [.map ((st.new (.row [.nilmap])).new (.row [Z0,Z0,Z0])).next])).next]))=.ret (.func (.func 107) [] [.ptr (st.next+6) 0]) (((((((((st.new (.row [.nilmap])).new (.row [Z0,Z0,Z0])).new (.map [])).new (.row [.nilmap])).put (((st.new (.row [.nilmap])).new (.row [Z0,Z0,Z0])).new (.map [])).next (.row [.map ((st.new (.row [.nilmap])).new (.row [Z0,Z0,Z0])).next])).new (.map [])).new (.row [.nilmap])).put ((((((st.new (.row [.nilmap])).new (.row [Z0,Z0,Z0])).new (.map [])).new (.row [.nilmap])).put (((st.new (.row [.nilmap])).new (.row [Z0,Z0,Z0])).new (.map [])).next (.row [.map ((st.new (.row [.nilmap])).new (.row [Z0,Z0,Z0])).next])).new (.map [])).next (.row [.map (((((st.new (.row [.nilmap])).new (.row [Z0,Z0,Z0])).new (.map [])).new (.row [.nilmap])).put (((st.new (.row [.nilmap])).new (.row [Z0,Z0,Z0])).new (.map [])).next (.row [.map ((st.new (.row [.nilmap])).new (.row [Z0,Z0,Z0])).next])).next])).new (.row [jv])):=S6 jv hone m Y _
 obtain⟨s0,hs0⟩:∃ s0,s0=((((((((st.new (.row [.nilmap])).new (.row [Z0,Z0,Z0])).new (.map [])).new (.row [.nilmap])).put (((st.new (.row [.nilmap])).new (.row [Z0,Z0,Z0])).new (.map [])).next (.row [.map ((st.new (.row [.nilmap])).new (.row [Z0,Z0,Z0])).next])).new (.map [])).new (.row [.nilmap])).put ((((((st.new (.row [.nilmap])).new (.row [Z0,Z0,Z0])).new (.map [])).new (.row [.nilmap])).put (((st.new (.row [.nilmap])).new (.row [Z0,Z0,Z0])).new (.map [])).next (.row [.map ((st.new (.row [.nilmap])).new (.row [Z0,Z0,Z0])).next])).new (.map [])).next (.row [.map (((((st.new (.row [.nilmap])).new (.row [Z0,Z0,Z0])).new (.map [])).new (.row [.nilmap])).put (((st.new (.row [.nilmap])).new (.row [Z0,Z0,Z0])).new (.map [])).next (.row [.map ((st.new (.row [.nilmap])).new (.row [Z0,Z0,Z0])).next])).next])).new (.row [jv]):=⟨_,rfl⟩
 rw[<-hs0] at e65
 have ks:Vd st s0:=by
  rw[hs0]
  exact(((((((((Vd.new st _).trans (Vd.new _ _)).trans (Vd.new _ _)).trans (Vd.new _ _)).put _ _ (by simp;omega)).trans (Vd.new _ _)).trans (Vd.new _ _)).put _ _ (by simp;omega)).trans (Vd.new _ _))
 have nb:s0.next=st.next+7:=by rw[hs0];rfl
 have q0:s0.get st.next=some (.row [.nilmap]):=by rw[hs0];simp[St.get_new,St.get_put,X1]
 have q1:s0.get (st.next+1)=some z3:=by rw[hs0];simp[St.get_new,St.get_put,X1,z3]
 have q2:s0.get (st.next+2)=some (.map []):=by rw[hs0];simp[St.get_new,St.get_put,X1]
 have q3:s0.get (st.next+3)=some (.row [.map (st.next+2)]):=by rw[hs0];simp[St.get_new,St.get_put,X1]
 have q4:s0.get (st.next+4)=some (.map []):=by rw[hs0];simp[St.get_new,St.get_put,X1]
 have q5:s0.get (st.next+5)=some (.row [.map (st.next+4)]):=by rw[hs0];simp[St.get_new,St.get_put,X1]
 have q6:s0.get (st.next+6)=some (.row [jv]):=by rw[hs0];simp[St.get_new,St.get_put,X1]
 obtain⟨fA28,hA28⟩:∃ fA,fA=Vo 0 [.agg [lv,pv,.int .i64 N],jv] Fr.nil:=⟨_,rfl⟩
 have gA28_0:=gAt hA28 0
 have gA28_1:=gAt hA28 1
 have dA28:fA28.ds=[]:=by rw[hA28];rfl
 obtain⟨J29,H29,O29_2,O29_4,O29_5⟩:∃ fr',ar (m+1) Y wg69_0 fA28 st=.ok fr' ((st.new (.row [.nilmap])).new (.row [Z0,Z0,Z0]))/\fr'.get 2=some (.fptr [lv,pv,.int .i64 N] 0)/\fr'.get 4=some (.ptr st.next 0)/\fr'.get 5=some (.ptr (st.next+1) 0):=⟨_,by simp only[amE,rQ,↓reduceIte,rA,gA28_0,wg69_0]<;>rfl,gn (gn gh),gn gh,gh⟩
 have V29_1:=ag H29 gA28_1
 have W29:=ad H29 dA28
 obtain⟨J30,H30,O30_6⟩:∃ fr',ar (m+1) Y wg69_1 J29 ((st.new (.row [.nilmap])).new (.row [Z0,Z0,Z0]))=.ok fr' (((((st.new (.row [.nilmap])).new (.row [Z0,Z0,Z0])).new (.map [])).new (.row [.nilmap])).put (((st.new (.row [.nilmap])).new (.row [Z0,Z0,Z0])).new (.map [])).next (.row [.map ((st.new (.row [.nilmap])).new (.row [Z0,Z0,Z0])).next]))/\fr'.get 6=some (.ptr (st.next+3) 0):=⟨_,by simp only[amE,rQ,↓reduceIte,rA,wg69_1,sto1,nd_mkmap]<;>rfl,gh⟩
 have V30_1:=ag H30 V29_1
 have V30_2:=ag H30 O29_2
 have V30_4:=ag H30 O29_4
 have V30_5:=ag H30 O29_5
 have W30:=ad H30 W29
 obtain⟨J31,H31,O31_7⟩:∃ fr',ar (m+1) Y wg69_2 J30 (((((st.new (.row [.nilmap])).new (.row [Z0,Z0,Z0])).new (.map [])).new (.row [.nilmap])).put (((st.new (.row [.nilmap])).new (.row [Z0,Z0,Z0])).new (.map [])).next (.row [.map ((st.new (.row [.nilmap])).new (.row [Z0,Z0,Z0])).next]))=.ok fr' ((((((((st.new (.row [.nilmap])).new (.row [Z0,Z0,Z0])).new (.map [])).new (.row [.nilmap])).put (((st.new (.row [.nilmap])).new (.row [Z0,Z0,Z0])).new (.map [])).next (.row [.map ((st.new (.row [.nilmap])).new (.row [Z0,Z0,Z0])).next])).new (.map [])).new (.row [.nilmap])).put ((((((st.new (.row [.nilmap])).new (.row [Z0,Z0,Z0])).new (.map [])).new (.row [.nilmap])).put (((st.new (.row [.nilmap])).new (.row [Z0,Z0,Z0])).new (.map [])).next (.row [.map ((st.new (.row [.nilmap])).new (.row [Z0,Z0,Z0])).next])).new (.map [])).next (.row [.map (((((st.new (.row [.nilmap])).new (.row [Z0,Z0,Z0])).new (.map [])).new (.row [.nilmap])).put (((st.new (.row [.nilmap])).new (.row [Z0,Z0,Z0])).new (.map [])).next (.row [.map ((st.new (.row [.nilmap])).new (.row [Z0,Z0,Z0])).next])).next]))/\fr'.get 7=some (.ptr (st.next+5) 0):=⟨_,by simp only[amE,rQ,↓reduceIte,rA,wg69_2,sto2,nd_mkmap]<;>rfl,gh⟩
 have V31_1:=ag H31 V30_1
 have V31_2:=ag H31 V30_2
 have V31_4:=ag H31 V30_4
 have V31_5:=ag H31 V30_5
 have V31_6:=ag H31 O30_6
 have W31:=ad H31 W30
 obtain⟨J32,H32,O32_16⟩:∃ fr',ar (m+1) Y wg69_3 J31 ((((((((st.new (.row [.nilmap])).new (.row [Z0,Z0,Z0])).new (.map [])).new (.row [.nilmap])).put (((st.new (.row [.nilmap])).new (.row [Z0,Z0,Z0])).new (.map [])).next (.row [.map ((st.new (.row [.nilmap])).new (.row [Z0,Z0,Z0])).next])).new (.map [])).new (.row [.nilmap])).put ((((((st.new (.row [.nilmap])).new (.row [Z0,Z0,Z0])).new (.map [])).new (.row [.nilmap])).put (((st.new (.row [.nilmap])).new (.row [Z0,Z0,Z0])).new (.map [])).next (.row [.map ((st.new (.row [.nilmap])).new (.row [Z0,Z0,Z0])).next])).new (.map [])).next (.row [.map (((((st.new (.row [.nilmap])).new (.row [Z0,Z0,Z0])).new (.map [])).new (.row [.nilmap])).put (((st.new (.row [.nilmap])).new (.row [Z0,Z0,Z0])).new (.map [])).next (.row [.map ((st.new (.row [.nilmap])).new (.row [Z0,Z0,Z0])).next])).next]))=.ok fr' s0/\fr'.get 16=some (.func (.func 107) [] [.ptr (st.next+6) 0]):=⟨_,by simp only[amE,rQ,↓reduceIte,rA,V31_1,wg69_3,e65]<;>rfl,gh⟩
 have V32_2:=ag H32 V31_2
 have V32_4:=ag H32 V31_4
 have V32_5:=ag H32 V31_5
 have V32_6:=ag H32 V31_6
 have V32_7:=ag H32 O31_7
 have W32:=ad H32 W31
 have d0:J32.ds=[]:=W32
 obtain⟨s',hh⟩:=SI (ps:=[17,18]) (asg:=wa69_0) (body:=WF) (fr:=J32) (s:=s0) hj m Y (by omega) (x:=.t 16) (c:=st.next+6) (by show (J32.get 16).getD .undef=_;rw[O32_16];rfl) rfl (Inv:=GInv st s0 st.next ls.length ps) (Fin:=GFin st.next ls.length ps (Vq js) s0)
  (fun d s1 h=>⟨fun i hi=>by have:=hF i hi;rw[h.old i (by omega) (by omega) (by omega)];exact ks.2 i this,by rw[h.old (st.next+6) (by omega) (by omega) (by omega)];exact q6⟩)
  (fun d s1 s2 h k=>by
   have hn:=h.nx
   obtain⟨PL,mm,hg⟩:=h.gat
   exact⟨fun i h1 h2 h3=>(k.2 i (by omega)).trans (h.old i h1 h2 h3),QY hn k.1,h.fits,PL,mm,hg.keep k⟩)
  (fun d s1 l h=>by
   obtain⟨PL,mm,hg⟩:=h.gat
   exact⟨fun i h1 h2 h3=>by rw[St.get_put,Qe (by omega)];exact h.old i h1 h2 h3,h.nx,h.fits,PL,mm,hg.low (by omega) (by omega) (by omega) _⟩)
  (fun s1 l h=>by
   obtain⟨h1,h2,d,x,r,h3,h4,h5,h6,h7⟩:=h
   exact⟨fun i hi=>by rw[St.get_put,Qe (by omega)];exact h1 i hi,h2,d,x,r,h3,h4,h5,by rw[St.get_put,Qe (by omega)];exact h6,by rw[St.get_put,Qe (by omega)];exact h7⟩)
  ⟨fun i h1 h2 h3=>by rw[St.get_new,Qe (by omega)],by show st.next+8<=s0.next+1;omega,KC.nil _ _,[],[],⟨by rw[St.get_new,Qe (by omega)];exact q2,by rw[St.get_new,Qe (by omega)];exact q4,fun q=>rfl,rfl,fun x hx=>by simp at hx,by simp,by omega,by omega,by show st.next+8<=s0.next+1;omega⟩⟩
  (fun p i q e s1 h1 h2 h3 h4 h5=>gath_round hl hp hj hF hP hA m Y hn nb ks rfl q0 q1 q3 q5 d0 V32_2 V32_4 V32_5 V32_6 V32_7 h1 h2 h3 h4 h5)
 obtain⟨FS,hFS⟩:∃ FS:Fr,FS={ J32 with ds:=.coll::J32.ds }:=⟨_,rfl⟩
 rw[<-hFS] at hh
 have F4:FS.get 4=some (.ptr st.next 0):=by rw[hFS];exact V32_4
 have F5:FS.get 5=some (.ptr (st.next+1) 0):=by rw[hFS];exact V32_5
 have F6:FS.get 6=some (.ptr (st.next+3) 0):=by rw[hFS];exact V32_6
 have dS:FS.ds=[.coll]:=by rw[hFS,d0]
 rcases hh with⟨hR,hI,_⟩|⟨hR,hI⟩
 ·have hR:ac (m+1) Y wr69_0 none J32 s0=.norm FS s':=hR
  obtain⟨PL,mm,hg⟩:=hI.gat
  have nx':=hI.nx
  have i0:=(hI.old st.next (by omega) (by omega) (by omega)).trans q0
  have i1:=(hI.old (st.next+1) (by omega) (by omega) (by omega)).trans q1
  unfold z3 at i1
  have l6:Vf false 1 s' (.ptr (st.next+3) 0)=some (.map (st.next+2)):=Vk ((hI.old (st.next+3) (by omega) (by omega) (by omega)).trans q3) rfl
  have t1:Vt 1 s' (.ptr st.next 0) (.map (st.next+2))=some (s'.put st.next (.row [.map (st.next+2)])):=V4 i0 rfl rfl (by simp) rfl
  have t2:Vt 3 (s'.put st.next (.row [.map (st.next+2)])) (.ptr (st.next+1) 0) (.agg [Z0,Z0,Z0])=some ((s'.put st.next (.row [.map (st.next+2)])).put (st.next+1) (.row [Z0,Z0,Z0])):=V4 (by rw[St.get_put,Qe (by omega)];exact i1) rfl rfl (by simp) rfl
  have r1:Vf false 1 ((s'.put st.next (.row [.map (st.next+2)])).put (st.next+1) (.row [Z0,Z0,Z0])) (.ptr st.next 0)=some (.map (st.next+2)):=Vk (x:=[.map (st.next+2)]) (by rw[St.get_put,Qe (by omega),St.get_put,Qm rfl]) rfl
  have r2:Vf true 3 ((s'.put st.next (.row [.map (st.next+2)])).put (st.next+1) (.row [Z0,Z0,Z0])) (.ptr (st.next+1) 0)=some (.agg [Z0,Z0,Z0]):=Wk (by rw[St.get_put,Qm rfl]) rfl
  have kk:Vd st ((s'.put st.next (.row [.map (st.next+2)])).put (st.next+1) (.row [Z0,Z0,Z0])):=⟨by show st.next<=s'.next;omega,fun i hi=>by rw[St.get_put,Qe (by omega),St.get_put,Qe (by omega),hI.old i (by omega) (by omega) (by omega)];exact ks.2 i hi⟩
  have hg2:=(hg.low (id:=st.next) (by omega) (by omega) (by omega) (.row [.map (st.next+2)])).low (id:=st.next+1) (by omega) (by omega) (by omega) (.row [Z0,Z0,Z0])
  obtain⟨J34,H34⟩:∃ fr',ar (m+1) Y wg69_19 FS s'=.ok fr' ((s'.put st.next (.row [.map (st.next+2)])).put (st.next+1) (.row [Z0,Z0,Z0])):=⟨_,by simp only[amE,rQ,↓reduceIte,rA,F4,F5,F6,wg69_19,l6,build3z,t1,t2]<;>rfl⟩
  have V34_4:=ag H34 F4
  have V34_5:=ag H34 F5
  have W34:=ad H34 dS
  refine⟨_,_,_,fun_of2 (mf:=wf69) (fr:=J34) t69 rfl (.inl ?q34) (coll_one W34) (by simp only[wf69,amE,V34_4,V34_5,r1,r2]),kk,.inl ⟨hI.fits,rfl,rfl,PL,mm,hg2⟩⟩
  case q34=>
   rw[<-hA28]
   simp only[amE,rQ,↓reduceIte,rA,wf69,b00,b11,b22,b33,H29,H30,H31,H32,hR,H34]
 ·have hR:ac (m+1) Y wr69_0 none J32 s0=.ret FS s':=hR
  obtain⟨y1,y2,d,x,rr,y3,y4,y5,y6,y7⟩:=hI
  have r1:Vf false 1 s' (.ptr st.next 0)=some .nilmap:=Vk y6 rfl
  have r2:Vf true 3 s' (.ptr (st.next+1) 0)=some (.agg [ZI ((Wp ls.length ps d x)),ZI x.1,ZI x.2.1]):=Wk y7 rfl
  have kk:Vd st s':=⟨by omega,fun i hi=>(y1 i hi).trans (ks.2 i hi)⟩
  refine⟨_,_,_,fun_of2 (mf:=wf69) (fr:=FS) t69 rfl (.inl ?q35) (coll_one dS) (by simp only[wf69,amE,F4,F5,r1,r2]),kk,.inr ⟨rfl,d,x,rr,y3,y4,y5,rfl⟩⟩
  case q35=>
   rw[<-hA28]
   simp only[amE,rQ,↓reduceIte,rA,wf69,b00,b11,b22,b33,H29,H30,H31,H32,hR]
def Vw(k:Nat)(f:Nat->Nat):List AV:=(List.range k).map fun i=>ZI ((f i))
theorem Jj(k:Nat)(f:Nat->Nat):(Vw k f).length=k:=by simp[Vw]
theorem Jv{k:Nat}{f:Nat->Nat}{j:Nat}(h:j < k):(Vw k f)[j]?=some (ZI ((f j))):=by
 unfold Vw;rw[Q5,List.getElem?_range h];rfl
theorem rowN_set{k:Nat}{f:Nat->Nat}{j:Nat}(h:j < k)(v:Nat):setCells (Vw k f) j [ZI v]=Vw k (fun i=>if i=j then v else f i):=by
 have hl:(setCells (Vw k f) j [ZI v]).length=k:=by rw[TS _ _ _ (by rw[Jj];simp;omega),Jj]
 refine Zn fun i=>?_
 by_cases hi:i < k
 ·rw[Jv hi]
  unfold setCells
  by_cases h1:i < j
  ·rw[Xk (by rw[Xl,Jj];omega),X6,Qm h1,Jv hi,Qe (by omega)]
  ·rw[Xg (by rw[Xl,Jj];omega),Xl,Jj,Zw (by omega)]
   by_cases h2:i=j
   ·subst h2;rw[ZJ,Qm rfl];rfl
   ·rw[Qe h2,Xg (by simp;omega),XV]
    simp only[QC,X2]
    rw[show j+(0+1)+(i - j - (0+1))=i by omega,Jv hi]
 ·rw[Za (by omega),Za (by rw[Jj];omega)]
theorem zrep_row(k:Nat):Yl [Z0] k=Vw k fun _=>0:=by
 have h:∀ k,Yl [ZI 0] k=List.replicate k Z0:=fun k=>by
  induction k with
  | zero=>rfl
  | succ k ih=>unfold Yl;rw[ih];rfl
 rw[h]
 unfold Vw
 rw[List.map_const',Zo]
def VB(l:List (Int × Int))(i:Nat):Nat:=(l.filter fun c=>c.1==(i:Int)).length
theorem cntC_app(l l':List (Int × Int))(i:Nat):VB (l++l') i=VB l i+VB l' i:=by unfold VB;simp
theorem cntC_perm{l l':List (Int × Int)}(h:l.Perm l')(i:Nat):VB l i=VB l' i:=(h.filter _).length_eq
theorem UY(l:List (Int × Int))(i:Nat):VB l i<=l.length:=Zc ..
theorem cntC_snoc(l:List (Int × Int))(c:Int × Int)(j:Nat)(hj:c.1=(j:Int))(i:Nat):VB (l++[c]) i=if i=j then VB l j+1 else VB l i:=by
 rw[cntC_app]
 unfold VB
 simp only[Va,List.filter_nil,hj]
 by_cases h:i=j
 ·subst h;simp
 ·have h2:((j:Int)==(i:Int))=false:=by simp;omega
  rw[Qe h,h2];simp
theorem all_claims(l:List En):∀ Q:List Int,Q.Nodup->(∀ e∈l,e.prop∈Q)->((Q.flatMap (clE l)).length=l.length)/\∀ i:Nat,VB (Q.flatMap (clE l)) i=VF l i:=by
 -- by entries
 have key:∀(p:En->Bool) (l:List En) (Q:List Int),Q.Nodup->(∀ e∈l,e.prop∈Q)->(Q.map fun q=>((l.filter fun e=>e.prop==q).filter p).length).sum=(l.filter p).length:=by
  intro p l
  induction l with
  | nil=>
   intro Q _ _
   have:∀ Q:List Int,(Q.map fun _=>0).sum=0:=fun Q=>by
    induction Q with
    | nil=>rfl
    | cons q Q ih=>simp only[Q4,Zq,ih]
   exact this Q
  | cons e l ih=>
   intro Q hn hm
   have one:∀ Q:List Int,Q.Nodup->(Q.map fun q=>(((e::l).filter fun e=>e.prop==q).filter p).length).sum=(Q.map fun q=>((l.filter fun e=>e.prop==q).filter p).length).sum+(if e.prop∈Q/\p e=true then 1 else 0):=by
    intro Q
    induction Q with
    | nil=>intro _;simp
    | cons q Q ih=>
     intro hn
     rw[Zz] at hn
     have:=ih hn.2
     simp only[Q4,Zq,this]
     by_cases hq:e.prop=q
     ·have h1:(e.prop==q)=true:=by simpa using hq
      have h2:¬ e.prop∈Q:=hq ▸ hn.1
      simp only[Va,h1,Xj]
      by_cases hp:p e=true
      ·simp only[hp,Xj,QC]
       rw[Qe (by simp[h2]),Qm (by simp[hq])];omega
      ·simp only[hp,Xz]
       rw[Qe (by simp),Qe (by simp)];simp
     ·have h1:(e.prop==q)=false:=by simpa using hq
      simp only[Va,h1,Q1,Xz,Qx,hq,false_or]
      omega
   rw[one Q hn,ih Q hn (fun x hx=>hm x (by simp[hx]))]
   by_cases hp:p e=true
   ·rw[Qm ⟨hm e (by simp),hp⟩];simp[hp]
   ·rw[Qe (by simp[hp])];simp[hp]
 intro Q hn hm
 constructor
 ·rw[Zj]
  have:=key (fun _=>true) l Q hn hm
  have ft:∀ m:List En,m.filter (fun _=>true)=m:=fun m=>List.filter_eq_self.2 fun _ _=>rfl
  rw[ft] at this
  rw[<-this]
  congr 1
  refine QX fun q _=>?_
  rw[ft]
  unfold clE;rw[Qu]
 ·intro i
  have:=key (fun e=>e.leaf==(i:Int)) l Q hn hm
  unfold VB VF
  rw[<-this,List.filter_flatMap,Zj]
  congr 1
  refine QX fun q _=>?_
  unfold clE
  rw[List.filter_map,Qu]
  congr 1
theorem UQ(l:List En)(out:List Int)(i:Nat):Wa l out i=VB (out.flatMap (clE l)) i:=rfl
theorem clE_ne{l:List En}{q:Int}(h:q∈V6 l):clE l q≠[]:=by
 obtain⟨e,he,hq⟩:=(YK _ _).1 h
 intro h0
 have:(e.leaf,e.ver)∈clE l q:=Tg.2 ⟨e,he,hq,rfl,rfl⟩
 rw[h0] at this;simp at this
theorem insI_sorted(x:Int):∀ l:List Int,l.Pairwise (·<=·)->(insI x l).Pairwise (·<=·)
 | [],_=>by simp[insI]
 | y::ys,h=>by
  unfold insI
  rw[X8] at h
  by_cases hxy:x<=y
  ·rw[Qs hxy]
   refine X8.2 ⟨fun z hz=>?_,X8.2 h⟩
   rcases Qx.1 hz with rfl | hz
   ·exact hxy
   ·have:=h.1 z hz;omega
  ·rw[Qp hxy]
   refine X8.2 ⟨fun z hz=>?_,insI_sorted x ys h.2⟩
   rcases Qx.1 ((insI_perm x ys).mem_iff.1 hz) with rfl | hz
   ·omega
   ·exact h.1 z hz
theorem sortI_sorted:∀ l:List Int,(Wn l).Pairwise (·<=·)
 | []=>List.Pairwise.nil
 | x::l=>insI_sorted x _ (sortI_sorted l)
theorem ascI_of:∀{l:List Int},l.Pairwise (· < ·)->ascI l=true
 | [],_=>rfl
 | [x],_=>rfl
 | x::y::l,h=>by
  rw[X8] at h
  simp only[ascI,Qd,QF]
  exact⟨h.1 y (by simp),ascI_of h.2⟩
theorem sortI_asc{l:List Int}(h:l.Nodup):ascI (Wn l)=true:=by
 refine ascI_of ?_
 have h2:=(WA l).nodup_iff.2 h
 exact((sortI_sorted l).and h2).imp fun⟨a,b⟩=>by omega
end Go.AM.D32
