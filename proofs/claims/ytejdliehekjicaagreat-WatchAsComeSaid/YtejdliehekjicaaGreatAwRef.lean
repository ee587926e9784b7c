import Derived.Test.YtejdliehekjicaaGreatAwRep
set_option maxRecDepth 100000
set_option linter.unusedSimpArgs false
namespace Go.AM.D32
open Go Go.AM
open Nat renaming reduceEqDiff -> rQ, reduceAdd -> rA
section
variable {Γ:Cg} {dst:Option Nat} {gd:Option (Nat × Bool)} {ms:List Vc} {fr:Fr} {st:St}
theorem nd_max{a b}:Vj Γ (⟨dst,(MOp.max a b),gd⟩::ms) fr st=ndR Γ dst gd ms fr st (MOp.max a b):=VE rfl
theorem Jy{a b c}:Vj Γ (⟨dst,(MOp.mkfn a b c),gd⟩::ms) fr st=ndR Γ dst gd ms fr st (MOp.mkfn a b c):=VE rfl
theorem Kx{a b c d e}:Vj Γ (⟨dst,(MOp.slice a b c d e),gd⟩::ms) fr st=ndR Γ dst gd ms fr st (MOp.slice a b c d e):=VE rfl
theorem TM{a b c d}:Vj Γ (⟨dst,(MOp.aaddr a b c d),gd⟩::ms) fr st=ndR Γ dst gd ms fr st (MOp.aaddr a b c d):=VE rfl
end
theorem kloop{Γ:Gam}{Y:Vi}{m N c i n i2:Nat}{ro:Option Nat}{B:Vn}{L:List Nat}{fr0:Fr}{Q:Nat->Fr->St->Prop}{Post:Fr->St->Prop}
  (hc:c∉i::L) (hi:i∉L) (hi2:i2∉L) (hn:n∈L) (g0:fr0.get n=some (ZI N)) (hN:N<=9223372036854775807)
  (hQ:∀ k fr st s v,(s=c\/s=i\/s=i2)->Q k fr st->Q k (fr.set s v) st)
  (hB:∀ k fr st,k < N->Kp L fr0 fr->fr.get i=some (ZI k)->Q k fr st ->
   (∃ FR st',Vh Γ Y m B ro fr st=.norm FR st'/\Kp (i::L) fr FR/\Q (k+1) FR st')\/(∃ FR st',Vh Γ Y m B ro fr st=.ret FR st'/\Post FR st')):
  ∀(j k:Nat) (fr:Fr) (st:St) (fuel:Nat),k+j=N->j < fuel->Kp L fr0 fr->fr.get i=some (ZI k)->Q k fr st ->
   (∃ FR st',Vx (Vh Γ Y m (lb c i n i2 B) ro) fuel fr st=.exit 0 FR st'/\Kp L fr0 FR/\Q N FR st')\/(∃ FR st',Vx (Vh Γ Y m (lb c i n i2 B) ro) fuel fr st=.ret FR st'/\Post FR st')
 | _,_,_,_,0,_,hf,_,_,_=>by omega
 | 0,k,fr,st,fuel+1,hk,_,hp,gi,hq=>by
  have hl:Vr false .lss (ZI k) (ZI N)=some (.bool false):=by rw[Wt];simp;omega
  have gn:=hp.at hn g0
  have hkN:k=N:=by omega
  refine .inl ⟨fr.set c (some (.bool false)),st,?_,Kp.set (fun h=>hc (XD _ h)) hp,hkN ▸ hQ _ _ _ _ _ (.inl rfl) hq⟩
  rw[Vx]
  simp only[amE,rQ,rA,lb,gi,gn,hl]
 | j+1,k,fr,st,fuel+1,hk,hf,hp,gi,hq=>by
  have hl:Vr false .lss (ZI k) (ZI N)=some (.bool true):=by rw[Wt];simp;omega
  have gn:=hp.at hn g0
  have had:=WC (i:=k) (by omega)
  have b11:Nat.beq 1 1=true:=rfl
  have hic:i≠c:=fun e=>hc (by rw[e];exact Zl)
  have hp1:Kp L fr0 (fr.set c (some (.bool true))):=Kp.set (fun h=>hc (XD _ h)) hp
  rcases hB k (fr.set c (some (.bool true))) st (by omega) hp1 (by rw[Fr.get_set,Qe hic];exact gi) (hQ _ _ _ _ _ (.inl rfl) hq) with⟨FR,st',hb,hkp,hq'⟩|⟨FR,st',hb,hpo⟩
  ·have gi':FR.get i=some (ZI k):=hkp.at Zl (by rw[Fr.get_set,Qe hic];exact gi)
   have hkL:Kp L fr0 FR:=hp1.trans ⟨hkp.1,fun x hx=>hkp.2 x (XD _ hx)⟩
   have hst:Vh Γ Y m (lb c i n i2 B) ro fr st=.norm ((FR.set i2 (some (ZI ((k+1))))).set i (some (ZI ((k+1))))) st':=by
    simp only[amE,rQ,rA,lb,gi,gn,hl,hb,gi',had]
   rcases kloop hc hi hi2 hn g0 hN hQ hB j (k+1) ((FR.set i2 (some (ZI ((k+1))))).set i (some (ZI ((k+1))))) st' fuel (by omega) (by omega)
    (Kp.set hi (Kp.set hi2 hkL)) (by rw[Fr.get_set,Qm rfl]) (hQ _ _ _ _ _ (.inr (.inl rfl)) (hQ _ _ _ _ _ (.inr (.inr rfl)) hq')) with⟨F2,s2,h,h2⟩|⟨F2,s2,h,h2⟩
   ·refine .inl ⟨F2,s2,?_,h2⟩
    rw[Vx,hst]
    exact h
   ·refine .inr ⟨F2,s2,?_,h2⟩
    rw[Vx,hst]
    exact h
  ·refine .inr ⟨FR,st',?_,hpo⟩
   rw[Vx]
   simp only[amE,rQ,rA,lb,gi,gn,hl,hb]
theorem Ve{f n:Nat}{mf:Vm}{Y:Vi}{args:List AV}{st st':St}{fr:Fr}{v:AV}(ht:tbl f=some mf)(hle:args.length.ble mf.N=true)
  (h:ac n Y mf.code none (Vo 0 args Fr.nil) st=.ret fr st'\/ac n Y mf.code none (Vo 0 args Fr.nil) st=.norm fr st') (hd:fr.ds=[]) (hr:Vg fr st' mf.res=.ret v st'):
  R (n+1) Y f args st=.ret v st':=by
 unfold R
 rw[Js ht]
 unfold WK
 rw[hle]
 rcases h with h | h<;>simp only[Qi,h,WY,hd,VO,hr]
theorem Kp.sub{l l':List Nat}{a b:Fr}(h:Kp l a b)(hs:∀ x∈l',x∈l):Kp l' a b:=⟨h.1,fun k hk=>h.2 k (hs k hk)⟩
theorem Kp.g{L:List Nat}{a b:Fr}(h:Kp L a b)(k:Nat){v:AV}(g:a.get k=some v)(m:k∈L:=by decide):b.get k=some v:=h.at m g
theorem Kp.s{L:List Nat}{a b:Fr}{k:Nat}{v:Option AV}(h:Kp L a b)(m:k∉L:=by decide):Kp L a (b.set k v):=Kp.set m h
theorem gh{b:Fr}{k:Nat}{v:Option AV}:(b.set k v).get k=v:=by rw[Fr.get_set,Qm rfl]
theorem gn{b:Fr}{k j:Nat}{v x:Option AV}(h:b.get j=x)(m:k≠j:=by decide):(b.set k v).get j=x:=by rw[Fr.get_set,Qe (fun e=>m e.symm)];exact h
theorem WR{α:Type}{l:List α}{k:Nat}(h:k < l.length):∃ x,l[k]?=some x/\l.drop k=x::l.drop (k+1):=⟨l[k],Qn h,XO h⟩
theorem ld0{st:St}{id:Nat}{x:AV}{l:List AV}(h:st.get id=some (.row (x::l))):Vf false 1 st (.ptr id 0)=some x:=by
 simp only[Vf,Wy,h,Qg,Xw];rfl
theorem ld1{st:St}{id:Nat}{x y:AV}{l:List AV}(h:st.get id=some (.row (x::y::l))):Vf false 1 st (.ptr id 1)=some y:=by
 simp only[Vf,Wy,h,Qg];rfl
theorem ld2{st:St}{id:Nat}{x y z:AV}{l:List AV}(h:st.get id=some (.row (x::y::z::l))):Vf false 1 st (.ptr id 2)=some z:=by
 simp only[Vf,Wy,h,Qg];rfl
theorem st20{st:St}{id:Nat}{x y:AV}{k:IntKind}{v:Int}(h:st.get id=some (.row [x,y])):Vt 1 st (.ptr id 0) (.int k v)=some (st.put id (.row [.int k v,y])):=by
 simp only[Vt,h];rfl
theorem st21{st:St}{id:Nat}{x y:AV}{k:IntKind}{v:Int}(h:st.get id=some (.row [x,y])):Vt 1 st (.ptr id 1) (.int k v)=some (st.put id (.row [x,.int k v])):=by
 simp only[Vt,h];rfl
noncomputable def Tc:Vn:=(ZQ [ZP 29 3 25 27,ZK 30 3 29,ZO 7 (.alloc [Z0,Z0,.nilsl]),ZS 3 7 30]
 (.seq (ZQ [ZV 31 0,ZO 32 (.nilchk (.t 31)),ZA 33 0 32,ZL 34 33,ZO 35 (.bin false .gtr (.t 34) (ZC 2000)),ZV 36 35,ZG 37 (.mv (.t 0)) 36 false,ZG 38 (.nilchk (.t 37)) 36 false,ZG 39 (.faddr 1 (.t 38)) 36 false,ZG 40 (.load false 1 (.t 39)) 36 false,ZG 41 (.bin false .gtr (.t 40) (ZC 200)) 36 false,ZO 42 (.pick (.t 36) (ZB true) (.t 41))]
 (.cond (.t 42)
 .ret
 .skip))
 (.region [ZV 43 0,ZK 44 3 7,ZV 45 2,ZO 46 (.bin false .add (.t 45) (ZC 1)),ZX 47 216 [(.t 43),(.t 44),(.t 46)]])))
noncomputable def kf162:Vm:=⟨49,(ZQ [ZO 4 (.box true (.t 1))]
 (ZQ [ZV 8 0,ZO 9 (.nilchk (.t 8)),ZA 10 0 9,ZL 11 10,ZO 12 (.bin false .add (.t 11) (ZC 1)),ZO 13 (.nilchk (.t 8)),ZA 14 0 13,ZS 1 14 12]
 (ZQ [ZV 15 0,ZV 16 0,ZO 17 (.nilchk (.t 16)),ZA 18 1 17,ZL 19 18,ZV 20 2,ZO 21 (.max (.t 19) [(.t 20)]),ZO 22 (.nilchk (.t 15)),ZA 23 1 22,ZS 1 23 21]
 (ZQ [ZA 24 2 4,ZL 25 24,ZN 26 25,ZM 27 (ZC 0)]
 (.block 0 (.loop (lb 28 27 26 48 Tc))))))),[]⟩
theorem t216:tbl 216=some kf162:=by kernel_rfl
theorem count_run(t:Tm):∀(n:Nat) (Y:Vi) (F:Nat->Prop) (st:St) (id:Nat) (a b d:Int) (cs:List AV),We F st t cs->(∀ i,F i->i < st.next)->¬ F id->id < st.next ->
  st.get id=some (.row [.int .i64 a,.int .i64 b])->t.fz<=n ->
  ∃ st',R n Y 216 [.ptr id 0,.agg cs,.int .i64 d] st=.ret (.tuple []) st'/\VZ id st st'/\st'.get id=some (.row [.int .i64 (WM t d a b).1,.int .i64 (WM t d a b).2]):=by
 induction hs:t.fz using Nat.strongRecOn generalizing t with
 | _ s ih=>
 intro n Y F st id a b d cs hr hF hid hlt hg hn
 cases t with
 | mk k0 n0 nl ex l=>
 simp only[We] at hr
 obtain⟨sl,xs,rfl,hsl,hrs⟩:=hr
 simp only[Tm.fz] at hs
 obtain⟨m,rfl⟩:∃ m,n=m+1:=⟨n - 1,by omega⟩
 -- the start
 have nc:∀ x,Jd (.ptr id x)=some (.ptr id x):=fun _=>rfl
 have fa:∀ o,WG o (.ptr id 0)=some (.ptr id (0+o)):=fun _=>rfl
 have e1:Vr false .add (.int .i64 a) (ZI 1)=some (.int .i64 (aw a 1)):=rfl
 have s1:=st20 (k:=.i64) (v:=aw a 1) hg
 have g1:(st.put id (.row [.int .i64 (aw a 1),.int .i64 b])).get id=some (.row [.int .i64 (aw a 1),.int .i64 b]):=by rw[St.get_put,Qm rfl]
 have e2:foldA maxA (.int .i64 b) [.int .i64 d]=some (.int .i64 (mx b d)):=rfl
 have s2:=st21 (k:=.i64) (v:=mx b d) g1
 obtain⟨st1,hst1⟩:∃ st1,st1=(st.put id (.row [.int .i64 (aw a 1),.int .i64 b])).put id (.row [.int .i64 (aw a 1),.int .i64 (mx b d)]):=⟨_,rfl⟩
 have k1:VZ id st st1:=by rw[hst1];exact(VZ.put _ _ _).trans (VZ.put _ _ _)
 have g2:st1.get id=some (.row [.int .i64 (aw a 1),.int .i64 (mx b d)]):=by rw[hst1,St.get_put,Qm rfl]
 rw[<-hst1] at s2
 have fa2:WG 2 (.fptr [.int .i64 k0,.int .i64 n0,sl] 0)=some (.fptr [.int .i64 k0,.int .i64 n0,sl] 2):=rfl
 have lf:Vf false 1 st1 (.fptr [.int .i64 k0,.int .i64 n0,sl] 2)=some sl:=rfl
 have hlen:=hsl.len st1
 obtain⟨fr0,hfr0,z0,z2,z25,z26,z27,zd⟩:∃ fr0,(∀ X,ac m Y (ZQ [ZO 4 (.box true (.t 1))] ( .seq (.region [ZV 8 0,ZO 9 (.nilchk (.t 8)),ZA 10 0 9,ZL 11 10,ZO 12 (.bin false .add (.t 11) (ZC 1)),ZO 13 (.nilchk (.t 8)),ZA 14 0 13,ZS 1 14 12]) ( .seq (.region [ZV 15 0,ZV 16 0,ZO 17 (.nilchk (.t 16)),ZA 18 1 17,ZL 19 18,ZV 20 2,ZO 21 (.max (.t 19) [(.t 20)]),ZO 22 (.nilchk (.t 15)),ZA 23 1 22,ZS 1 23 21]) ( .seq (.region [ZA 24 2 4,ZL 25 24,ZN 26 25,ZM 27 (ZC 0)]) (X))))) none (Vo 0 [.ptr id 0,.agg [.int .i64 k0,.int .i64 n0,sl],.int .i64 d] Fr.nil) st=ac m Y X none fr0 st1)
   /\ fr0.get 0=some (.ptr id 0)/\fr0.get 2=some (.int .i64 d)/\fr0.get 25=some sl/\fr0.get 26=some (ZI xs.length)/\fr0.get 27=some Z0/\fr0.ds=[]:=by
  refine⟨?f0,?f1,?f2,?f3,?f4,?f5,?f6,?f7⟩
  case f1=>
   intro X
   simp only[amE,rQ,rA,nd_max,nc,fa,ld0 hg,e1,s1,ld1 g1,e2,s2,fa2,lf,hlen]
   rfl
  case f2=>simp only[Vo,Fr.get_set,rA,rQ,↓reduceIte]
  case f3=>simp only[Vo,Fr.get_set,rA,rQ,↓reduceIte]
  case f4=>simp only[Fr.get_set,rQ,↓reduceIte]
  case f5=>simp only[Fr.get_set,rQ,↓reduceIte]
  case f6=>simp only[Fr.get_set,↓reduceIte]
  case f7=>rfl
 have hxl:=hrs.len
 have hF1:∀ i,F i->i < st1.next:=fun i hi=>Qz (hF i hi) k1.1
 have b00:Nat.beq 0 0=true:=rfl
 have hc:WM (.mk k0 n0 nl ex l) d a b=Yw l d (aw a 1) (mx b d):=by unfold WM;rfl
 rw[hc]
 have hB:∀ k fr s,k < xs.length->Kp [0,2,25,26] fr0 fr->fr.get 27=some (ZI k) ->
   (VZ id st s/\∃ a1 b1,s.get id=some (.row [.int .i64 a1,.int .i64 b1])/\Yw (l.drop k) d a1 b1=Yw l d (aw a 1) (mx b d)) ->
   (∃ FR s',ac m Y Tc none fr s=.norm FR s'/\Kp [27,0,2,25,26] fr FR/\(VZ id st s'/\∃ a1 b1,s'.get id=some (.row [.int .i64 a1,.int .i64 b1])/\Yw (l.drop (k+1)) d a1 b1=Yw l d (aw a 1) (mx b d))) ∨
   (∃ FR s',ac m Y Tc none fr s=.ret FR s'/\(FR.ds=[]/\VZ id st s'/\s'.get id=some (.row [.int .i64 (Yw l d (aw a 1) (mx b d)).1,.int .i64 (Yw l d (aw a 1) (mx b d)).2]))):=by
  intro k fr s hk hkp g27 ⟨hks,a1,b1,hg1,hcn⟩
  obtain⟨t,ht,hdr⟩:=WR (l:=l) (k:=k) (by omega)
  obtain⟨x,hx,hrx⟩:=hrs.at ht
  have hsame:Vs F st s:=Vs.of1 hks hF hid
  obtain⟨p,ia,ld⟩:=hsl.at hx
  have ld:=ld s hsame
  obtain⟨s1,sto,ks,go,hnx⟩:=next_el s (zs:=[Z0,Z0,.nilsl]) rfl hrx.cells3
  have hlt1:id < s.next:=Qz hlt hks.1
  have hg2:=ks.get hlt1 hg1
  have q0:=hkp.at (k:=0) (by decide) z0
  have q2:=hkp.at (k:=2) (by decide) z2
  have q25:=hkp.at (k:=25) (by decide) z25
  have nc:∀ x,Jd (.ptr id x)=some (.ptr id x):=fun _=>rfl
  have fa0:WG 0 (.ptr id 0)=some (.ptr id 0):=rfl
  have fa1:WG 1 (.ptr id 0)=some (.ptr id 1):=rfl
  have l0:=ld0 hg2
  have l1:=ld1 hg2
  have lx:=load_row go hrx.cells3.1
  have ad:Vr false .add (.int .i64 d) (ZI 1)=some (.int .i64 (aw d 1)):=rfl
  rw[hdr,Sg] at hcn
  by_cases ca:a1 > 2000
  ·have gt:Vr false .gtr (.int .i64 a1) (ZI 2000)=some (.bool true):=by
    show some (AV.bool (decide (a1 > 2000)))=_
    rw[Qs ca]
   rw[Qm ca] at hcn
   refine .inr ⟨?r0,s1,?r1,?r2,hks.trans (VZ.of ks),?r3⟩
   case r1=>
    simp only[amE,rQ,rA,Tc,q25,g27,ia,ld,sto,q0,nc,fa0,l0,gt,Qc,Qb]
    rfl
   case r2=>exact hkp.1.trans zd
   case r3=>rw[hg2,<-hcn]
  ·have gt:Vr false .gtr (.int .i64 a1) (ZI 2000)=some (.bool false):=by
    show some (AV.bool (decide (a1 > 2000)))=_
    rw[Qp ca]
   rw[Qe ca] at hcn
   by_cases cb:b1 > 200
   ·have gt2:Vr false .gtr (.int .i64 b1) (ZI 200)=some (.bool true):=by
     show some (AV.bool (decide (b1 > 200)))=_
     rw[Qs cb]
    rw[Qm cb] at hcn
    refine .inr ⟨?u0,s1,?u1,?u2,hks.trans (VZ.of ks),?u3⟩
    case u1=>
     simp only[amE,rQ,rA,Tc,q25,g27,ia,ld,sto,q0,nc,fa0,fa1,l0,l1,gt,gt2,Qc,Qb]
     rfl
    case u2=>exact hkp.1.trans zd
    case u3=>rw[hg2,<-hcn]
   ·have gt2:Vr false .gtr (.int .i64 b1) (ZI 200)=some (.bool false):=by
     show some (AV.bool (decide (b1 > 200)))=_
     rw[Qp cb]
    rw[Qe cb] at hcn
    have hfz:=Tm.fzL_mem (Qr ht)
    have hs1:Vs F st s1:=hsame.trans (Vs.of ks fun i hi=>Qz (hF i hi) hks.1)
    obtain⟨s2,hcall,ks2,hg3⟩:=ih t.fz (by omega) t rfl m Y F s1 id a1 b1 (aw d 1) x (hrx.mono hs1 fun _ h=>h) (fun i hi=>Qz (hF i hi) (QY hks.1 ks.1)) hid (Qz hlt1 ks.1) hg2 (by omega)
    have hcall':((gT m).cg Y).fn 216 [.ptr id 0,.agg x,.int .i64 (aw d 1)] s1=.ret (.tuple []) s2:=hcall
    refine .inl ⟨?v0,s2,?v1,?v2,(hks.trans (VZ.of ks)).trans ks2,_,_,hg3,hcn⟩
    case v1=>
     simp only[amE,rQ,rA,Tc,q25,g27,ia,ld,sto,q0,q2,nc,fa0,fa1,l0,l1,gt,gt2,lx,ad,hcall',Qc,Qb]
     rfl
    case v2=>repeat (first | exact Kp.refl | refine Kp.set (by decide) ?_)
 rcases kloop (Γ:=gT m) (Y:=Y) (m:=m) (N:=xs.length) (c:=28) (i:=27) (n:=26) (i2:=48) (ro:=none) (L:=[0,2,25,26]) (fr0:=fr0) (by decide) (by decide) (by decide) (by decide) z26 hsl.2.1
  (Q:=fun k _ s=>VZ id st s/\∃ a1 b1,s.get id=some (.row [.int .i64 a1,.int .i64 b1])/\Yw (l.drop k) d a1 b1=Yw l d (aw a 1) (mx b d)) (fun _ _ _ _ _ _ h=>h) hB xs.length 0 fr0 st1 m (by omega) (by omega) Kp.refl z27 ⟨k1,_,_,g2,rfl⟩
  with⟨FR,s',h1,h2,h3,a2,b2,h4,h5⟩|⟨FR,s',h1,h2,h3,h4⟩
 ·rw[hxl,Xr,cntL_nil] at h5
  refine⟨s',Ve (mf:=kf162) (fr:=FR) t216 rfl (.inr ?w1) (h2.1.trans zd) rfl,h3,by rw[h4,<-h5]⟩
  case w1=>
   refine (hfr0 _).trans ?_
   simp only[amE,rQ,rA,h1,b00]
 ·refine⟨s',Ve (mf:=kf162) (fr:=FR) t216 rfl (.inl ?w2) h2 rfl,h3,h4⟩
  case w2=>
   refine (hfr0 _).trans ?_
   simp only[amE,rQ,rA,h1,b00]
noncomputable def bf136_0:Vn:=(ZQ [ZV 10 8,ZV 5 10]
 (ZQ [ZV 11 1,ZV 12 0,ZV 13 5,ZP 14 3 12 13,ZK 15 3 14,ZO 16 (.call (.t 11) [(.t 15)])]
 (.cond (.t 16)
 (ZR [ZV 17 5,ZV 4 17])
 .skip)))
noncomputable def kf136:Vm:=⟨19,(ZQ [ZM 4 (ZC 0)]
 (.seq (ZQ [ZV 6 0,ZN 7 6,ZM 8 (ZC 0)]
 (.block 0 (.loop (lb 9 8 7 18 bf136_0))))
 (ZR [ZM 4 (.c (.int .i64 (.negSucc 0)))]))),[.t 4]⟩
theorem t158:tbl 158=some kf136:=by kernel_rfl
theorem t269:tbl 269=some kf136:=by kernel_rfl
noncomputable def kf108:Vm:=⟨9,(ZQ [ZM 4 (ZB false)]
 (ZR [ZV 5 0,ZV 6 1,ZX 7 158 [(.t 5),(.t 6)],ZO 8 (.bin false .geq (.t 7) (ZC 0)),ZV 4 8])),[.t 4]⟩
theorem t109:tbl 109=some kf108:=by kernel_rfl
noncomputable def kf111:Vm:=⟨9,(ZQ [ZM 4 (ZB false)]
 (ZR [ZV 5 0,ZV 6 1,ZX 7 269 [(.t 5),(.t 6)],ZO 8 (.bin false .geq (.t 7) (ZC 0)),ZV 4 8])),[.t 4]⟩
theorem t221:tbl 221=some kf111:=by kernel_rfl
theorem idx_run{f q n:Nat}{Y:Vi}{F:Nat->Prop}{st0:St}{sl:AV}{xs:List (List AV)}{caps:List AV}{Inv:Nat->St->Prop}{Fin:St->Prop}(hf:tbl f=some kf136)(hsl:SlR F st0 sl xs)
  (hI:∀ k s,Inv k s->Vs F st0 s)
  (hcb:∀ k x s,xs[k]?=some x->Inv k s->∃ b s',R n Y q (.agg x::caps) s=.ret (.bool b) s'/\(b=true->Fin s')/\(b=false->Inv (k+1) s'))
  (st:St) (h0:Inv 0 st) (hn:xs.length < n):
  ∃ r s',R (n+1) Y f [sl,.func (.func q) [] caps] st=.ret (.int .i64 r) s'/\((r < 0/\Inv xs.length s')\/(0<=r/\Fin s')):=by
 have hlen:=hsl.len st
 obtain⟨fr0,hfr0,z0,z1,z7,z8,zd⟩:∃ fr0,(∀ L T,ac n Y (ZQ [ZM 4 (ZC 0)] (.seq (ZQ [ZV 6 0,ZN 7 6,ZM 8 (ZC 0)] L) T)) none (Vo 0 [sl,.func (.func q) [] caps] Fr.nil) st=match ac n Y L none fr0 st with
    | .norm fr st=>ac n Y T none fr st
    | r=>r)
   /\ fr0.get 0=some sl/\fr0.get 1=some (.func (.func q) [] caps)/\fr0.get 7=some (ZI xs.length)/\fr0.get 8=some Z0/\fr0.ds=[]:=by
  refine⟨?f0,?f1,?f2,?f3,?f4,?f5,?f7⟩
  case f1=>
   intro L T
   simp only[amE,rQ,rA,hlen]
   rfl
  case f2=>simp only[Vo,Fr.get_set,rA,rQ,↓reduceIte]
  case f3=>simp only[Vo,Fr.get_set,rA,rQ,↓reduceIte]
  case f4=>simp only[Fr.get_set,rQ,↓reduceIte]
  case f5=>simp only[Fr.get_set,↓reduceIte]
  case f7=>rfl
 have b00:Nat.beq 0 0=true:=rfl
 have hB:∀ k fr s,k < xs.length->Kp [0,1,7] fr0 fr->fr.get 8=some (ZI k)->Inv k s ->
   (∃ FR s',ac n Y bf136_0 none fr s=.norm FR s'/\Kp [8,0,1,7] fr FR/\Inv (k+1) s') ∨
   (∃ FR s',ac n Y bf136_0 none fr s=.ret FR s'/\(FR.ds=[]/\(∃ j:Nat,FR.get 4=some (ZI j))/\Fin s')):=by
  intro k fr s hk hkp g8 hi
  have hx:xs[k]?=some xs[k]:=Qn hk
  generalize xs[k]=x at hx
  obtain⟨p,ia,ld⟩:=hsl.at hx
  have ld:=ld s (hI k s hi)
  obtain⟨b,s',hc,h1,h2⟩:=hcb k x s hx hi
  have hc':((gT n).cg Y).fn q (.agg x::caps) s=.ret (.bool b) s':=hc
  have q0:=hkp.at (k:=0) (by decide) z0
  have q1:=hkp.at (k:=1) (by decide) z1
  cases b with
  | true=>
   refine .inr ⟨?r0,s',?r1,?r2,⟨k,?r3⟩,h1 rfl⟩
   case r1=>
    simp only[amE,rQ,rA,bf136_0,q0,q1,g8,ia,ld,hc']
    rfl
   case r2=>exact hkp.1.trans zd
   case r3=>simp only[Fr.get_set,↓reduceIte]
  | false=>
   refine .inl ⟨?v0,s',?v1,?v2,h2 rfl⟩
   case v1=>
    simp only[amE,rQ,rA,bf136_0,q0,q1,g8,ia,ld,hc']
    rfl
   case v2=>repeat (first | exact Kp.refl | refine Kp.set (by decide) ?_)
 rcases kloop (Γ:=gT n) (Y:=Y) (m:=n) (N:=xs.length) (c:=9) (i:=8) (n:=7) (i2:=18) (ro:=none) (L:=[0,1,7]) (fr0:=fr0) (by decide) (by decide) (by decide) (by decide) z7 hsl.2.1
  (Q:=fun k _ s=>Inv k s) (fun _ _ _ _ _ _ h=>h) hB xs.length 0 fr0 st n (by omega) (by omega) Kp.refl z8 h0
  with⟨FR,s',h1,h2,h3⟩|⟨FR,s',h1,h2,⟨j,h3⟩,h4⟩
 ·refine⟨.negSucc 0,s',Ve (mf:=kf136) (fr:=FR.set 4 (some (.int .i64 (.negSucc 0)))) hf rfl (.inl ?w1) (h2.1.trans zd) ?w2,.inl ⟨by decide,h3⟩⟩
  case w1=>
   refine (hfr0 _ _).trans ?_
   simp only[amE,rQ,rA,h1,b00]
  case w2=>simp only[kf136,Vg,Vu,V0,Fr.get_set,↓reduceIte,Qg,Ql]
 ·refine⟨.ofNat j,s',Ve (mf:=kf136) (fr:=FR) hf rfl (.inl ?w3) h2 ?w4,.inr ⟨Int.natCast_nonneg j,h4⟩⟩
  case w3=>
   refine (hfr0 _ _).trans ?_
   simp only[amE,rQ,rA,h1,b00]
  case w4=>simp only[kf136,Vg,Vu,V0,h3,Qg,Ql]
theorem T0{f f' q n:Nat}{Y:Vi}{F:Nat->Prop}{st0:St}{sl:AV}{xs:List (List AV)}{caps:List AV}{Inv:Nat->St->Prop}{Fin:St->Prop}(hff:(f=109/\f'=158)\/(f=221/\f'=269))(hsl:SlR F st0 sl xs)
  (hI:∀ k s,Inv k s->Vs F st0 s)
  (hcb:∀ k x s,xs[k]?=some x->Inv k s->∃ b s',R n Y q (.agg x::caps) s=.ret (.bool b) s'/\(b=true->Fin s')/\(b=false->Inv (k+1) s'))
  (st:St) (h0:Inv 0 st) (hn:xs.length < n):
  ∃ b s',R (n+2) Y f [sl,.func (.func q) [] caps] st=.ret (.bool b) s'/\((b=false/\Inv xs.length s')\/(b=true/\Fin s')):=by
 have hf':tbl f'=some kf136:=by
  rcases hff with⟨_,rfl⟩|⟨_,rfl⟩
  ·rw[t158]
  ·rw[t269]
 obtain⟨r,s',hr,hc⟩:=idx_run hf' hsl hI hcb st h0 hn
 have hr':((gT (n+1)).cg Y).fn f' [sl,.func (.func q) [] caps] st=.ret (.int .i64 r) s':=hr
 have hg:Vr false .geq (.int .i64 r) Z0=some (.bool (decide (r>=0))):=rfl
 refine⟨decide (r>=0),s',?_,?_⟩
 ·rcases hff with⟨rfl,rfl⟩|⟨rfl,rfl⟩
  ·refine Ve (mf:=kf108) (fr:=?a0) t109 rfl (.inl ?a1) ?a2 ?a3
   case a1=>
    simp only[amE,rQ,rA,kf108,hr',hg]
    rfl
   case a2=>rfl
   case a3=>simp only[kf108,Vg,Vu,V0,Fr.get_set,↓reduceIte,Qg,Ql]
  ·refine Ve (mf:=kf111) (fr:=?b0) t221 rfl (.inl ?b1) ?b2 ?b3
   case b1=>
    simp only[amE,rQ,rA,kf111,hr',hg]
    rfl
   case b2=>rfl
   case b3=>simp only[kf111,Vg,Vu,V0,Fr.get_set,↓reduceIte,Qg,Ql]
 ·rcases hc with⟨h1,h2⟩|⟨h1,h2⟩
  ·exact .inl ⟨Qp (by omega),h2⟩
  ·exact .inr ⟨Qs h1,h2⟩
noncomputable section
open Nat renaming reduceEqDiff -> rQ, reduceAdd -> rA
def kf163:Vm:=⟨15,(ZQ [ZM 2 (ZB false)]
 (ZR [ZV 3 0,ZO 4 (.nilchk (.t 3)),ZA 5 0 4,ZL 6 5,ZO 7 (.bin false .gtr (.t 6) (ZC 2000)),ZV 8 7,ZG 9 (.mv (.t 0)) 8 false,ZG 10 (.nilchk (.t 9)) 8 false,ZG 11 (.faddr 1 (.t 10)) 8 false,ZG 12 (.load false 1 (.t 11)) 8 false,ZG 13 (.bin false .gtr (.t 12) (ZC 200)) 8 false,ZO 14 (.pick (.t 8) (ZB true) (.t 13)),ZV 2 14])),[.t 2]⟩
theorem t217:tbl 217=some kf163:=by kernel_rfl
def g164_0:List Vc:=[ZO 1 (.box true (.t 0)),ZM 2 (ZB false)]
def g164_1:List Vc:=[ZA 4 1 1,ZL 5 4,ZO 6 (.bin false .lss (.t 5) (ZC 0)),ZV 3 6]
def g164_2:List Vc:=[ZA 7 0 1,ZL 8 7,ZO 9 (.bin false .eql (.t 8) (ZC 1)),ZV 10 9,ZG 11 (.faddr 2 (.t 1)) 10 true,ZG 12 (.load false 1 (.t 11)) 10 true,ZG 13 (.len 0 (.t 12)) 10 true,ZG 14 (.bin false .gtr (.t 13) (ZC 0)) 10 true,ZO 15 (.pick (.t 10) (.t 14) (ZB false)),ZV 3 15]
def g164_3:List Vc:=[ZA 16 0 1,ZL 17 16,ZO 18 (.bin false .neq (.t 17) (ZC 1)),ZV 19 18,ZG 20 (.faddr 0 (.t 1)) 19 true,ZG 21 (.load false 1 (.t 20)) 19 true,ZG 22 (.bin false .neq (.t 21) (ZC 2)) 19 true,ZO 23 (.pick (.t 19) (.t 22) (ZB false)),ZV 3 23]
def g164_4:List Vc:=[ZA 24 2 1,ZL 25 24,ZN 26 25,ZO 27 (.bin false .gtr (.t 26) (ZC 8)),ZV 3 27]
def KX:List Vc:=[ZM 2 (ZB false)]
def g164_6:List Vc:=[ZA 28 2 1,ZL 29 28,ZO 30 (.call (.c (.func (.func 109) [] [])) [(.t 29),(.c (.func (.func 268) [] []))]),ZO 31 (.un .not (.t 30)),ZV 2 31]
def YW:Vm:=⟨32,(ZQ g164_0
 (.seq (.block 0 (.seq (ZQ g164_1
 (.cond (.t 3)
 .skip
 (ZQ g164_2
 (.cond (.t 3)
 .skip
 (ZQ g164_3
 (.cond (.t 3)
 .skip
 (.region g164_4)))))))
 (.cond (.t 3)
 (ZR KX)
 .skip)))
 (ZR g164_6))),[.t 2]⟩
theorem t218:tbl 218=some YW:=by kernel_rfl
def kf214:Vm:=⟨6,(ZQ [ZO 1 (.box true (.t 0)),ZM 2 (ZB false)]
 (ZR [ZK 3 3 1,ZX 4 218 [(.t 3)],ZO 5 (.un .not (.t 4)),ZV 2 5])),[.t 2]⟩
theorem t268:tbl 268=some kf214:=by kernel_rfl
def g137_2:List Vc:=[ZK 4 3 1,ZX 5 216 [(.t 3),(.t 4),(ZC 1)]]
def g137_3:List Vc:=[ZX 6 217 [(.t 3)],ZO 7 (.un .not (.t 6)),ZV 8 7,ZG 9 (.load true 3 (.t 1)) 8 true,ZG 10 (.call (.c (.func (.func 218) [] [])) [(.t 9)]) 8 true,ZO 11 (.pick (.t 8) (.t 10) (ZB false)),ZV 2 11]
def kf137:Vm:=⟨12,(ZQ [ZO 1 (.box true (.t 0)),ZM 2 (ZB false)]
 (ZQ [ZO 3 (.alloc [Z0,Z0])]
 (ZQ g137_2
 (ZR g137_3)))),[.t 2]⟩
theorem t159:tbl 159=some kf137:=by kernel_rfl
def g138_0:List Vc:=[ZP 10 3 6 8,ZK 11 3 10,ZO 5 (.alloc [Z0,Z0,.nilsl]),ZS 3 5 11]
def g138_1:List Vc:=[ZA 12 0 5,ZL 13 12,ZO 14 (.bin false .eql (.t 13) (ZC 1))]
def g138_2:List Vc:=[ZV 15 3,ZA 16 1 5,ZL 17 16,ZO 18 (.max (.t 15) [(.t 17)]),ZV 3 18]
def g138_3:List Vc:=[ZV 19 3,ZA 20 2 5,ZL 21 20,ZX 22 160 [(.t 21)],ZO 23 (.max (.t 19) [(.t 22)]),ZV 3 23]
def bf138_0:Vn:=(ZQ g138_0
 (.seq (ZQ g138_1
 (.cond (.t 14)
 (.region g138_2)
 .skip))
 (.region g138_3)))
def kf138:Vm:=⟨26,(ZQ [ZM 2 (ZC 0)]
 (ZQ [ZM 3 (.c (.int .i64 (.negSucc 0)))]
 (.seq (ZQ [ZV 6 0,ZN 7 6,ZM 8 (ZC 0)]
 (.block 0 (.loop (lb 9 8 7 24 bf138_0))))
 (ZR [ZV 25 3,ZV 2 25])))),[.t 2]⟩
theorem t160:tbl 160=some kf138:=by kernel_rfl
def g110_1:List Vc:=[ZK 3 3 1,ZX 4 159 [(.t 3)],ZV 5 4,ZG 6 (.load true 3 (.t 1)) 5 true,ZG 7 (.bslice 1 [Z0,Z0,.nilsl] [(0,3,(.t 6))]) 5 true,ZG 8 (.call (.c (.func (.func 160) [] [])) [(.t 7)]) 5 true,ZG 9 (.bin false .lss (.t 8) (ZC 0)) 5 true,ZO 10 (.pick (.t 5) (.t 9) (ZB false)),ZV 2 10]
def kf110:Vm:=⟨11,(ZQ [ZO 1 (.box true (.t 0)),ZM 2 (ZB false)]
 (ZR g110_1)),[.t 2]⟩
theorem t111:tbl 111=some kf110:=by kernel_rfl
theorem over_run(n:Nat)(Y:Vi){st:St}{id:Nat}{a b:Int}(h:st.get id=some (.row [.int .i64 a,.int .i64 b])):R (n+1) Y 217 [.ptr id 0] st=.ret (.bool (overP (a,b))) st:=by
 have nc:∀ x,Jd (.ptr id x)=some (.ptr id x):=fun _=>rfl
 have fa0:WG 0 (.ptr id 0)=some (.ptr id 0):=rfl
 have fa1:WG 1 (.ptr id 0)=some (.ptr id 1):=rfl
 have l0:=ld0 h
 have l1:=ld1 h
 have gt:Vr false .gtr (.int .i64 a) (ZI 2000)=some (.bool (decide (a > 2000))):=rfl
 have gt2:Vr false .gtr (.int .i64 b) (ZI 200)=some (.bool (decide (b > 200))):=rfl
 have ho:overP (a,b)=(decide (a > 2000)||decide (b > 200)):=rfl
 rw[ho]
 generalize decide (a > 2000)=B at *
 cases B with
 | true=>
  refine Ve (mf:=kf163) (fr:=?a0) t217 rfl (.inl ?a1) ?a2 ?a3
  case a1=>
   simp only[amE,rQ,rA,kf163,nc,fa0,l0,gt,Qc,Qb]
   rfl
  case a2=>rfl
  case a3=>simp only[kf163,Vg,Vu,V0,Fr.get_set,↓reduceIte,Qg,Ql,QU]
 | false=>
  refine Ve (mf:=kf163) (fr:=?b0) t217 rfl (.inl ?b1) ?b2 ?b3
  case b1=>
   simp only[amE,rQ,rA,kf163,nc,fa0,fa1,l0,l1,gt,gt2,Qc,Qb]
   rfl
  case b2=>rfl
  case b3=>simp only[kf163,Vg,Vu,V0,Fr.get_set,↓reduceIte,Qg,Ql,QL]
theorem JZ(x y z:AV)(st:St):Vf true 3 st (.fptr [x,y,z] 0)=some (.agg [x,y,z]):=rfl
theorem Y7(x y z:AV)(st:St):Vf false 1 st (.fptr [x,y,z] 0)=some x:=rfl
theorem Yg(x y z:AV)(st:St):Vf false 1 st (.fptr [x,y,z] 1)=some y:=rfl
theorem WB(x y z:AV)(st:St):Vf false 1 st (.fptr [x,y,z] 2)=some z:=rfl
theorem faf(cs:List AV)(o:Nat):WG o (.fptr cs 0)=some (.fptr cs (0+o)):=rfl
theorem unN(b:Bool):unA .not (.bool b)=some (.bool (!b)):=rfl
theorem sigShaped(t:Tm):∀(n:Nat) (Y:Vi) (F:Nat->Prop) (st:St) (cs:List AV),We F st t cs->(∀ i,F i->i < st.next)->t.fz<=n ->
  ∃ st',R n Y 218 [.agg cs] st=.ret (.bool (shT t)) st'/\Vd st st':=by
 induction hs:t.fz using Nat.strongRecOn generalizing t with
 | _ s ih=>
 intro n Y F st cs hr hF hn
 cases t with
 | mk k0 n0 nl ex l=>
 simp only[We] at hr
 obtain⟨sl,xs,rfl,hsl,hrs⟩:=hr
 simp only[Tm.fz] at hs
 obtain⟨m,rfl⟩:∃ m,n=m+5:=⟨n - 5,by omega⟩
 have hxl:=hrs.len
 have hlen:=hsl.len st
 -- the list's elements
 obtain⟨b,st',hc,hb⟩:=T0 (n:=m+2) (Y:=Y) (q:=268) (caps:=[]) (Inv:=fun k s=>Vd st s/\shL (l.drop k)=shL l) (Fin:=fun s=>Vd st s/\shL l=false) (.inl ⟨rfl,rfl⟩) hsl
  (fun k s h=>Vs.of h.1 hF) (fun k x s hx ⟨hk,hq⟩=>by
   have hkl:k < l.length:=by have:=(Qt.1 hx).1;omega
   obtain⟨t,ht,hdr⟩:=WR hkl
   obtain⟨x',hx',hrx⟩:=hrs.at ht
   rw[hx] at hx';injection hx' with hx';subst hx'
   have hfz:=Tm.fzL_mem (Qr ht)
   obtain⟨s',hcall,hk'⟩:=ih t.fz (by omega) t rfl (m+1) Y F s x (hrx.mono (Vs.of hk hF) fun _ h=>h) (fun i hi=>Qz (hF i hi) hk.1) (by omega)
   refine⟨!shT t,s',?_,fun h=>⟨hk.trans hk',?_⟩,fun h=>⟨hk.trans hk',?_⟩⟩
   ·have hcall':((gT (m+1)).cg Y).fn 218 [.agg x] s=.ret (.bool (shT t)) s':=hcall
    obtain⟨a,b,c,rfl⟩:∃ a b c,x=[a,b,c]:=by
     have:=hrx.cells3.1
     match x,this with
     | [a,b,c],_=>exact⟨a,b,c,rfl⟩
    refine Ve (mf:=kf214) (fr:=?c0) t268 rfl (.inl ?c1) ?c2 ?c3
    case c1=>
     simp only[amE,rQ,rA,kf214,JZ,hcall',unN]
     rfl
    case c2=>rfl
    case c3=>simp only[kf214,Vg,Vu,V0,Fr.get_set,↓reduceIte,Qg,Ql]
   ·rw[<-hq,hdr,Ul,Qe (by simpa using h)]
   ·rw[<-hq,hdr,Ul,Qm (by simpa using h)]) st ⟨Vd.refl st,rfl⟩ (by omega)
 have hc':((gT (m+4)).cg Y).fn 109 [sl,.func (.func 268) [] []] st=.ret (.bool b) st':=hc
 have hbs:(!b)=shL l/\Vd st st':=by
  rcases hb with⟨rfl,h1,h2⟩|⟨rfl,h1,h2⟩
  ·rw[hxl,Xr,shL_nil] at h2
   exact⟨h2,h1⟩
  ·exact⟨h2.symm,h1⟩
 have lt:Vr false .lss (.int .i64 n0) Z0=some (.bool (decide (n0 < 0))):=rfl
 have e1:Vr false .eql (.int .i64 k0) (ZI 1)=some (.bool (k0==1)):=rfl
 have g0:Vr false .gtr (ZI xs.length) Z0=some (.bool (decide (Int.ofNat l.length > 0))):=by rw[hxl];rfl
 have ne1:Vr false .neq (.int .i64 k0) (ZI 1)=some (.bool (k0 != 1)):=rfl
 have ne2:Vr false .neq (.int .i64 k0) (ZI 2)=some (.bool (k0 != 2)):=rfl
 have g8:Vr false .gtr (ZI xs.length) (ZI 8)=some (.bool (decide (Int.ofNat l.length > 8))):=by rw[hxl];rfl
 have b00:Nat.beq 0 0=true:=rfl
 have hsh:shT (.mk k0 n0 nl ex l)=if badT k0 n0 l.length=true then false else shL l:=by conv=>lhs;unfold shT
 have hbad:badT k0 n0 l.length=(decide (n0 < 0)||((k0==1)&&decide (Int.ofNat l.length > 0))||((k0 != 1)&&(k0 != 2))||decide (Int.ofNat l.length > 8)):=rfl
 rw[hsh,hbad]
 generalize decide (n0 < 0)=B1 at *
 generalize (k0==1)=B2 at *
 generalize decide (Int.ofNat l.length > 0)=B3 at *
 generalize (k0 != 1)=B4 at *
 generalize (k0 != 2)=B5 at *
 generalize decide (Int.ofNat l.length > 8)=B6 at *
 obtain⟨fA1,hA1⟩:∃ fA,fA=Vo 0 [.agg [.int .i64 k0,.int .i64 n0,sl]] Fr.nil:=⟨_,rfl⟩
 have gA1_0:=gAt hA1 0
 have dA1:fA1.ds=[]:=by rw[hA1];rfl
 obtain⟨J2,H2,O2_1⟩:∃ fr',ar (m+4) Y g164_0 fA1 st=.ok fr' st/\fr'.get 1=some (.fptr [.int .i64 k0,.int .i64 n0,sl] 0):=⟨_,by simp only[amE,rQ,rA,gA1_0,g164_0]<;>rfl,gn gh⟩
 obtain⟨J3,H3,O3_3⟩:∃ fr',ar (m+4) Y g164_1 J2 st=.ok fr' st/\fr'.get 3=some (.bool B1):=⟨_,by simp only[amE,rQ,rA,O2_1,g164_1,faf,Y7,Yg,WB,hlen,lt]<;>rfl,gh⟩
 have V3_1:=ag H3 O2_1
 have W3:=ad H3 (ad H2 dA1)
 cases B1 with
 | true=>
  obtain⟨J4,H4,O4_2⟩:∃ fr',ar (m+4) Y KX J3 st=.ok fr' st/\fr'.get 2=some (.bool false):=⟨_,by simp only[amE,rQ,rA,KX]<;>rfl,gh⟩
  refine⟨st,?p4,Vd.refl st⟩
  case p4=>
   rw[Qm (by simp)]
   refine Ve (mf:=YW) (fr:=J4) t218 rfl (.inl ?q4) (ad H4 W3) (by simp only[YW,Vg,Vu,V0,O4_2,Qg,Ql])
   case q4=>
    rw[<-hA1]
    simp only[amE,rQ,rA,YW,b00,H2,H3,H4,O3_3]
 | false=>
  obtain⟨J5,H5,O5_3⟩:∃ fr',ar (m+4) Y g164_2 J3 st=.ok fr' st/\fr'.get 3=some (.bool (B2&&B3)):=by cases B2<;>exact⟨_,by simp only[amE,rQ,rA,V3_1,g164_2,faf,Y7,Yg,WB,hlen,e1,g0,Qc,Qb]<;>rfl,by simp only[Fr.get_set,rQ,↓reduceIte,amB]⟩
  have V5_1:=ag H5 V3_1
  have W5:=ad H5 W3
  generalize (B2&&B3)=C2 at *
  cases C2 with
  | true=>
   obtain⟨J6,H6,O6_2⟩:∃ fr',ar (m+4) Y KX J5 st=.ok fr' st/\fr'.get 2=some (.bool false):=⟨_,by simp only[amE,rQ,rA,KX]<;>rfl,gh⟩
   refine⟨st,?p6,Vd.refl st⟩
   case p6=>
    rw[Qm (by simp)]
    refine Ve (mf:=YW) (fr:=J6) t218 rfl (.inl ?q6) (ad H6 W5) (by simp only[YW,Vg,Vu,V0,O6_2,Qg,Ql])
    case q6=>
     rw[<-hA1]
     simp only[amE,rQ,rA,YW,b00,H2,H3,H5,H6,O3_3,O5_3]
  | false=>
   obtain⟨J7,H7,O7_3⟩:∃ fr',ar (m+4) Y g164_3 J5 st=.ok fr' st/\fr'.get 3=some (.bool (B4&&B5)):=by cases B4<;>exact⟨_,by simp only[amE,rQ,rA,V5_1,g164_3,faf,Y7,Yg,WB,hlen,ne1,ne2,Qc,Qb]<;>rfl,by simp only[Fr.get_set,rQ,↓reduceIte,amB]⟩
   have V7_1:=ag H7 V5_1
   have W7:=ad H7 W5
   generalize (B4&&B5)=C3 at *
   cases C3 with
   | true=>
    obtain⟨J8,H8,O8_2⟩:∃ fr',ar (m+4) Y KX J7 st=.ok fr' st/\fr'.get 2=some (.bool false):=⟨_,by simp only[amE,rQ,rA,KX]<;>rfl,gh⟩
    refine⟨st,?p8,Vd.refl st⟩
    case p8=>
     rw[Qm (by simp)]
     refine Ve (mf:=YW) (fr:=J8) t218 rfl (.inl ?q8) (ad H8 W7) (by simp only[YW,Vg,Vu,V0,O8_2,Qg,Ql])
     case q8=>
      rw[<-hA1]
      simp only[amE,rQ,rA,YW,b00,H2,H3,H5,H7,H8,O3_3,O5_3,O7_3]
   | false=>
    obtain⟨J9,H9,O9_3⟩:∃ fr',ar (m+4) Y g164_4 J7 st=.ok fr' st/\fr'.get 3=some (.bool B6):=⟨_,by simp only[amE,rQ,rA,V7_1,g164_4,faf,Y7,Yg,WB,hlen,g8]<;>rfl,gh⟩
    have V9_1:=ag H9 V7_1
    have W9:=ad H9 W7
    cases B6 with
    | true=>
     obtain⟨J10,H10,O10_2⟩:∃ fr',ar (m+4) Y KX J9 st=.ok fr' st/\fr'.get 2=some (.bool false):=⟨_,by simp only[amE,rQ,rA,KX]<;>rfl,gh⟩
     refine⟨st,?p10,Vd.refl st⟩
     case p10=>
      rw[Qm (by simp)]
      refine Ve (mf:=YW) (fr:=J10) t218 rfl (.inl ?q10) (ad H10 W9) (by simp only[YW,Vg,Vu,V0,O10_2,Qg,Ql])
      case q10=>
       rw[<-hA1]
       simp only[amE,rQ,rA,YW,b00,H2,H3,H5,H7,H9,H10,O3_3,O5_3,O7_3,O9_3]
    | false=>
     obtain⟨J11,H11,O11_2⟩:∃ fr',ar (m+4) Y g164_6 J9 st=.ok fr' st'/\fr'.get 2=some (.bool (!b)):=⟨_,by simp only[amE,rQ,rA,V9_1,g164_6,faf,Y7,Yg,WB,hlen,hc',unN,Qc,Qb]<;>rfl,gh⟩
     refine⟨st',?p11,hbs.2⟩
     case p11=>
      rw[Qe (by simp),<-hbs.1]
      refine Ve (mf:=YW) (fr:=J11) t218 rfl (.inl ?q11) (ad H11 W9) (by simp only[YW,Vg,Vu,V0,O11_2,Qg,Ql])
      case q11=>
       rw[<-hA1]
       simp only[amE,rQ,rA,YW,b00,H2,H3,H5,H7,H9,H11,O3_3,O5_3,O7_3,O9_3]
theorem isTree_run(t:Tm)(n:Nat)(Y:Vi)(F:Nat->Prop)(st:St)(cs:List AV)(hr:We F st t cs)(hF:∀ i,F i->i < st.next)(hn:t.fz < n):
  ∃ st',R n Y 159 [.agg cs] st=.ret (.bool (isTr t)) st'/\Vd st st':=by
 obtain⟨m,rfl⟩:∃ m,n=m+1:=⟨n - 1,by omega⟩
 have hfz:12<=t.fz:=by cases t;simp only[Tm.fz];omega
 obtain⟨a,b,c,rfl⟩:∃ a b c,cs=[a,b,c]:=by
  have:=hr.cells3.1
  match cs,this with
  | [a,b,c],_=>exact⟨a,b,c,rfl⟩
 obtain⟨st1,hst1⟩:∃ st1,st1=st.new (.row [ZI 0,ZI 0]):=⟨_,rfl⟩
 have k1:Vd st st1:=by rw[hst1];exact Vd.new _ _
 have g1:st1.get st.next=some (.row [ZI 0,ZI 0]):=by rw[hst1,St.get_new,Qm rfl]
 have n1:st1.next=st.next+1:=by rw[hst1];rfl
 have hF1:∀ i,F i->i < st1.next:=fun i hi=>Qz (hF i hi) k1.1
 have hid:¬ F st.next:=fun h=>Nat.lt_irrefl _ (hF _ h)
 obtain⟨st2,c1,k2,g2⟩:=count_run t m Y F st1 st.next (.ofNat 0) (.ofNat 0) (.ofNat 1) [a,b,c] (hr.mono (Vs.of k1 hF) fun _ h=>h) hF1 hid (by omega) g1 (by omega)
 have k02:=k1.then1 k2 (Qw _)
 have c1':((gT m).cg Y).fn 216 [.ptr st.next 0,.agg [a,b,c],ZI 1] st1=.ret (.tuple []) st2:=c1
 obtain⟨m',rfl⟩:∃ m',m=m'+1:=⟨m - 1,by omega⟩
 have c2:((gT (m'+1)).cg Y).fn 217 [.ptr st.next 0] st2=.ret (.bool (overP (WM t 1 0 0))) st2:=over_run m' Y g2
 obtain⟨st3,c3,k3⟩:=sigShaped t (m'+1) Y F st2 [a,b,c] (hr.mono (Vs.of k02 hF) fun _ h=>h) (fun i hi=>Qz (hF i hi) k02.1) (by omega)
 have c3':((gT (m'+1)).cg Y).fn 218 [.agg [a,b,c]] st2=.ret (.bool (shT t)) st3:=c3
 have hres:isTr t=(!overP (WM t 1 0 0)&&shT t):=rfl
 rw[hres]
 generalize overP (WM t 1 0 0)=B at *
 obtain⟨fA12,hA12⟩:∃ fA,fA=Vo 0 [.agg [a,b,c]] Fr.nil:=⟨_,rfl⟩
 have gA12_0:=gAt hA12 0
 have dA12:fA12.ds=[]:=by rw[hA12];rfl
 obtain⟨J13,H13,O13_1⟩:∃ fr',Vj ((gT (m'+1)).cg Y) [ZO 1 (.box true (.t 0)),ZM 2 (ZB false)] fA12 st=.ok fr' st/\fr'.get 1=some (.fptr [a,b,c] 0):=⟨_,by simp only[amE,rQ,rA,gA12_0]<;>rfl,gn gh⟩
 obtain⟨J14,H14,O14_3⟩:∃ fr',Vj ((gT (m'+1)).cg Y) [ZO 3 (.alloc [Z0,Z0])] J13 st=.ok fr' st1/\fr'.get 3=some (.ptr st.next 0):=⟨_,by simp only[amE,rQ,rA,<-hst1]<;>rfl,gh⟩
 have V14_1:=ag H14 O13_1
 obtain⟨J15,H15⟩:∃ fr',Vj ((gT (m'+1)).cg Y) g137_2 J14 st1=.ok fr' st2:=⟨_,by simp only[amE,rQ,rA,V14_1,O14_3,g137_2,JZ,c1']<;>rfl⟩
 have V15_1:=ag H15 V14_1
 have V15_3:=ag H15 O14_3
 have W15:=ad H15 (ad H14 (ad H13 dA12))
 cases B with
 | true=>
  obtain⟨J16,H16,O16_2⟩:∃ fr',Vj ((gT (m'+1)).cg Y) g137_3 J15 st2=.ok fr' st2/\fr'.get 2=some (.bool false):=⟨_,by simp only[amE,rQ,rA,V15_1,V15_3,g137_3,JZ,c2,c3',unN,Qc,Qb]<;>rfl,gh⟩
  refine⟨st2,Ve (mf:=kf137) (fr:=J16) t159 rfl (.inl ?q16) (ad H16 W15) (by simp only[kf137,Vg,Vu,V0,O16_2,Qg,Ql,Qc,Qb,Q3,Q8]),k02⟩
  case q16=>
   rw[<-hA12]
   simp only[amE,rQ,rA,kf137,H13,H14,H15,H16]
 | false=>
  obtain⟨J17,H17,O17_2⟩:∃ fr',Vj ((gT (m'+1)).cg Y) g137_3 J15 st2=.ok fr' st3/\fr'.get 2=some (.bool (shT t)):=⟨_,by simp only[amE,rQ,rA,V15_1,V15_3,g137_3,JZ,c2,c3',unN,Qc,Qb]<;>rfl,gh⟩
  refine⟨st3,Ve (mf:=kf137) (fr:=J17) t159 rfl (.inl ?q17) (ad H17 W15) (by simp only[kf137,Vg,Vu,V0,O17_2,Qg,Ql,Qc,Qb,Q3,Q8]),k02.trans k3⟩
  case q17=>
   rw[<-hA12]
   simp only[amE,rQ,rA,kf137,H13,H14,H15,H17]
theorem greatest_run:∀(s:Nat) (l:List Tm) (n:Nat) (Y:Vi) (F:Nat->Prop) (st:St) (sl:AV) (xs:List (List AV)),Tm.fzL l+l.length=s->SlR F st sl xs->Vy F st l xs->(∀ i,F i->i < st.next)->s+1 < n ->
  ∃ st',R n Y 160 [sl] st=.ret (.int .i64 (WW l (.negSucc 0))) st'/\Vd st st':=by
 intro s
 induction s using Nat.strongRecOn with
 | _ s ih=>
 intro l n Y F st sl xs hs hsl hrs hF hn
 obtain⟨m,rfl⟩:∃ m,n=m+1:=⟨n - 1,by omega⟩
 have hxl:=hrs.len
 have hlen:=hsl.len st
 obtain⟨fr0,hfr0,z3,z6,z7,z8,zd⟩:∃ fr0,(∀ L T,ac m Y (ZQ [ZM 2 (ZC 0)] (ZQ [ZM 3 (.c (.int .i64 (.negSucc 0)))] (.seq (ZQ [ZV 6 0,ZN 7 6,ZM 8 (ZC 0)] L) T))) none (Vo 0 [sl] Fr.nil) st=match ac m Y L none fr0 st with
    | .norm fr st=>ac m Y T none fr st
    | r=>r)
   /\ fr0.get 3=some (.int .i64 (.negSucc 0))/\fr0.get 6=some sl/\fr0.get 7=some (ZI xs.length)/\fr0.get 8=some Z0/\fr0.ds=[]:=by
  refine⟨?f0,?f1,?f2,?f3,?f4,?f5,?f7⟩
  case f1=>
   intro L T
   simp only[amE,rQ,rA,hlen]
   rfl
  case f2=>simp only[Fr.get_set,rQ,↓reduceIte]
  case f3=>simp only[Fr.get_set,rQ,↓reduceIte]
  case f4=>simp only[Fr.get_set,rQ,↓reduceIte]
  case f5=>simp only[Fr.get_set,↓reduceIte]
  case f7=>rfl
 have b00:Nat.beq 0 0=true:=rfl
 have hB:∀ k fr s,k < xs.length->Kp [6,7] fr0 fr->fr.get 8=some (ZI k)->(Vd st s/\∃ o,fr.get 3=some (.int .i64 o)/\WW (l.drop k) o=WW l (.negSucc 0)) ->
   (∃ FR s',ac m Y bf138_0 none fr s=.norm FR s'/\Kp [8,6,7] fr FR/\(Vd st s'/\∃ o,FR.get 3=some (.int .i64 o)/\WW (l.drop (k+1)) o=WW l (.negSucc 0))) ∨
   (∃ FR s',ac m Y bf138_0 none fr s=.ret FR s'/\False):=by
  intro k fr s hk hkp g8 ⟨hks,o,q3,hq⟩
  obtain⟨t,ht,hdr⟩:=WR (l:=l) (k:=k) (by omega)
  obtain⟨x,hx,hrx⟩:=hrs.at ht
  have hsame:Vs F st s:=Vs.of hks hF
  obtain⟨p,ia,ld⟩:=hsl.at hx
  have ld:=ld s hsame
  obtain⟨s1,sto,ks,go,hnx⟩:=next_el s (zs:=[Z0,Z0,.nilsl]) rfl hrx.cells3
  rw[hdr,greL_cons] at hq
  have hfz:=Tm.fzL_mem (Qr ht)
  cases t with
  | mk k1 n1 nl1 ex1 l1=>
  have hrx1:=hrx.mono (hsame.trans (Vs.of ks fun i hi=>Qz (hF i hi) hks.1)) fun _ h=>h
  simp only[We] at hrx1
  obtain⟨sl1,xs1,rfl,hsl1,hrs1⟩:=hrx1
  simp only[Tm.fz] at hfz
  obtain⟨s2,hcall,ks2⟩:=ih (Tm.fzL l1+l1.length) (by omega) l1 m Y F s1 sl1 xs1 rfl hsl1 hrs1 (fun i hi=>Qz (hF i hi) (QY hks.1 ks.1)) (by omega)
  have hcall':((gT m).cg Y).fn 160 [sl1] s1=.ret (.int .i64 (WW l1 (.negSucc 0))) s2:=hcall
  have q6:=hkp.at (k:=6) (by decide) z6
  have q7:=hkp.at (k:=7) (by decide) z7
  have fa:∀ o,WG o (.ptr s.next 0)=some (.ptr s.next (0+o)):=fun _=>rfl
  have l0:=ld0 go
  have l1':=ld1 go
  have l2:=ld2 go
  have e1:Vr false .eql (.int .i64 k1) (ZI 1)=some (.bool (k1==1)):=rfl
  have fm:∀ x y:Int,foldA maxA (.int .i64 x) [.int .i64 y]=some (.int .i64 (mx x y)):=fun _ _=>rfl
  have hgt:greT (.mk k1 n1 nl1 ex1 l1) o=mx (if k1=1 then mx o n1 else o) (WW l1 (.negSucc 0)):=by conv=>lhs;unfold greT
  rw[hgt] at hq
  generalize hC:(k1==1)=C at *
  obtain⟨J18,H18,K18,O18_5⟩:∃ fr',ar m Y g138_0 fr s=.ok fr' s1/\Kp [3,6,7,8] fr fr'/\fr'.get 5=some (.ptr s.next 0):=⟨_,by simp only[amE,rQ,rA,q6,g8,g138_0,ia,ld,sto]<;>rfl,Kp.refl.s.s.s,gh⟩
  have V18_3:=K18.g 3 q3
  obtain⟨J19,H19,K19,O19_14⟩:∃ fr',ar m Y g138_1 J18 s1=.ok fr' s1/\Kp [3,5,6,7,8] J18 fr'/\fr'.get 14=some (.bool C):=⟨_,by simp only[amE,rQ,rA,O18_5,g138_1,fa,l0,l1',l2,e1]<;>rfl,Kp.refl.s.s.s,gh⟩
  have V19_3:=K19.g 3 V18_3
  have V19_5:=K19.g 5 O18_5
  cases C with
  | true=>
   rw[Qm (by simpa using hC)] at hq
   obtain⟨J20,H20,K20,O20_3⟩:∃ fr',ar m Y g138_2 J19 s1=.ok fr' s1/\Kp [5,6,7,8] J19 fr'/\fr'.get 3=some (.int .i64 (mx o n1)):=⟨_,by simp only[amE,rQ,rA,V19_3,V19_5,g138_2,nd_max,fm,fa,l0,l1',l2]<;>rfl,Kp.refl.s.s.s.s.s,gh⟩
   have V20_5:=K20.g 5 V19_5
   obtain⟨J21,H21,K21,O21_3⟩:∃ fr',ar m Y g138_3 J20 s1=.ok fr' s2/\Kp [6,7,8] J20 fr'/\fr'.get 3=some (.int .i64 (mx (mx o n1) (WW l1 (.negSucc 0)))):=⟨_,by simp only[amE,rQ,rA,V20_5,O20_3,g138_3,nd_max,fm,fa,l0,l1',l2,hcall']<;>rfl,Kp.refl.s.s.s.s.s.s,gh⟩
   refine .inl ⟨J21,s2,?q21,((((K18.sub (by decide)).trans (K19.sub (by decide))).trans (K20.sub (by decide))).trans (K21.sub (by decide))),(hks.trans ks).trans ks2,_,O21_3,hq⟩
   case q21=>simp only[amE,rQ,rA,bf138_0,H18,H19,H20,H21,O19_14]
  | false=>
   rw[Qe (by simpa using hC)] at hq
   obtain⟨J22,H22,K22,O22_3⟩:∃ fr',ar m Y g138_3 J19 s1=.ok fr' s2/\Kp [6,7,8] J19 fr'/\fr'.get 3=some (.int .i64 (mx o (WW l1 (.negSucc 0)))):=⟨_,by simp only[amE,rQ,rA,V19_3,V19_5,g138_3,nd_max,fm,fa,l0,l1',l2,hcall']<;>rfl,Kp.refl.s.s.s.s.s.s,gh⟩
   refine .inl ⟨J22,s2,?q22,(((K18.sub (by decide)).trans (K19.sub (by decide))).trans (K22.sub (by decide))),(hks.trans ks).trans ks2,_,O22_3,hq⟩
   case q22=>simp only[amE,rQ,rA,bf138_0,H18,H19,H22,O19_14]
 rcases kloop (Γ:=gT m) (Y:=Y) (m:=m) (N:=xs.length) (c:=9) (i:=8) (n:=7) (i2:=24) (ro:=none) (L:=[6,7]) (fr0:=fr0) (by decide) (by decide) (by decide) (by decide) z7 hsl.2.1
  (Q:=fun k fr s=>Vd st s/\∃ o,fr.get 3=some (.int .i64 o)/\WW (l.drop k) o=WW l (.negSucc 0)) (fun k fr s sl v hs ⟨h1,o,h2,h3⟩=>⟨h1,o,by rw[Fr.get_set,Qe (by omega)];exact h2,h3⟩) hB xs.length 0 fr0 st m (by omega) (by omega) Kp.refl z8 ⟨Vd.refl st,_,z3,rfl⟩
  with⟨FR,s',h1,h2,h3,o,h4,h5⟩|⟨FR,s',h1,h2⟩
 ·rw[hxl,Xr,greL_nil] at h5
  rw[h5] at h4
  refine⟨s',Ve (mf:=kf138) (fr:=(FR.set 25 (some (.int .i64 (WW l (.negSucc 0))))).set 2 (some (.int .i64 (WW l (.negSucc 0))))) t160 rfl (.inl ?w1) (h2.1.trans zd) ?w2,h3⟩
  case w1=>
   refine (hfr0 _ _).trans ?_
   simp only[amE,rQ,rA,h1,b00,h4]
  case w2=>simp only[kf138,Vg,Vu,V0,Fr.get_set,↓reduceIte,Qg,Ql]
 ·exact absurd h2 id
theorem ground_run(t:Tm)(n:Nat)(Y:Vi)(F:Nat->Prop)(st:St)(cs:List AV)(hr:We F st t cs)(hF:∀ i,F i->i < st.next)(hn:t.fz+4<=n):
  ∃ st',R n Y 111 [.agg cs] st=.ret (.bool (gr t)) st'/\Vd st st':=by
 obtain⟨m,rfl⟩:∃ m,n=m+1:=⟨n - 1,by omega⟩
 obtain⟨st1,c1,k1⟩:=isTree_run t m Y F st cs hr hF (by omega)
 have hc3:=hr.cells3
 have hr1:=hr.mono (Vs.of k1 hF) fun _ h=>h
 obtain⟨a,b,c,rfl⟩:∃ a b c,cs=[a,b,c]:=by
  match cs,hc3.1 with
  | [a,b,c],_=>exact⟨a,b,c,rfl⟩
 have hsl:SlR F st1 (.lst 1 [a,b,c] true) [[a,b,c]]:=by
  have:=SlR.lst F st1 (n:=1) (xs:=[[a,b,c]]) (ex:=true) (fun x hx=>by simp only[Xd] at hx;subst hx;exact hc3) (by simp) rfl
  simpa using this
 obtain⟨st2,c2,k2⟩:=greatest_run (Tm.fzL [t]+1) [t] m Y F st1 (.lst 1 [a,b,c] true) [[a,b,c]] rfl hsl (by simp only[Vy];exact⟨_,_,rfl,hr1,rfl⟩) (fun i hi=>Qz (hF i hi) k1.1) (by simp only[Tm.fzL];omega)
 have c1':((gT m).cg Y).fn 159 [.agg [a,b,c]] st=.ret (.bool (isTr t)) st1:=c1
 have c2':((gT m).cg Y).fn 160 [.lst 1 [a,b,c] true] st1=.ret (.int .i64 (WW [t] (.negSucc 0))) st2:=c2
 have fl:VN [ZI 0,ZI 0,.nilsl] [(0,3,.agg [a,b,c])]=some [a,b,c]:=rfl
 have lt:Vr false .lss (.int .i64 (WW [t] (.negSucc 0))) Z0=some (.bool (decide (WW [t] (.negSucc 0) < 0))):=rfl
 have hres:gr t=(isTr t&&decide (WW [t] (.negSucc 0) < 0)):=rfl
 rw[hres]
 generalize isTr t=B at *
 obtain⟨fA23,hA23⟩:∃ fA,fA=Vo 0 [.agg [a,b,c]] Fr.nil:=⟨_,rfl⟩
 have gA23_0:=gAt hA23 0
 have dA23:fA23.ds=[]:=by rw[hA23];rfl
 obtain⟨J24,H24,O24_1⟩:∃ fr',ar m Y [ZO 1 (.box true (.t 0)),ZM 2 (ZB false)] fA23 st=.ok fr' st/\fr'.get 1=some (.fptr [a,b,c] 0):=⟨_,by simp only[amE,rQ,rA,gA23_0]<;>rfl,gn gh⟩
 have W24:=ad H24 dA23
 cases B with
 | true=>
  obtain⟨J25,H25,O25_2⟩:∃ fr',ar m Y g110_1 J24 st=.ok fr' st2/\fr'.get 2=some (.bool (decide (WW [t] (.negSucc 0) < 0))):=⟨_,by simp only[amE,rQ,rA,O24_1,g110_1,JZ,c1',c2',fl,lt,Qc,Qb]<;>rfl,gh⟩
  refine⟨st2,Ve (mf:=kf110) (fr:=J25) t111 rfl (.inl ?q25) (ad H25 W24) (by simp only[kf110,Vg,Vu,V0,O25_2,Qg,Ql,Q3,Q8]),k1.trans k2⟩
  case q25=>
   rw[<-hA23]
   simp only[amE,rQ,rA,kf110,H24,H25]
 | false=>
  obtain⟨J26,H26,O26_2⟩:∃ fr',ar m Y g110_1 J24 st=.ok fr' st1/\fr'.get 2=some (.bool false):=⟨_,by simp only[amE,rQ,rA,O24_1,g110_1,JZ,c1',c2',fl,lt,Qc,Qb]<;>rfl,gh⟩
  refine⟨st1,Ve (mf:=kf110) (fr:=J26) t111 rfl (.inl ?q26) (ad H26 W24) (by simp only[kf110,Vg,Vu,V0,O26_2,Qg,Ql,Q3,Q8]),k1⟩
  case q26=>
   rw[<-hA23]
   simp only[amE,rQ,rA,kf110,H24,H26]
end
mutual
def Tm.size:Tm->Nat
 | .mk _ _ _ _ l=>Tm.sizeL l+1
def Tm.sizeL:List Tm->Nat
 | []=>0
 | t::l=>t.size+Tm.sizeL l
end
mutual
def Tm.depth:Tm->Nat
 | .mk _ _ _ _ l=>Tm.depthL l+1
def Tm.depthL:List Tm->Nat
 | []=>0
 | t::l=>if t.depth<=Tm.depthL l then Tm.depthL l else t.depth
end
mutual
def rcT:Tm->Int->Int->Int × Bool
 | .mk _ _ _ _ l,left,deep=>if sw left 1 < 0 then (sw left 1,false) else if deep > 200 then (sw left 1,false) else rcL l (sw left 1) deep
def rcL:List Tm->Int->Int->Int × Bool
 | [],left,_=>(left,true)
 | t::l,left,deep=>if (rcT t left (aw deep 1)).2=true then rcL l (rcT t left (aw deep 1)).1 deep else ((rcT t left (aw deep 1)).1,false)
end
theorem rcL_nil(left deep:Int):rcL [] left deep=(left,true):=by unfold rcL;rfl
theorem rcL_cons(t:Tm)(l:List Tm)(left deep:Int):rcL (t::l) left deep=if (rcT t left (aw deep 1)).2=true then rcL l (rcT t left (aw deep 1)).1 deep else ((rcT t left (aw deep 1)).1,false):=by conv=>lhs;unfold rcL
def rIs(t:Tm):Bool:=(rcT t 2000 1).2&&shT t
mutual
theorem rcT_spec:∀(t:Tm) (left deep:Int),0<=left->left<=4000->1<=deep->deep<=201 ->
  ((rcT t left deep).2=true ↔ ((t.size:Int)<=left/\deep+t.depth<=201))/\((rcT t left deep).2=true->(rcT t left deep).1=left - t.size)
 | .mk k n nl ex l,left,deep,h1,h2,h3,h4=>by
  have hs:sw left 1=left - 1:=sw_eq (by omega) (by omega)
  unfold rcT
  rw[hs]
  simp only[Tm.size,Tm.depth]
  by_cases c1:left - 1 < 0
  ·rw[Qm c1];exact⟨⟨fun h=>(by cases h),fun h=>by omega⟩,fun h=>(by cases h)⟩
  rw[Qe c1]
  by_cases c2:deep > 200
  ·rw[Qm c2];exact⟨⟨fun h=>(by cases h),fun h=>by omega⟩,fun h=>(by cases h)⟩
  rw[Qe c2]
  obtain⟨k1,k2⟩:=rcL_spec l (left - 1) deep (by omega) (by omega) h3 (by omega)
  refine⟨⟨fun h=>?_,fun h=>?_⟩,fun h=>?_⟩
  ·obtain⟨a1,a2⟩:=k1.1 h
   exact⟨by omega,by omega⟩
  ·exact k1.2 ⟨by omega,by omega⟩
  ·rw[k2 h];omega
theorem rcL_spec:∀(l:List Tm) (left deep:Int),0<=left->left<=4000->1<=deep->deep<=200 ->
  ((rcL l left deep).2=true ↔ ((Tm.sizeL l:Int)<=left/\deep+Tm.depthL l<=200))/\((rcL l left deep).2=true->(rcL l left deep).1=left - Tm.sizeL l)
 | [],left,deep,h1,h2,h3,h4=>by
  simp only[rcL,Tm.sizeL,Tm.depthL,true_iff]
  exact⟨⟨by omega,by omega⟩,fun _=>by omega⟩
 | d::l,left,deep,h1,h2,h3,h4=>by
  have ha:aw deep 1=deep+1:=aw_eq (by omega) (by omega)
  unfold rcL
  rw[ha]
  obtain⟨k1,k2⟩:=rcT_spec d left (deep+1) h1 h2 (by omega) (by omega)
  simp only[Tm.sizeL,Tm.depthL]
  by_cases c:(rcT d left (deep+1)).2=true
  ·rw[Qm c]
   obtain⟨a2,a3⟩:=k1.1 c
   have e:=k2 c
   rw[e]
   obtain⟨m1,m2⟩:=rcL_spec l (left - d.size) deep (by omega) (by omega) h3 h4
   refine⟨⟨fun h=>?_,fun h=>?_⟩,fun h=>?_⟩
   ·obtain⟨b2,b3⟩:=m1.1 h
    exact⟨by omega,by split<;>omega⟩
   ·refine m1.2 ⟨by omega,?_⟩
    have:=h.2
    split at this<;>omega
   ·rw[m2 h];omega
  ·rw[Qe c]
   refine⟨⟨fun h=>(by cases h),fun h=>?_⟩,fun h=>(by cases h)⟩
   exact absurd (k1.2 ⟨by omega,by have:=h.2;split at this<;>omega⟩) c
end
def fitT(p:Int × Int):Prop:=p.1<=2000/\p.2<=200
mutual
theorem cntT_spec:∀(t:Tm) (d a b:Int),0<=a->a<=2000->0<=b->b<=200->1<=d->d<=201 ->
  (fitT (WM t d a b) ↔ (a+t.size<=2000/\d+t.depth<=201))/\(fitT (WM t d a b)->(WM t d a b).1=a+t.size/\0<=(WM t d a b).2)
 | .mk k n nl ex l,d,a,b,h1,h2,h3,h4,h5,h6=>by
  have ha:aw a 1=a+1:=aw_eq (by omega) (by omega)
  have hm:mx b d=if d > b then d else b:=rfl
  unfold WM
  rw[ha]
  simp only[Tm.size,Tm.depth]
  have hmd:d<=mx b d/\b<=mx b d/\(mx b d=d\/mx b d=b):=by rw[hm];split<;>omega
  generalize mx b d=M at *
  by_cases c1:a+1 > 2000\/M > 200
  ·
   have hno:Yw l d (a+1) M=(a+1,M)\/l=[]:=by
    cases l with
    | nil=>exact .inr rfl
    | cons t l=>
     left
     rw[Sg]
     by_cases c:a+1 > 2000
     ·rw[Qm c]
     ·rw[Qe c,Qm (by omega)]
   have hv:Yw l d (a+1) M=(a+1,M):=by
    rcases hno with h | h
    ·exact h
    ·rw[h,cntL_nil]
   rw[hv]
   unfold fitT
   exact⟨⟨fun h=>by simp only at h;omega,fun h=>by omega⟩,fun h=>by simp only at h;omega⟩
  ·obtain⟨k1,k2⟩:=cntL_spec l d (a+1) M (by omega) (by omega) (by omega) (by omega) h5 (by omega)
   refine⟨⟨fun h=>?_,fun h=>?_⟩,fun h=>?_⟩
   ·obtain⟨a1,a2⟩:=k1.1 h
    exact⟨by omega,by omega⟩
   ·exact k1.2 ⟨by omega,by omega⟩
   ·obtain⟨a1,a2⟩:=k2 h
    exact⟨by omega,a2⟩
theorem cntL_spec:∀(l:List Tm) (d a b:Int),0<=a->a<=2000->0<=b->b<=200->1<=d->d<=200 ->
  (fitT (Yw l d a b) ↔ (a+Tm.sizeL l<=2000/\d+Tm.depthL l<=200))/\(fitT (Yw l d a b)->(Yw l d a b).1=a+Tm.sizeL l/\0<=(Yw l d a b).2)
 | [],d,a,b,h1,h2,h3,h4,h5,h6=>by
  rw[cntL_nil]
  simp only[Tm.sizeL,Tm.depthL,fitT]
  exact⟨⟨fun _=>⟨by omega,by omega⟩,fun _=>⟨by omega,by omega⟩⟩,fun _=>⟨by omega,by omega⟩⟩
 | t::l,d,a,b,h1,h2,h3,h4,h5,h6=>by
  have ha:aw d 1=d+1:=aw_eq (by omega) (by omega)
  rw[Sg,Qe (by omega),Qe (by omega),ha]
  obtain⟨k1,k2⟩:=cntT_spec t (d+1) a b h1 h2 h3 h4 (by omega) (by omega)
  simp only[Tm.sizeL,Tm.depthL]
  by_cases c:fitT (WM t (d+1) a b)
  ·obtain⟨a1,a2⟩:=k1.1 c
   obtain⟨e1,e2⟩:=k2 c
   obtain⟨m1,m2⟩:=cntL_spec l d (WM t (d+1) a b).1 (WM t (d+1) a b).2 (by omega) c.1 e2 c.2 h5 h6
   refine⟨⟨fun h=>?_,fun h=>?_⟩,fun h=>?_⟩
   ·obtain⟨b1,b2⟩:=m1.1 h
    exact⟨by omega,by split<;>omega⟩
   ·refine m1.2 ⟨by omega,?_⟩
    have:=h.2
    split at this<;>omega
   ·obtain⟨b1,b2⟩:=m2 h
    exact⟨by omega,b2⟩
  ·
   have hv:Yw l d (WM t (d+1) a b).1 (WM t (d+1) a b).2=((WM t (d+1) a b).1,(WM t (d+1) a b).2):=by
    cases l with
    | nil=>rw[cntL_nil]
    | cons u l=>
     rw[Sg]
     by_cases c':(WM t (d+1) a b).1 > 2000
     ·rw[Qm c']
     ·rw[Qe c',Qm]
      by_cases c2:(WM t (d+1) a b).2 > 200
      ·exact c2
      ·exact absurd ⟨by omega,by omega⟩ c
   rw[hv]
   refine⟨⟨fun h=>absurd h c,fun h=>?_⟩,fun h=>absurd h c⟩
   exact absurd (k1.2 ⟨by omega,by have:=h.2;split at this<;>omega⟩) c
end
theorem rIs_eq(t:Tm):rIs t=isTr t:=by
 obtain⟨h1,_⟩:=rcT_spec t 2000 1 (by omega) (by omega) (by omega) (by omega)
 obtain⟨h2,_⟩:=cntT_spec t 1 0 0 (by omega) (by omega) (by omega) (by omega) (by omega) (by omega)
 unfold rIs isTr
 congr 1
 have h3:(!overP (WM t 1 0 0))=true ↔ fitT (WM t 1 0 0):=by
  unfold overP fitT
  simp only[Xy,XM,XT]
  constructor
  ·rintro ⟨a,b⟩;exact⟨by omega,by omega⟩
  ·rintro ⟨a,b⟩;exact⟨by omega,by omega⟩
 rw[Bool.eq_iff_iff,h1,h3,h2]
 constructor
 ·rintro ⟨a,b⟩;exact⟨by omega,by omega⟩
 ·rintro ⟨a,b⟩;exact⟨by omega,by omega⟩
mutual
def vT:Tm->List Int->List Int
 | .mk k n _ _ l,out=>if k=1 then (if n∈out then out else out++[n]) else vL l out
def vL:List Tm->List Int->List Int
 | [],out=>out
 | t::l,out=>vL l (vT t out)
end
theorem vL_nil(o:List Int):vL [] o=o:=by unfold vL;rfl
theorem Tf(t:Tm)(l:List Tm)(o:List Int):vL (t::l) o=vL l (vT t o):=by conv=>lhs;unfold vL
mutual
theorem vT_keep:∀(t:Tm) (o:List Int),o≠[]->vT t o≠[]
 | .mk k n _ _ l,o,h=>by
  unfold vT
  split
  ·split
   ·exact h
   ·simp
  ·exact vL_keep l o h
theorem vL_keep:∀(l:List Tm) (o:List Int),o≠[]->vL l o≠[]
 | [],o,h=>by rw[vL_nil];exact h
 | t::l,o,h=>by rw[Tf];exact vL_keep l _ (vT_keep t o h)
end
mutual
theorem vT_gre:∀(t:Tm) (o:Int),shT t=true->(greT t o < 0 ↔ (o < 0/\vT t []=[]))
 | .mk k n nl ex l,o,h=>by
  have hb:badT k n l.length=false:=by
   unfold shT at h
   split at h
   ·cases h
   ·rename_i hb;simpa using hb
  obtain⟨_,hl⟩:=shT_mk h
  have hn:¬ n < 0:=by
   unfold badT at hb
   simp only[XM,XT] at hb
   exact hb.1.1.1
  have ih:=vL_gre l (.negSucc 0) hl
  unfold greT vT
  have hmx:∀ x y:Int,mx x y < 0 ↔ x < 0/\y < 0:=fun x y=>by unfold mx;split<;>omega
  rw[hmx]
  by_cases hk:k=1
  ·rw[Qm hk,Qm hk,Qe (by simp),hmx]
   simp
   omega
  ·rw[Qe hk,Qe hk,ih]
   constructor
   ·rintro ⟨a,_,b⟩;exact⟨a,b⟩
   ·rintro ⟨a,b⟩;exact⟨a,by decide,b⟩
theorem vL_gre:∀(l:List Tm) (o:Int),shL l=true->(WW l o < 0 ↔ (o < 0/\vL l []=[]))
 | [],o,_=>by rw[greL_nil,vL_nil];simp
 | t::l,o,h=>by
  rw[Ul] at h
  split at h
  ·rename_i ht
   rw[greL_cons,Tf,vL_gre l _ h,vT_gre t o ht]
   constructor
   ·rintro ⟨⟨a,b⟩,c⟩;rw[b];exact⟨a,c⟩
   ·rintro ⟨a,b⟩
    by_cases hv:vT t []=[]
    ·rw[hv] at b;exact⟨⟨a,hv⟩,b⟩
    ·exact absurd b (vL_keep l _ hv)
  ·cases h
end
def rGround(t:Tm):Bool:=rIs t&&decide ((vL [t] []).length=0)
theorem rGround_eq(t:Tm):rGround t=gr t:=by
 unfold rGround gr
 rw[rIs_eq]
 cases hi:isTr t with
 | false=>rfl
 | true=>
  have hs:shT t=true:=by simp only[isTr,Qd] at hi;exact hi.2
  have h:=vL_gre [t] (.negSucc 0) (by rw[Ul,Qm hs,shL_nil])
  simp only[Q3]
  rw[Bool.eq_iff_iff,decide_eq_true_iff,decide_eq_true_iff,h,XU]
  constructor
  ·intro a;exact⟨by decide,a⟩
  ·intro a;exact a.2
mutual
def rcD:Dv->Int->Int->Int × Bool
 | .mk _ _ _ _ _ _ l,left,deep=>if sw left 1 < 0 then (sw left 1,false) else if deep > 400 then (sw left 1,false) else Yj l (sw left 1) deep
def Yj:List Dv->Int->Int->Int × Bool
 | [],left,_=>(left,true)
 | t::l,left,deep=>if (rcD t left (aw deep 1)).2=true then Yj l (rcD t left (aw deep 1)).1 deep else ((rcD t left (aw deep 1)).1,false)
end
theorem rcDL_nil(left deep:Int):Yj [] left deep=(left,true):=by unfold Yj;rfl
theorem rcDL_cons(t:Dv)(l:List Dv)(left deep:Int):Yj (t::l) left deep=if (rcD t left (aw deep 1)).2=true then Yj l (rcD t left (aw deep 1)).1 deep else ((rcD t left (aw deep 1)).1,false):=by conv=>lhs;unfold Yj
mutual
theorem rcD_spec:∀(t:Dv) (left deep:Int),0<=left->left<=4000->1<=deep->deep<=401 ->
  ((rcD t left deep).2=true ↔ ((t.size:Int)<=left/\deep+t.depth<=401))/\((rcD t left deep).2=true->(rcD t left deep).1=left - t.size)
 | .mk r nv ev vs nl ex l,left,deep,h1,h2,h3,h4=>by
  have hs:sw left 1=left - 1:=sw_eq (by omega) (by omega)
  unfold rcD
  rw[hs]
  simp only[Dv.size,Dv.depth]
  by_cases c1:left - 1 < 0
  ·rw[Qm c1];exact⟨⟨fun h=>(by cases h),fun h=>by omega⟩,fun h=>(by cases h)⟩
  rw[Qe c1]
  by_cases c2:deep > 400
  ·rw[Qm c2];exact⟨⟨fun h=>(by cases h),fun h=>by omega⟩,fun h=>(by cases h)⟩
  rw[Qe c2]
  obtain⟨k1,k2⟩:=rcDL_spec l (left - 1) deep (by omega) (by omega) h3 (by omega)
  refine⟨⟨fun h=>?_,fun h=>?_⟩,fun h=>?_⟩
  ·obtain⟨a1,a2⟩:=k1.1 h
   exact⟨by omega,by omega⟩
  ·exact k1.2 ⟨by omega,by omega⟩
  ·rw[k2 h];omega
theorem rcDL_spec:∀(l:List Dv) (left deep:Int),0<=left->left<=4000->1<=deep->deep<=400 ->
  ((Yj l left deep).2=true ↔ ((Dv.sizeL l:Int)<=left/\deep+Dv.depthL l<=400))/\((Yj l left deep).2=true->(Yj l left deep).1=left - Dv.sizeL l)
 | [],left,deep,h1,h2,h3,h4=>by
  simp only[Yj,Dv.sizeL,Dv.depthL,true_iff]
  exact⟨⟨by omega,by omega⟩,fun _=>by omega⟩
 | d::l,left,deep,h1,h2,h3,h4=>by
  have ha:aw deep 1=deep+1:=aw_eq (by omega) (by omega)
  unfold Yj
  rw[ha]
  obtain⟨k1,k2⟩:=rcD_spec d left (deep+1) h1 h2 (by omega) (by omega)
  simp only[Dv.sizeL,depthL_max]
  by_cases c:(rcD d left (deep+1)).2=true
  ·rw[Qm c]
   obtain⟨a2,a3⟩:=k1.1 c
   have e:=k2 c
   rw[e]
   obtain⟨m1,m2⟩:=rcDL_spec l (left - d.size) deep (by omega) (by omega) h3 h4
   refine⟨⟨fun h=>?_,fun h=>?_⟩,fun h=>?_⟩
   ·obtain⟨b2,b3⟩:=m1.1 h
    exact⟨by omega,by split<;>omega⟩
   ·refine m1.2 ⟨by omega,?_⟩
    have:=h.2
    split at this<;>omega
   ·rw[m2 h];omega
  ·rw[Qe c]
   refine⟨⟨fun h=>(by cases h),fun h=>?_⟩,fun h=>(by cases h)⟩
   exact absurd (k1.2 ⟨by omega,by have:=h.2;split at this<;>omega⟩) c
end
def rIsD(d:Dv):Bool:=(rcD d 4000 1).2&&d.good gr
theorem rIsD_eq(d:Dv):rIsD d=JY d:=by
 obtain⟨h1,_⟩:=rcD_spec d 4000 1 (by omega) (by omega) (by omega) (by omega)
 unfold rIsD
 rw[Bool.eq_iff_iff,Qd,h1,isDv_iff]
 constructor
 ·rintro ⟨⟨a,b⟩,c⟩;exact⟨c,by omega,by omega⟩
 ·rintro ⟨a,b,c⟩;exact⟨⟨by omega,by omega⟩,a⟩
end Go.AM.D32
