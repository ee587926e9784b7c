import Derived.Test.YtejdliehekjicaaGreatAwWa1
set_option maxRecDepth 100000
set_option linter.unusedSimpArgs false
namespace Go.AM.D32
open Go Go.AM
noncomputable section
open Nat renaming reduceEqDiff -> rQ, reduceAdd -> rA
def RS(x:Int):Bool:=decide (0<=x)&&decide (x<=2147483647)
theorem Tb(x:Int):RS x=true ↔ 0<=x/\x<=2147483647:=by simp[RS]
def wg60_1:List Vc:=[ZV 3 0,ZO 4 (.bin false .geq (.t 3) (ZC 0)),ZV 5 4,ZG 6 (.mv (.t 0)) 5 true,ZG 7 (.bin false .leq (.t 6) (ZC 2147483647)) 5 true,ZO 8 (.pick (.t 5) (.t 7) (ZB false)),ZV 2 8]
def wf60:Vm:=⟨9,(ZQ [ZM 2 (ZB false)]
 (ZR wg60_1)),[.t 2]⟩
theorem t60:Ry 60=some wf60:=by kernel_rfl
theorem number_run(n:Nat)(Y:Vi)(x:Int)(st:St):R (n+1) Y 60 [.int .i64 x] st=.ret (.bool (RS x)) st:=by
 have g:Vr false .geq (.int .i64 x) Z0=some (.bool (decide (0<=x))):=rfl
 have l:Vr false .leq (.int .i64 x) (ZI 2147483647)=some (.bool (decide (x<=2147483647))):=rfl
 unfold RS
 generalize decide (0<=x)=A at *
 generalize decide (x<=2147483647)=B at *
 obtain⟨fr,h1,h2,h3⟩:∃ fr,Vh (gT (n)) Y (n) wf60.code none (Vo 0 [.int .i64 x] Fr.nil) st=.ret fr st/\Vg fr st wf60.res=.ret (.bool (A&&B)) st/\fr.ds=[]:=by
  cases A<;>cases B<;>exact⟨_,by simp only[Rw,rQ,rA,wf60,wg60_1,Jy,Kx,g,l,amB,Qc,Qb]<;>rfl,by simp only[wf60,Rw,Fr.get_set,rQ,↓reduceIte,amB,Qc,Qb],rfl⟩
 exact Ve t60 rfl (.inl h1) h3 h2
def wg108_1:List Vc:=[ZV 3 0,ZO 4 (.bin false .lss (.t 3) (ZC 0)),ZV 5 4,ZG 6 (.mv (.t 0)) 5 false,ZG 7 (.bin false .gtr (.t 6) (ZC 2147483647)) 5 false,ZO 8 (.pick (.t 5) (ZB true) (.t 7)),ZV 2 8]
def wf108:Vm:=⟨9,(ZQ [ZM 2 (ZB false)]
 (ZR wg108_1)),[.t 2]⟩
theorem t108:Ry 108=some wf108:=by kernel_rfl
theorem numbers1_run(n:Nat)(Y:Vi)(x:Int)(st:St):R (n+1) Y 108 [.int .i64 x] st=.ret (.bool (!RS x)) st:=by
 have g:Vr false .lss (.int .i64 x) Z0=some (.bool (!decide (0<=x))):=by
  show some (AV.bool (decide (x < 0)))=_
  congr 2
  by_cases h:0<=x
  ·rw[Qs h,Qp (by omega)];rfl
  ·rw[Qp h,Qs (by omega)];rfl
 have l:Vr false .gtr (.int .i64 x) (ZI 2147483647)=some (.bool (!decide (x<=2147483647))):=by
  show some (AV.bool (decide (x > 2147483647)))=_
  congr 2
  by_cases h:x<=2147483647
  ·rw[Qs h,Qp (by omega)];rfl
  ·rw[Qp h,Qs (by omega)];rfl
 unfold RS
 generalize decide (0<=x)=A at *
 generalize decide (x<=2147483647)=B at *
 obtain⟨fr,h1,h2,h3⟩:∃ fr,Vh (gT (n)) Y (n) wf108.code none (Vo 0 [.int .i64 x] Fr.nil) st=.ret fr st/\Vg fr st wf108.res=.ret (.bool (!(A&&B))) st/\fr.ds=[]:=by
  cases A<;>cases B<;>exact⟨_,by simp only[Rw,rQ,rA,wf108,wg108_1,Jy,Kx,g,l,amB,Qc,Qb]<;>rfl,by simp only[wf108,Rw,Fr.get_set,rQ,↓reduceIte,amB,Qc,Qb],rfl⟩
 exact Ve t108 rfl (.inl h1) h3 h2
def wg66_1:List Vc:=[ZV 3 0,ZO 4 (.call (.c (.func (.func 63) [] [])) [(.t 3),(.c (.func (.func 108) [] []))]),ZO 5 (.un .not (.t 4)),ZV 2 5]
def wf66:Vm:=⟨6,(ZQ [ZM 2 (ZB false)]
 (ZR wg66_1)),[.t 2]⟩
theorem t66:Ry 66=some wf66:=by kernel_rfl
theorem numbers_run(n:Nat)(Y:Vi){F:Nat->Prop}{sl:AV}{xs:List Int}(st:St)(aD:RE F st sl xs)(hn:xs.length < n+1):R (n+4) Y 66 [sl] st=.ret (.bool (xs.all RS)) st:=by
 have hc:=any63 (n:=n+1) (Y:=Y) (q:=108) (caps:=[]) aD (fun x=>!RS x) (fun x _=>numbers1_run n Y x st) hn
 have cz:((gT (n+3)).cg Y).fn 63 [sl,.func (.func 108) [] []] st=.ret (.bool (xs.any fun x=>!RS x)) st:=hc
 have hr:xs.all RS=!(xs.any fun x=>!RS x):=by simp[List.all_eq_not_any_not]
 have hu:∀ b,unA .not (.bool b)=some (.bool (!b)):=fun _=>rfl
 rw[hr]
 obtain⟨fr,h1,h2,h3⟩:∃ fr,ac (n+3) Y wf66.code none (Vo 0 [sl] Fr.nil) st=.ret fr st/\Vg fr st wf66.res=.ret (.bool (!(xs.any fun x=>!RS x))) st/\fr.ds=[]:=by
  exact⟨_,by simp only[Rw,rQ,rA,wf66,wg66_1,Jy,Kx,cz,hu,amB,Qc,Qb]<;>rfl,by simp only[wf66,Rw,Fr.get_set,rQ,↓reduceIte,amB,Qc,Qb],rfl⟩
 exact Ve t66 rfl (.inl h1) h3 h2
def Rb(m:Nat)(ps:List Int)(N:Int):Bool:=decide (1<=N)&&decide (N<=8)&&decide (m<=24)&&decide (ps.length=m)&&ps.all fun k=>decide (0<=k)&&decide (k < N)
theorem RG(id k:Nat):WG k (.ptr id 0)=some (.ptr id k):=by simp[WG]
theorem WN(b:Bool):unA .not (.bool b)=some (.bool (!b)):=rfl
def wg64_1:List Vc:=[ZV 4 0,ZO 5 (.bin false .lss (.t 4) (ZC 0)),ZV 6 5,ZG 7 (.mv (.t 0)) 6 false,ZG 8 (.faddr 2 (.t 1)) 6 false,ZG 9 (.load false 1 (.t 8)) 6 false,ZG 10 (.bin false .geq (.t 7) (.t 9)) 6 false,ZO 11 (.pick (.t 6) (ZB true) (.t 10)),ZV 3 11]
def wf64:Vm:=⟨12,(ZQ [ZM 3 (ZB false)]
 (ZR wg64_1)),[.t 3]⟩
theorem t64:Ry 64=some wf64:=by kernel_rfl
theorem layout1_run(n:Nat)(Y:Vi)(x N:Int){id:Nat}{lv pv:AV}(st:St)(hg:st.get id=some (.row [lv,pv,.int .i64 N])):R (n+1) Y 64 [.int .i64 x,.ptr id 0] st=.ret (.bool (!(decide (0<=x)&&decide (x < N)))) st:=by
 have g:Vr false .lss (.int .i64 x) Z0=some (.bool (!decide (0<=x))):=by
  show some (AV.bool (decide (x < 0)))=_
  congr 2
  by_cases h:0<=x
  ·rw[Qs h,Qp (by omega)];rfl
  ·rw[Qp h,Qs (by omega)];rfl
 have l:Vr false .geq (.int .i64 x) (.int .i64 N)=some (.bool (!decide (x < N))):=by
  show some (AV.bool (decide (N<=x)))=_
  congr 2
  by_cases h:x < N
  ·rw[Qs h,Qp (by omega)];rfl
  ·rw[Qp h,Qs (by omega)];rfl
 have l2:=ld2 hg
 have f2:=RG id 2
 generalize decide (0<=x)=A at *
 generalize decide (x < N)=B at *
 obtain⟨fr,h1,h2,h3⟩:∃ fr,Vh (gT (n)) Y (n) wf64.code none (Vo 0 [.int .i64 x,.ptr id 0] Fr.nil) st=.ret fr st/\Vg fr st wf64.res=.ret (.bool (!(A&&B))) st/\fr.ds=[]:=by
  cases A<;>cases B<;>exact⟨_,by simp only[Rw,rQ,rA,wf64,wg64_1,Jy,Kx,g,l,l2,f2,amB,Qc,Qb]<;>rfl,by simp only[wf64,Rw,Fr.get_set,rQ,↓reduceIte,amB,Qc,Qb],rfl⟩
 exact Ve t64 rfl (.inl h1) h3 h2
def wg29_1:List Vc:=[ZA 3 2 1,ZL 4 3,ZO 5 (.bin false .lss (.t 4) (ZC 1)),ZV 6 5,ZG 7 (.faddr 2 (.t 1)) 6 false,ZG 8 (.load false 1 (.t 7)) 6 false,ZG 9 (.bin false .gtr (.t 8) (ZC 8)) 6 false,ZO 10 (.pick (.t 6) (ZB true) (.t 9)),ZV 11 10,ZG 12 (.faddr 0 (.t 1)) 11 false,ZG 13 (.load false 1 (.t 12)) 11 false,ZG 14 (.len 0 (.t 13)) 11 false,ZG 15 (.bin false .gtr (.t 14) (ZC 24)) 11 false,ZO 16 (.pick (.t 11) (ZB true) (.t 15)),ZV 17 16,ZG 18 (.faddr 1 (.t 1)) 17 false,ZG 19 (.load false 1 (.t 18)) 17 false,ZG 20 (.len 0 (.t 19)) 17 false,ZG 21 (.faddr 0 (.t 1)) 17 false,ZG 22 (.load false 1 (.t 21)) 17 false,ZG 23 (.len 0 (.t 22)) 17 false,ZG 24 (.bin false .neq (.t 20) (.t 23)) 17 false,ZO 25 (.pick (.t 17) (ZB true) (.t 24))]
def wg29_3:List Vc:=[ZA 26 1 1,ZL 27 26,ZO 28 (.mkfn 64 [] [(.t 1)]),ZX 29 63 [(.t 27),(.t 28)],ZO 30 (.un .not (.t 29)),ZV 2 30]
def wf29:Vm:=⟨31,(ZQ [ZO 1 (.box false (.t 0)),ZM 2 (ZB false)]
 (.seq (ZQ wg29_1
 (.cond (.t 25)
 (ZR [ZM 2 (ZB false)])
 .skip))
 (ZR wg29_3))),[.t 2]⟩
theorem t29:Ry 29=some wf29:=by kernel_rfl
theorem layout_run{n:Nat}{Y:Vi}{F:Nat->Prop}{st:St}{lv pv:AV}{ls:List (List AV)}{ps:List Int}{N:Int}(hl:RB 1 F st lv ls)(hp:RE F st pv ps)(hF:∀ i,F i->i < st.next)(hn:ps.length < n+1):
  R (n+4) Y 29 [.agg [lv,pv,.int .i64 N]] st=.ret (.bool (Rb ls.length ps N)) (st.new (.row [lv,pv,.int .i64 N])):=by
 have hg:(st.new (.row [lv,pv,.int .i64 N])).get st.next=some (.row [lv,pv,.int .i64 N]):=by rw[St.get_new,Qm rfl]
 have hS:Vs F st (st.new (.row [lv,pv,.int .i64 N])):=Vs.of (Vd.new _ _) hF
 generalize bU:st.new (.row [lv,pv,.int .i64 N])=ai at *
 have l0:=ld0 hg
 have l1:=ld1 hg
 have l2:=ld2 hg
 have f0:=RG st.next 0
 have f1:=RG st.next 1
 have f2:=RG st.next 2
 have n0:=hl.len ai
 have n1:=RE.len hp ai
 have cA:Vr false .lss (.int .i64 N) (ZI 1)=some (.bool (!decide (1<=N))):=by
  show some (AV.bool (decide (N < 1)))=_
  congr 2
  by_cases h:1<=N
  ·rw[Qs h,Qp (by omega)];rfl
  ·rw[Qp h,Qs (by omega)];rfl
 have cB:Vr false .gtr (.int .i64 N) (ZI 8)=some (.bool (!decide (N<=8))):=by
  show some (AV.bool (decide (N > 8)))=_
  congr 2
  by_cases h:N<=8
  ·rw[Qs h,Qp (by omega)];rfl
  ·rw[Qp h,Qs (by omega)];rfl
 have cC:Vr false .gtr (ZI ls.length) (ZI 24)=some (.bool (!decide (ls.length<=24))):=by
  show some (AV.bool (decide ((ls.length:Int) > 24)))=_
  congr 2
  by_cases h:ls.length<=24
  ·rw[Qs h,Qp (by omega)];rfl
  ·rw[Qp h,Qs (by omega)];rfl
 have cD:Vr false .neq (ZI ps.length) (ZI ls.length)=some (.bool (!decide (ps.length=ls.length))):=by
  rw[Yk]
  congr 2
  by_cases h:ps.length=ls.length
  ·rw[Qs h,h];simp
  ·rw[Qp h];simp only[Qb,bne_iff_ne,ne_eq];intro e;injection e with e;exact h e
 have hc:=any63 (n:=n+1) (Y:=Y) (q:=64) (caps:=[.ptr st.next 0]) (hp.mono hS (fun _ h=>h)) (fun k=>!(decide (0<=k)&&decide (k < N))) (fun x _=>layout1_run n Y x N ai hg) hn
 have cz:((gT (n+3)).cg Y).fn 63 [pv,.func (.func 64) [] [.ptr st.next 0]] ai=.ret (.bool (ps.any fun k=>!(decide (0<=k)&&decide (k < N)))) ai:=hc
 have hr:(ps.all fun k=>decide (0<=k)&&decide (k < N))=!(ps.any fun k=>!(decide (0<=k)&&decide (k < N))):=by simp[List.all_eq_not_any_not]
 unfold Rb
 rw[hr]
 generalize (ps.any fun k=>!(decide (0<=k)&&decide (k < N)))=G at *
 generalize decide (1<=N)=A at *
 generalize decide (N<=8)=B at *
 generalize decide (ls.length<=24)=C at *
 generalize decide (ps.length=ls.length)=D at *
 have rD:∀ fr:Fr,fr.get 0=some (.agg [lv,pv,.int .i64 N])->(RD ((gT (n+3)).cg Y) fr st (.box false (.t 0)))=.val (.ptr st.next 0) ai:=fun fr h=>by rw[<-bU];simp only[RD,R8,ev,h,Qq];rfl
 obtain⟨fr,h1,h2,h3⟩:∃ fr,ac (n+3) Y wf29.code none (Vo 0 [.agg [lv,pv,.int .i64 N]] Fr.nil) st=.ret fr ai/\Vg fr ai wf29.res=.ret (.bool (A&&B&&C&&D&&!G)) ai/\fr.ds=[]:=by
  subst bU
  cases A<;>cases B<;>cases C<;>cases D<;>exact⟨_,by simp only[Rw,rQ,rA,wf29,wg29_1,wg29_3,Jy,cA,cB,cC,cD,l0,l1,l2,f0,f1,f2,n0,n1,cz,WN,amB,Qc,Qb]<;>rfl,by simp only[wf29,Rw,Fr.get_set,rQ,↓reduceIte,amB,Qc,Qb],rfl⟩
 exact Ve t29 rfl (.inl h1) h3 h2
end
noncomputable section
open Nat renaming reduceEqDiff -> rQ, reduceAdd -> rA
theorem Ws{B:Fr->St->CR}{N:Nat}{R3:Nat->Fr->St->Prop}{Out:CR->Prop}
  (hS:∀ k fr st,k<=N->R3 k fr st->match B fr st with
   | .norm aa af=>k < N/\R3 (k+1) aa af
   | r=>Out r):∀(j k:Nat) (fr:Fr) (st:St) (fuel:Nat),k+j=N->j < fuel->R3 k fr st->Out (Vx B fuel fr st)
 | _,_,_,_,0,_,h,_=>by omega
 | j,k,fr,st,fuel+1,hk,hf,hi=>by
  have h:=hS k fr st (by omega) hi
  rw[Vx]
  revert h
  cases B fr st with
  | norm aa af=>
   intro h
   cases j with
   | zero=>exact absurd h.1 (by omega)
   | succ j=>exact Ws hS j (k+1) aa af fuel (by omega) (by omega) h.2
  | ret fr st=>exact fun h=>h
  | exit e fr st=>exact fun h=>h
  | pan fr v st=>exact fun h=>h
  | stuck=>exact fun h=>h
theorem R5:Nat.beq 1 1=true:=rfl
theorem R6:Nat.beq 2 2=true:=rfl
theorem R7:Nat.beq 3 3=true:=rfl
theorem Rx:Nat.beq 0 0=true:=rfl
theorem gtrN(a b:Nat):Vr false .gtr (ZI a) (ZI b)=some (.bool (decide (b < a))):=by
 show some (AV.bool (decide ((Int.ofNat a) > Int.ofNat b)))=_
 congr 2
 simp
theorem leqN(a b:Nat):Vr false .leq (ZI a) (ZI b)=some (.bool (decide (a<=b))):=by
 show some (AV.bool (decide ((Int.ofNat a)<=Int.ofNat b)))=_
 congr 2
 simp
theorem neqN(a b:Nat):Vr false .neq (ZI a) (ZI b)=some (.bool (!decide (a=b))):=by
 rw[Yk]
 congr 2
 by_cases h:a=b
 ·rw[Qs h,h];simp
 ·rw[Qp h];simp only[Qb,bne_iff_ne,ne_eq];intro e;injection e with e;exact h e
theorem WV{α:Type}{p:α->Bool}{l:List α}{k:Nat}(h:(l.take k).all p=false):l.all p=false:=by
 cases hl:l.all p with
 | false=>rfl
 | true=>
  have:(l.take k).all p=true:=by
   rw[QB] at hl ⊢
   exact fun x hx=>hl x (XE hx)
  rw[this] at h;cases h
theorem YR{α:Type}(p:α->Bool)(l:List α)(k:Nat)(x:α)(hx:l[k]?=some x):(l.take (k+1)).all p=((l.take k).all p&&p x):=by
 rw[QT,hx];simp
def wg61_0:List Vc:=[ZM 2 (ZB false)]
def wg61_1:List Vc:=[ZV 5 0,ZN 6 5,ZO 7 (.bin false .gtr (.t 6) (ZC 8))]
def wg61_2:List Vc:=[ZM 2 (ZB false)]
def wg61_3:List Vc:=[ZM 3 (ZC 0)]
def wg61_4:List Vc:=[ZV 8 3,ZV 9 0,ZN 10 9,ZO 11 (.bin false .lss (.t 8) (.t 10))]
def wg61_5:List Vc:=[ZV 14 0,ZV 15 3,ZP 16 3 14 15,ZK 17 3 16,ZX 18 105 [(.t 17)],ZV 4 18]
def wg61_6:List Vc:=[ZV 19 4,ZO 20 (.un .not (.t 19))]
def wg61_7:List Vc:=[ZM 2 (ZB false)]
def wg61_8:List Vc:=[ZV 12 3,ZO 13 (.bin false .add (.t 12) (ZC 1)),ZV 3 13]
def wg61_9:List Vc:=[ZM 2 (ZB true)]
def Kd:Vn:=(.seq (ZQ wg61_4 (.cond (.t 11) .skip (.exit 0))) (.seq (.block 1 (ZQ wg61_5 (ZQ wg61_6 (.cond (.t 20) (ZR wg61_7) .skip)))) (.region wg61_8)))
def wf61:Vm:=⟨21,(ZQ wg61_0 (.seq (ZQ wg61_1 (.cond (.t 7) (ZR wg61_2) .skip)) (.seq (ZQ wg61_3 (.block 0 (.loop Kd))) (ZR wg61_9)))),[.t 2]⟩
theorem t61:Ry 61=some wf61:=by kernel_rfl
theorem rvals_run{F:Nat->Prop}{st:St}{sl:AV}{xs:List (List AV)}{l:List Tm}(aD:RL F st sl xs)(bg:Vy F st l xs)(hF:∀ i,F i->i < st.next)(m:Nat)(Y:Vi)(hn:Tm.fzL l+l.length+4002 < m):
  ∃ af,R (m+1) Y 61 [sl] st=.ret (.bool (decide (l.length<=8)&&l.all gr)) af/\Vd st af:=by
 have rF:=bg.len
 have bO:=fun af=>RL.len aD af
 rw[rF] at bO
 have cA:=gtrN l.length 8
 have eE:decide (l.length<=8)=!decide (8 < l.length):=by by_cases h:l.length<=8<;>simp[h]<;>omega
 rw[eE]
 have hL:∀(fr:Fr),fr.ds=[]->fr.get 0=some sl->fr.get 3=some Z0->∃ FR af,Vd st af/\FR.ds=[] ∧
   ((Vx (ac m Y Kd none) m fr st=.exit 0 FR af/\l.all gr=true)\/(Vx (ac m Y Kd none) m fr st=.ret FR af/\FR.get 2=some (.bool false)/\l.all gr=false)):=by
  intro fr d0 g0 g3
  have hB:=aD.2.1
  rw[rF] at hB
  have hW:=Ws (B:=ac m Y Kd none) (N:=l.length) (R3:=fun k fr ai=>fr.ds=[]/\fr.get 0=some sl/\fr.get 3=some (ZI k)/\Vd st ai/\(l.take k).all gr=true)
   (Out:=fun r=>∃ FR af,Vd st af/\FR.ds=[]/\((r=.exit 0 FR af/\l.all gr=true)\/(r=.ret FR af/\FR.get 2=some (.bool false)/\l.all gr=false))) ?_ l.length 0 fr st m (by omega) (by omega) ⟨d0,g0,g3,Vd.refl st,rfl⟩
  ·exact hW
  ·intro k fr ai hk ⟨d0,g0,g3,aI,aA⟩
   have am:=Wt k l.length
   have oO:=bO ai
   by_cases aQ:k < l.length
   ·have hx:l[k]?=some l[k]:=Qn aQ
    generalize l[k]=t at hx
    obtain⟨x,aL,bY⟩:=bg.at hx
    obtain⟨p,ia,ld⟩:=aD.at aL
    have hS:=Vs.of aI hF
    have ld:=ld ai hS
    obtain⟨st2,hc,fY⟩:=rGround_run t m Y F ai x (bY.mono hS (fun _ h=>h)) (fun i hi=>Qz (hF i hi) aI.1) (by have:=Tm.fzL_mem (Qr hx);omega)
    have cz:((gT m).cg Y).fn 105 [.agg x] ai=.ret (.bool (gr t)) st2:=hc
    have aU:=WC (i:=k) (by omega)
    have bz:=YR gr l k t hx
    rw[aA,Q3] at bz
    rw[Qs aQ] at am
    generalize hG:gr t=B at *
    obtain⟨J1,H1,O1_11⟩:∃ aa,ar m Y wg61_4 fr ai=.ok aa ai/\aa.get 11=some (.bool true):=⟨_,by simp only[Rw,rQ,rA,g0,g3,wg61_4,oO,am]<;>rfl,gh⟩
    have V1_0:=ag H1 g0
    have V1_3:=ag H1 g3
    obtain⟨J2,H2,O2_4⟩:∃ aa,ar m Y wg61_5 J1 ai=.ok aa st2/\aa.get 4=some (.bool B):=⟨_,by simp only[Rw,rQ,rA,V1_0,V1_3,wg61_5,ia,ld,cz]<;>rfl,gh⟩
    have W2:=ad H2 (ad H1 d0)
    obtain⟨J3,H3,O3_20⟩:∃ aa,ar m Y wg61_6 J2 st2=.ok aa st2/\aa.get 20=some (.bool (!B)):=⟨_,by simp only[Rw,rQ,rA,O2_4,wg61_6,WN,Qc,Qb]<;>rfl,gh⟩
    have W3:=ad H3 W2
    generalize jp:(!B)=C4 at *
    cases C4 with
    | true=>
     obtain⟨J5,H5,O5_2⟩:∃ aa,ar m Y wg61_7 J3 st2=.ok aa st2/\aa.get 2=some (.bool false):=⟨_,by simp only[Rw,rQ,rA,wg61_7]<;>rfl,gh⟩
     have W5:=ad H5 W3
     have bV:ac m Y Kd none fr ai=.ret J5 st2:=by
      simp only[Rw,rQ,rA,Kd,Rx,R5,H1,H2,H3,H5,O1_11,O3_20]
     rw[bV]
     exact⟨_,_,aI.trans fY,W5,.inr ⟨rfl,O5_2,by
        have:(l.take (k+1)).all gr=false:=by rw[bz];simpa using jp
        exact WV this⟩⟩
    | false=>
     obtain⟨J6,H6,O6_3⟩:∃ aa,ar m Y wg61_8 J3 st2=.ok aa st2/\aa.get 3=some (ZI ((k+1))):=⟨_,by simp only[Rw,rQ,rA,(ag H3 (ag H2 V1_3)),wg61_8,aU]<;>rfl,gh⟩
     have W6:=ad H6 W3
     have ed:ac m Y Kd none fr ai=.norm J6 st2:=by
      simp only[Rw,rQ,rA,Kd,Rx,R5,H1,H2,H3,H6,O1_11,O3_20]
     rw[ed]
     exact⟨aQ,W6,(ag H6 (ag H3 (ag H2 V1_0))),O6_3,aI.trans fY,by rw[bz];simpa using jp⟩
   ·rw[Qp aQ] at am
    have ce:k=l.length:=by omega
    subst ce
    rw[QH] at aA
    obtain⟨J7,H7,O7_11⟩:∃ aa,ar m Y wg61_4 fr ai=.ok aa ai/\aa.get 11=some (.bool false):=⟨_,by simp only[Rw,rQ,rA,g0,g3,wg61_4,oO,am]<;>rfl,gh⟩
    have W7:=ad H7 d0
    have kV:ac m Y Kd none fr ai=.exit 0 J7 ai:=by
     simp only[Rw,rQ,rA,Kd,Rx,R5,H7,O7_11]
    rw[kV]
    exact⟨_,_,aI,W7,.inl ⟨rfl,aA⟩⟩
 generalize decide (8 < l.length)=A at *
 obtain⟨fA8,fF⟩:∃ fA,fA=Vo 0 [sl] Fr.nil:=⟨_,rfl⟩
 have gA8_0:=R9 fF 0
 have dA8:fA8.ds=[]:=by rw[fF];rfl
 obtain⟨J9,H9⟩:∃ aa,ar m Y wg61_0 fA8 st=.ok aa st:=⟨_,by simp only[Rw,rQ,rA,wg61_0]<;>rfl⟩
 have V9_0:=ag H9 gA8_0
 have W9:=ad H9 dA8
 obtain⟨J10,H10,O10_7⟩:∃ aa,ar m Y wg61_1 J9 st=.ok aa st/\aa.get 7=some (.bool A):=⟨_,by simp only[Rw,rQ,rA,V9_0,wg61_1,bO st,cA]<;>rfl,gh⟩
 have W10:=ad H10 W9
 cases A with
 | true=>
  obtain⟨J11,H11,O11_2⟩:∃ aa,ar m Y wg61_2 J10 st=.ok aa st/\aa.get 2=some (.bool false):=⟨_,by simp only[Rw,rQ,rA,wg61_2]<;>rfl,gh⟩
  have W11:=ad H11 W10
  refine⟨_,Ve (mf:=wf61) (fr:=J11) t61 rfl (.inl ?q11) W11 (by simp only[wf61,Rw,O11_2,Q8,Q3,Qy,QK,Qc,Qb]),Vd.refl st⟩
  case q11=>
   rw[<-fF]
   simp only[Rw,rQ,rA,wf61,Rx,H9,H10,H11,O10_7]
 | false=>
  obtain⟨J12,H12,O12_3⟩:∃ aa,ar m Y wg61_3 J10 st=.ok aa st/\aa.get 3=some Z0:=⟨_,by simp only[Rw,rQ,rA,wg61_3]<;>rfl,gh⟩
  have W12:=ad H12 W10
  obtain⟨FR,st2,fY,dF,hL⟩:=hL J12 W12 (ag H12 (ag H10 V9_0)) O12_3
  rcases hL with⟨hL,cm⟩|⟨hL,gF,cm⟩
  ·rw[cm]
   obtain⟨J13,H13,O13_2⟩:∃ aa,ar m Y wg61_9 FR st2=.ok aa st2/\aa.get 2=some (.bool true):=⟨_,by simp only[Rw,rQ,rA,wg61_9]<;>rfl,gh⟩
   have W13:=ad H13 dF
   refine⟨_,Ve (mf:=wf61) (fr:=J13) t61 rfl (.inl ?q13) W13 (by simp only[wf61,Rw,O13_2,Q8,Q3,Qy,QK,Qc,Qb]),fY⟩
   case q13=>
    rw[<-fF]
    simp only[Rw,rQ,rA,wf61,Rx,H9,H10,H12,hL,H13,O10_7]
  ·rw[cm]
   refine⟨_,Ve (mf:=wf61) (fr:=FR) t61 rfl (.inl ?q14) dF (by simp only[wf61,Rw,gF,Q8,Q3,Qy,QK,Qc,Qb]),fY⟩
   case q14=>
    rw[<-fF]
    simp only[Rw,rQ,rA,wf61,Rx,H9,H10,H12,hL,O10_7]
end
noncomputable section
open Nat renaming reduceEqDiff -> rQ, reduceAdd -> rA
structure En where
 leaf:Int
 ver:Int
 prop:Int
 gate:Int
 vnl:Bool
 vex:Bool
 vals:List Tm
 d:Dv
 snl:Bool
 sex:Bool
 seen:List Int
def slI(nl ex:Bool)(l:List Int):AV:=bif nl then .nilsl else .lst l.length (l.map (AV.int .i64)) ex
def En.vsl(e:En):AV:=V7 e.vnl e.vex (Tm.cellsL e.vals)
def En.ssl(e:En):AV:=slI e.snl e.sex e.seen
def En.cells(e:En):List AV:=[.int .i64 e.leaf,.int .i64 e.ver,.int .i64 e.prop,.int .i64 e.gate,e.vsl]++e.d.cells++[e.ssl]
def En.ok(e:En):Prop:=(e.vnl=true->e.vals=[])/\e.vals.length<=4611686018427387904/\Tm.okL e.vals/\e.d.ok/\(e.snl=true->e.seen=[])/\e.seen.length<=4611686018427387904
def En.fz(e:En):Nat:=Tm.fzL e.vals+e.vals.length+e.d.fz+e.seen.length+4200
def valsB(l:List Tm):Bool:=decide (l.length<=8)&&l.all gr
def En.good(k:Nat)(e:En):Bool:=RS e.leaf&&RS e.ver&&RS e.prop&&valsB e.vals&&JY e.d&&decide (e.seen.length=k)&&e.seen.all RS
theorem Dv.cells_abc(d:Dv):∃ a b c,d.cells=[a,b,c]/\a.one=true/\b.one=true/\c.one=true:=by
 cases d with
 | mk r nv ev vs nl ex l=>
  simp only[Dv.cells]
  exact⟨_,_,_,rfl,rfl,by cases nv<;>rfl,by cases nl<;>rfl⟩
theorem JA(nl ex:Bool)(l:List Int)(h:nl=true->l=[])(hb:l.length<=4611686018427387904)(F:Nat->Prop)(st:St):RE F st (slI nl ex l) l:=by
 unfold slI
 cases nl with
 | true=>rw[h rfl];exact RB.nil (by omega) F st
 | false=>
  refine RB.lst (by omega) F st (fun x hx=>?_) (by simpa using hb) (by simp) ?_
  ·simp only[Xq,Q6,Function.comp] at hx
   obtain⟨y,_,rfl⟩:=hx
   exact⟨rfl,rfl⟩
  ·induction l with
   | nil=>rfl
   | cons a l ih=>simp only[Q4,Xc,Zt,XK,true_and];exact ih (by simp at hb;omega) (fun h=>by cases h)
theorem slAV_SlR(nl ex:Bool)(l:List Tm)(h:nl=true->l=[])(hb:l.length<=4611686018427387904)(F:Nat->Prop)(st:St):RL F st (V7 nl ex (Tm.cellsL l)) (Tm.cellsL l):=
 RL.sl F st (Tm.cellsL3 l) (by rw[Tm.cellsL_len];omega) fun e=>by rw[h e];rfl
theorem RI(cs:List AV)(j k:Nat):WG k (.fptr cs j)=some (.fptr cs (j+k)):=rfl
theorem ld9_0(st:St)(x0 x1 x2 x3 x4 x5 x6 x7 x8:AV):Vf false 1 st (.fptr [x0,x1,x2,x3,x4,x5,x6,x7,x8] 0)=some x0:=rfl
theorem ld9_1(st:St)(x0 x1 x2 x3 x4 x5 x6 x7 x8:AV):Vf false 1 st (.fptr [x0,x1,x2,x3,x4,x5,x6,x7,x8] 1)=some x1:=rfl
theorem ld9_2(st:St)(x0 x1 x2 x3 x4 x5 x6 x7 x8:AV):Vf false 1 st (.fptr [x0,x1,x2,x3,x4,x5,x6,x7,x8] 2)=some x2:=rfl
theorem ld9_4(st:St)(x0 x1 x2 x3 x4 x5 x6 x7 x8:AV):Vf false 1 st (.fptr [x0,x1,x2,x3,x4,x5,x6,x7,x8] 4)=some x4:=rfl
theorem Uq(st:St)(x0 x1 x2 x3 x4 x5 x6 x7 x8:AV):Vf false 1 st (.fptr [x0,x1,x2,x3,x4,x5,x6,x7,x8] 8)=some x8:=rfl
theorem ld9_d(st:St)(x0 x1 x2 x3 x4 x5 x6 x7 x8:AV):Vf true 3 st (.fptr [x0,x1,x2,x3,x4,x5,x6,x7,x8] 5)=some (.agg [x5,x6,x7]):=rfl
theorem Jh(st:St)(x y z:AV):Vf true 3 st (.fptr [x,y,z] 0)=some (.agg [x,y,z]):=rfl
theorem ld2_1(st:St)(x y:AV):Vf false 1 st (.fptr [x,y] 1)=some y:=rfl
theorem TV{m:Nat}(h:1<=m)(Y:Vi)(x:Int)(st:St):R m Y 60 [.int .i64 x] st=.ret (.bool (RS x)) st:=by
 obtain⟨n,rfl⟩:∃ n,m=n+1:=⟨m - 1,by omega⟩
 exact number_run n Y x st
theorem ne00:Vr false .neq Z0 Z0=some (.bool false):=rfl
theorem ne16:Vr false .neq (ZI 160) Z0=some (.bool true):=rfl
def wg62_0:List Vc:=[ZO 1 (.box true (.t 0)),ZM 2 (ZC 0)]
def wg62_1:List Vc:=[ZK 3 3 1,ZX 4 106 [(.t 3)],ZO 5 (.un .not (.t 4))]
def wg62_2:List Vc:=[ZM 2 (ZC 160)]
def wg62_3:List Vc:=[ZM 2 (ZC 0)]
def wf62:Vm:=⟨6,(ZQ wg62_0 (.seq (ZQ wg62_1 (.cond (.t 5) (ZR wg62_2) .skip)) (ZR wg62_3))),[.t 2]⟩
theorem t62:Ry 62=some wf62:=by kernel_rfl
theorem check62_run(d:Dv)(m:Nat)(Y:Vi)(F:Nat->Prop)(st:St)(cs:List AV)(hr:VU F st d cs)(hF:∀ i,F i->i < st.next)(hn:d.fz+4101<=m):
  ∃ af,R (m+1) Y 62 [.agg cs] st=.ret (ZI ((bif JY d then 0 else 160))) af/\Vd st af:=by
 have eF:=hr.cells3
 obtain⟨ai,c1,k1⟩:=rIsD_run d m Y F st cs hr hF hn
 have eS:((gT m).cg Y).fn 106 [.agg cs] st=.ret (.bool (JY d)) ai:=c1
 obtain⟨a,b,c,rfl⟩:∃ a b c,cs=[a,b,c]:=by
  match cs,eF.1 with
  | [a,b,c],_=>exact⟨a,b,c,rfl⟩
 generalize JY d=B at *
 have hu:∀ b,unA .not (.bool b)=some (.bool (!b)):=fun _=>rfl
 cases B with
 | true=>
  obtain⟨fA1,au⟩:∃ fA,fA=Vo 0 [.agg [a,b,c]] Fr.nil:=⟨_,rfl⟩
  have gA1_0:=R9 au 0
  have dA1:fA1.ds=[]:=by rw[au];rfl
  obtain⟨J2,H2,O2_1⟩:∃ aa,ar m Y wg62_0 fA1 st=.ok aa st/\aa.get 1=some (.fptr [a,b,c] 0):=⟨_,by simp only[Rw,rQ,rA,gA1_0,wg62_0]<;>rfl,gn gh⟩
  have W2:=ad H2 dA1
  obtain⟨J3,H3,O3_5⟩:∃ aa,ar m Y wg62_1 J2 st=.ok aa ai/\aa.get 5=some (.bool false):=⟨_,by simp only[Rw,rQ,rA,O2_1,wg62_1,Jh,eS,hu,Qc,Qb,Qc,Qb]<;>rfl,gh⟩
  have W3:=ad H3 W2
  obtain⟨J4,H4,O4_2⟩:∃ aa,ar m Y wg62_3 J3 ai=.ok aa ai/\aa.get 2=some Z0:=⟨_,by simp only[Rw,rQ,rA,wg62_3]<;>rfl,gh⟩
  refine⟨_,Ve (mf:=wf62) (fr:=J4) t62 rfl (.inl ?q4) (ad H4 W3) (by simp only[wf62,Rw,O4_2,Qi,Qq]),k1⟩
  case q4=>
   rw[<-au]
   simp only[Rw,rQ,rA,wf62,Rx,H2,H3,H4,O3_5]
 | false=>
  obtain⟨fA5,iI⟩:∃ fA,fA=Vo 0 [.agg [a,b,c]] Fr.nil:=⟨_,rfl⟩
  have gA5_0:=R9 iI 0
  have dA5:fA5.ds=[]:=by rw[iI];rfl
  obtain⟨J6,H6,O6_1⟩:∃ aa,ar m Y wg62_0 fA5 st=.ok aa st/\aa.get 1=some (.fptr [a,b,c] 0):=⟨_,by simp only[Rw,rQ,rA,gA5_0,wg62_0]<;>rfl,gn gh⟩
  have W6:=ad H6 dA5
  obtain⟨J7,H7,O7_5⟩:∃ aa,ar m Y wg62_1 J6 st=.ok aa ai/\aa.get 5=some (.bool true):=⟨_,by simp only[Rw,rQ,rA,O6_1,wg62_1,Jh,eS,hu,Qc,Qb,Qc,Qb]<;>rfl,gh⟩
  have W7:=ad H7 W6
  obtain⟨J8,H8,O8_2⟩:∃ aa,ar m Y wg62_2 J7 ai=.ok aa ai/\aa.get 2=some (ZI 160):=⟨_,by simp only[Rw,rQ,rA,wg62_2]<;>rfl,gh⟩
  have W8:=ad H8 W7
  refine⟨_,Ve (mf:=wf62) (fr:=J8) t62 rfl (.inl ?q8) W8 (by simp only[wf62,Rw,O8_2,Qi,Qq]),k1⟩
  case q8=>
   rw[<-iI]
   simp only[Rw,rQ,rA,wf62,Rx,H6,H7,H8,O7_5]
def wg68_0:List Vc:=[ZO 1 (.box true (.t 0)),ZM 2 (ZC 0)]
def wg68_1:List Vc:=[ZK 3 3 1,ZX 4 112 [(.t 3)],ZO 5 (.un .not (.t 4))]
def wg68_2:List Vc:=[ZM 2 (ZC 160)]
def wg68_3:List Vc:=[ZM 2 (ZC 0)]
def wf68:Vm:=⟨6,(ZQ wg68_0 (.seq (ZQ wg68_1 (.cond (.t 5) (ZR wg68_2) .skip)) (ZR wg68_3))),[.t 2]⟩
theorem t68:Ry 68=some wf68:=by kernel_rfl
theorem check68_run(d:Dv)(m:Nat)(Y:Vi)(F:Nat->Prop)(st:St)(cs:List AV)(hr:VU F st d cs)(hF:∀ i,F i->i < st.next)(hn:d.fz < m):
  ∃ af,R (m+1) Y 68 [.agg cs] st=.ret (ZI ((bif JY d then 0 else 160))) af/\Vd st af:=by
 have eF:=hr.cells3
 obtain⟨ai,c1,k1⟩:=isDeriv_run d m Y F st cs hr hF hn
 have eS:((gT m).cg Y).fn 112 [.agg cs] st=.ret (.bool (JY d)) ai:=c1
 obtain⟨a,b,c,rfl⟩:∃ a b c,cs=[a,b,c]:=by
  match cs,eF.1 with
  | [a,b,c],_=>exact⟨a,b,c,rfl⟩
 generalize JY d=B at *
 have hu:∀ b,unA .not (.bool b)=some (.bool (!b)):=fun _=>rfl
 cases B with
 | true=>
  obtain⟨fA1,au⟩:∃ fA,fA=Vo 0 [.agg [a,b,c]] Fr.nil:=⟨_,rfl⟩
  have gA1_0:=R9 au 0
  have dA1:fA1.ds=[]:=by rw[au];rfl
  obtain⟨J2,H2,O2_1⟩:∃ aa,ar m Y wg68_0 fA1 st=.ok aa st/\aa.get 1=some (.fptr [a,b,c] 0):=⟨_,by simp only[Rw,rQ,rA,gA1_0,wg68_0]<;>rfl,gn gh⟩
  have W2:=ad H2 dA1
  obtain⟨J3,H3,O3_5⟩:∃ aa,ar m Y wg68_1 J2 st=.ok aa ai/\aa.get 5=some (.bool false):=⟨_,by simp only[Rw,rQ,rA,O2_1,wg68_1,Jh,eS,hu,Qc,Qb,Qc,Qb]<;>rfl,gh⟩
  have W3:=ad H3 W2
  obtain⟨J4,H4,O4_2⟩:∃ aa,ar m Y wg68_3 J3 ai=.ok aa ai/\aa.get 2=some Z0:=⟨_,by simp only[Rw,rQ,rA,wg68_3]<;>rfl,gh⟩
  have W4:=ad H4 W3
  refine⟨_,Ve (mf:=wf68) (fr:=J4) t68 rfl (.inl ?q4) W4 (by simp only[wf68,Rw,O4_2,Qi,Qq]),k1⟩
  case q4=>
   rw[<-au]
   simp only[Rw,rQ,rA,wf68,Rx,H2,H3,H4,O3_5]
 | false=>
  obtain⟨fA5,iI⟩:∃ fA,fA=Vo 0 [.agg [a,b,c]] Fr.nil:=⟨_,rfl⟩
  have gA5_0:=R9 iI 0
  have dA5:fA5.ds=[]:=by rw[iI];rfl
  obtain⟨J6,H6,O6_1⟩:∃ aa,ar m Y wg68_0 fA5 st=.ok aa st/\aa.get 1=some (.fptr [a,b,c] 0):=⟨_,by simp only[Rw,rQ,rA,gA5_0,wg68_0]<;>rfl,gn gh⟩
  have W6:=ad H6 dA5
  obtain⟨J7,H7,O7_5⟩:∃ aa,ar m Y wg68_1 J6 st=.ok aa ai/\aa.get 5=some (.bool true):=⟨_,by simp only[Rw,rQ,rA,O6_1,wg68_1,Jh,eS,hu,Qc,Qb,Qc,Qb]<;>rfl,gh⟩
  have W7:=ad H7 W6
  obtain⟨J8,H8,O8_2⟩:∃ aa,ar m Y wg68_2 J7 ai=.ok aa ai/\aa.get 2=some (ZI 160):=⟨_,by simp only[Rw,rQ,rA,wg68_2]<;>rfl,gh⟩
  refine⟨_,Ve (mf:=wf68) (fr:=J8) t68 rfl (.inl ?q8) (ad H8 W7) (by simp only[wf68,Rw,O8_2,Qi,Qq]),k1⟩
  case q8=>
   rw[<-iI]
   simp only[Rw,rQ,rA,wf68,Rx,H6,H7,H8,O7_5]
def Y1:List Vc:=[ZO 3 (.box true (.t 1)),ZM 4 (ZB false)]
def Yz:List Vc:=[ZA 7 0 3,ZL 8 7,ZX 9 60 [(.t 8)],ZO 10 (.un .not (.t 9)),ZV 11 10,ZG 12 (.faddr 1 (.t 3)) 11 false,ZG 13 (.load false 1 (.t 12)) 11 false,ZG 14 (.call (.c (.func (.func 60) [] [])) [(.t 13)]) 11 false,ZG 15 (.un .not (.t 14)) 11 false,ZO 16 (.pick (.t 11) (ZB true) (.t 15)),ZV 17 16,ZG 18 (.faddr 2 (.t 3)) 17 false,ZG 19 (.load false 1 (.t 18)) 17 false,ZG 20 (.call (.c (.func (.func 60) [] [])) [(.t 19)]) 17 false,ZG 21 (.un .not (.t 20)) 17 false,ZO 22 (.pick (.t 17) (ZB true) (.t 21)),ZV 23 22,ZG 24 (.faddr 3 (.t 3)) 23 false,ZG 25 (.faddr 1 (.t 24)) 23 false,ZG 26 (.load false 1 (.t 25)) 23 false,ZG 27 (.call (.c (.func (.func 61) [] [])) [(.t 26)]) 23 false,ZG 28 (.un .not (.t 27)) 23 false,ZO 29 (.pick (.t 23) (ZB true) (.t 28)),ZV 30 29,ZG 31 (.faddr 5 (.t 3)) 30 false,ZG 32 (.load true 3 (.t 31)) 30 false,ZG 33 (.call (.c (.func (.func 62) [] [])) [(.t 32)]) 30 false,ZG 34 (.bin false .neq (.t 33) (ZC 0)) 30 false,ZO 35 (.pick (.t 30) (ZB true) (.t 34)),ZV 36 35,ZG 37 (.faddr 8 (.t 3)) 36 false,ZG 38 (.load false 1 (.t 37)) 36 false,ZG 39 (.len 0 (.t 38)) 36 false,ZG 40 (.mv (.t 0)) 36 false,ZG 41 (.bin false .neq (.t 39) (.t 40)) 36 false,ZO 42 (.pick (.t 36) (ZB true) (.t 41))]
def YY:List Vc:=[ZM 4 (ZB false)]
def wg28_3:List Vc:=[ZM 5 (ZC 0)]
def wg28_4:List Vc:=[ZV 43 5,ZA 44 8 3,ZL 45 44,ZN 46 45,ZO 47 (.bin false .lss (.t 43) (.t 46))]
def wg28_5:List Vc:=[ZA 50 8 3,ZL 51 50,ZV 52 5,ZP 53 1 51 52,ZL 54 53,ZX 55 60 [(.t 54)],ZV 6 55]
def wg28_6:List Vc:=[ZV 56 6,ZO 57 (.un .not (.t 56))]
def wg28_7:List Vc:=[ZM 4 (ZB false)]
def wg28_8:List Vc:=[ZV 48 5,ZO 49 (.bin false .add (.t 48) (ZC 1)),ZV 5 49]
def wg28_9:List Vc:=[ZM 4 (ZB true)]
def Ke:Vn:=(.seq (ZQ wg28_4 (.cond (.t 47) .skip (.exit 0))) (.seq (.block 1 (ZQ wg28_5 (ZQ wg28_6 (.cond (.t 57) (ZR wg28_7) .skip)))) (.region wg28_8)))
def Yd:Vm:=⟨58,(ZQ Y1 (.seq (ZQ Yz (.cond (.t 42) (ZR YY) .skip)) (.seq (ZQ wg28_3 (.block 0 (.loop Ke))) (ZR wg28_9)))),[.t 4]⟩
theorem t28:Ry 28=some Yd:=by kernel_rfl
theorem entry_run(e:En)(he:e.ok)(k:Nat)(m:Nat)(Y:Vi)(st:St)(hn:e.fz<=m):
  ∃ af,R (m+1) Y 28 [ZI k,.agg e.cells] st=.ret (.bool (e.good k)) af/\Vd st af:=by
 obtain⟨o1,o2,o3,o4,o5,o6⟩:=he
 unfold En.fz at hn
 obtain⟨q,rfl⟩:∃ q,m=q+1:=⟨m - 1,by omega⟩
 have n1:∀ st,((gT (q+1)).cg Y).fn 60 [.int .i64 e.leaf] st=.ret (.bool (RS e.leaf)) st:=fun st=>TV (by omega) Y _ st
 have n2:∀ st,((gT (q+1)).cg Y).fn 60 [.int .i64 e.ver] st=.ret (.bool (RS e.ver)) st:=fun st=>TV (by omega) Y _ st
 have n3:∀ st,((gT (q+1)).cg Y).fn 60 [.int .i64 e.prop] st=.ret (.bool (RS e.prop)) st:=fun st=>TV (by omega) Y _ st
 have n4:∀ x st,((gT (q+1)).cg Y).fn 60 [.int .i64 x] st=.ret (.bool (RS x)) st:=fun x st=>TV (by omega) Y _ st
 obtain⟨ai,v1,k1⟩:=rvals_run (F:=fun _=>False) (st:=st) (sl:=e.vsl) (slAV_SlR e.vnl e.vex e.vals o1 o2 _ st) (Vy.line _ st e.vals o3) (fun _ h=>h.elim) q Y (by omega)
 have v1:((gT (q+1)).cg Y).fn 61 [e.vsl] st=.ret (.bool (valsB e.vals)) ai:=v1
 obtain⟨st2,d1,k2⟩:=check62_run e.d q Y (fun _=>False) ai e.d.cells (VU.line _ ai e.d o4) (fun _ h=>h.elim) (by omega)
 have d1:((gT (q+1)).cg Y).fn 62 [.agg e.d.cells] ai=.ret (ZI ((bif JY e.d then 0 else 160))) st2:=d1
 have hS:=JA e.snl e.sex e.seen o5 o6 (fun _=>False) st2
 have hl:∀ st,(bif VD 0 e.ssl then Wm st e.ssl else none)=some (ZI e.seen.length):=fun st=>RE.len hS st
 have az:=neqN e.seen.length k
 obtain⟨a,b,c,hd,_⟩:=e.d.cells_abc
 have aY:e.cells=[.int .i64 e.leaf,.int .i64 e.ver,.int .i64 e.prop,.int .i64 e.gate,e.vsl,a,b,c,e.ssl]:=by unfold En.cells;rw[hd];rfl
 rw[aY]
 rw[hd] at d1
 unfold En.good
 have hL:∀(fr:Fr),fr.ds=[]->fr.get 3=some (.fptr [.int .i64 e.leaf,.int .i64 e.ver,.int .i64 e.prop,.int .i64 e.gate,e.vsl,a,b,c,e.ssl] 0)->fr.get 5=some Z0->∃ FR,FR.ds=[] ∧
   ((Vx (ac (q+1) Y Ke none) (q+1) fr st2=.exit 0 FR st2/\e.seen.all RS=true)\/(Vx (ac (q+1) Y Ke none) (q+1) fr st2=.ret FR st2/\FR.get 4=some (.bool false)/\e.seen.all RS=false)):=by
  intro fr d0 g3 g5
  refine Ws (B:=ac (q+1) Y Ke none) (N:=e.seen.length) (R3:=fun k fr ai=>fr.ds=[]/\fr.get 3=some (.fptr [.int .i64 e.leaf,.int .i64 e.ver,.int .i64 e.prop,.int .i64 e.gate,e.vsl,a,b,c,e.ssl] 0)/\fr.get 5=some (ZI k)/\ai=st2/\(e.seen.take k).all RS=true)
   (Out:=fun r=>∃ FR,FR.ds=[]/\((r=.exit 0 FR st2/\e.seen.all RS=true)\/(r=.ret FR st2/\FR.get 4=some (.bool false)/\e.seen.all RS=false))) ?_ e.seen.length 0 fr st2 (q+1) (by omega) (by omega) ⟨d0,g3,g5,rfl,rfl⟩
  intro k fr st hk ⟨d0,g3,g5,ax,aA⟩
  subst ax
  have am:=Wt k e.seen.length
  by_cases aQ:k < e.seen.length
  ·have hx:e.seen[k]?=some e.seen[k]:=Qn aQ
   generalize e.seen[k]=x at hx
   obtain⟨p,ia,ld⟩:=RE.at hS hx
   have ia:VC 1 e.ssl (ZI k)=some p:=ia
   have ld:=ld st (Vs.refl _ _)
   have nx:=n4 x
   have aU:=WC (i:=k) (by omega)
   have bz:=YR RS e.seen k x hx
   rw[aA,Q3] at bz
   rw[Qs aQ] at am
   generalize hG:RS x=B at *
   obtain⟨J1,H1,O1_47⟩:∃ aa,ar (q+1) Y wg28_4 fr st=.ok aa st/\aa.get 47=some (.bool true):=⟨_,by simp only[Rw,rQ,rA,g3,g5,wg28_4,RI,Uq,hl,am]<;>rfl,gh⟩
   have V1_3:=ag H1 g3
   have V1_5:=ag H1 g5
   have W1:=ad H1 d0
   obtain⟨J2,H2,O2_6⟩:∃ aa,ar (q+1) Y wg28_5 J1 st=.ok aa st/\aa.get 6=some (.bool B):=⟨_,by simp only[Rw,rQ,rA,V1_3,V1_5,wg28_5,RI,Uq,ia,ld,nx]<;>rfl,gh⟩
   have W2:=ad H2 W1
   obtain⟨J3,H3,O3_57⟩:∃ aa,ar (q+1) Y wg28_6 J2 st=.ok aa st/\aa.get 57=some (.bool (!B)):=⟨_,by simp only[Rw,rQ,rA,O2_6,wg28_6,WN,Qc,Qb]<;>rfl,gh⟩
   have W3:=ad H3 W2
   generalize jp:(!B)=C4 at *
   cases C4 with
   | true=>
    obtain⟨J5,H5,O5_4⟩:∃ aa,ar (q+1) Y wg28_7 J3 st=.ok aa st/\aa.get 4=some (.bool false):=⟨_,by simp only[Rw,rQ,rA,wg28_7]<;>rfl,gh⟩
    have W5:=ad H5 W3
    have bV:ac (q+1) Y Ke none fr st=.ret J5 st:=by
     simp only[Rw,rQ,rA,Ke,Rx,R5,H1,H2,H3,H5,O1_47,O3_57]
    rw[bV]
    exact⟨_,W5,.inr ⟨rfl,O5_4,WV (k:=k+1) (by rw[bz];simpa using jp)⟩⟩
   | false=>
    obtain⟨J6,H6,O6_5⟩:∃ aa,ar (q+1) Y wg28_8 J3 st=.ok aa st/\aa.get 5=some (ZI ((k+1))):=⟨_,by simp only[Rw,rQ,rA,(ag H3 (ag H2 V1_5)),wg28_8,aU]<;>rfl,gh⟩
    have ed:ac (q+1) Y Ke none fr st=.norm J6 st:=by
     simp only[Rw,rQ,rA,Ke,Rx,R5,H1,H2,H3,H6,O1_47,O3_57]
    rw[ed]
    exact⟨aQ,(ad H6 W3),(ag H6 (ag H3 (ag H2 V1_3))),O6_5,rfl,by rw[bz];simpa using jp⟩
  ·rw[Qp aQ] at am
   have ce:k=e.seen.length:=by omega
   subst ce
   rw[QH] at aA
   obtain⟨J7,H7,O7_47⟩:∃ aa,ar (q+1) Y wg28_4 fr st=.ok aa st/\aa.get 47=some (.bool false):=⟨_,by simp only[Rw,rQ,rA,g3,g5,wg28_4,RI,Uq,hl,am]<;>rfl,gh⟩
   have W7:=ad H7 d0
   have kV:ac (q+1) Y Ke none fr st=.exit 0 J7 st:=by
    simp only[Rw,rQ,rA,Ke,Rx,R5,H7,O7_47]
   rw[kV]
   exact⟨_,W7,.inl ⟨rfl,aA⟩⟩
 generalize RS e.leaf=A at *
 generalize RS e.ver=B at *
 generalize RS e.prop=C at *
 generalize valsB e.vals=V at *
 generalize JY e.d=D at *
 generalize decide (e.seen.length=k)=S at *
 cases A with
 | false=>
  obtain⟨fA8,fF⟩:∃ fA,fA=Vo 0 [ZI k,.agg [.int .i64 e.leaf,.int .i64 e.ver,.int .i64 e.prop,.int .i64 e.gate,e.vsl,a,b,c,e.ssl]] Fr.nil:=⟨_,rfl⟩
  have gA8_0:=R9 fF 0
  have gA8_1:=R9 fF 1
  have dA8:fA8.ds=[]:=by rw[fF];rfl
  obtain⟨J9,H9,O9_3⟩:∃ aa,ar (q+1) Y Y1 fA8 st=.ok aa st/\aa.get 3=some (.fptr [.int .i64 e.leaf,.int .i64 e.ver,.int .i64 e.prop,.int .i64 e.gate,e.vsl,a,b,c,e.ssl] 0):=⟨_,by simp only[Rw,rQ,rA,gA8_1,Y1]<;>rfl,gn gh⟩
  obtain⟨J10,H10,O10_42⟩:∃ aa,ar (q+1) Y Yz J9 st=.ok aa st/\aa.get 42=some (.bool true):=⟨_,by simp only[Rw,rQ,rA,(ag H9 gA8_0),O9_3,Yz,RI,ld9_0,ld9_1,ld9_2,Uq,ld9_d,ld9_4,n1,n2,n3,v1,d1,WN,ne00,ne16,hl,az,Q8,Q3,Qy,QK,Qc,Qb,Qi,Qq,Qc,Qb]<;>rfl,gh⟩
  obtain⟨J11,H11,O11_4⟩:∃ aa,ar (q+1) Y YY J10 st=.ok aa st/\aa.get 4=some (.bool false):=⟨_,by simp only[Rw,rQ,rA,YY]<;>rfl,gh⟩
  refine⟨_,Ve (mf:=Yd) (fr:=J11) t28 rfl (.inl ?q11) (ad H11 (ad H10 (ad H9 dA8))) (by simp only[Yd,Rw,O11_4,Q8,Q3,Qy,QK,Qc,Qb]),Vd.refl st⟩
  case q11=>
   rw[<-fF]
   simp only[Rw,rQ,rA,Yd,Rx,H9,H10,H11,O10_42]
 | true=>
  cases B with
  | false=>
   obtain⟨fA12,fk⟩:∃ fA,fA=Vo 0 [ZI k,.agg [.int .i64 e.leaf,.int .i64 e.ver,.int .i64 e.prop,.int .i64 e.gate,e.vsl,a,b,c,e.ssl]] Fr.nil:=⟨_,rfl⟩
   have gA12_0:=R9 fk 0
   have gA12_1:=R9 fk 1
   have dA12:fA12.ds=[]:=by rw[fk];rfl
   obtain⟨J13,H13,O13_3⟩:∃ aa,ar (q+1) Y Y1 fA12 st=.ok aa st/\aa.get 3=some (.fptr [.int .i64 e.leaf,.int .i64 e.ver,.int .i64 e.prop,.int .i64 e.gate,e.vsl,a,b,c,e.ssl] 0):=⟨_,by simp only[Rw,rQ,rA,gA12_1,Y1]<;>rfl,gn gh⟩
   obtain⟨J14,H14,O14_42⟩:∃ aa,ar (q+1) Y Yz J13 st=.ok aa st/\aa.get 42=some (.bool true):=⟨_,by simp only[Rw,rQ,rA,(ag H13 gA12_0),O13_3,Yz,RI,ld9_0,ld9_1,ld9_2,Uq,ld9_d,ld9_4,n1,n2,n3,v1,d1,WN,ne00,ne16,hl,az,Q8,Q3,Qy,QK,Qc,Qb,Qi,Qq,Qc,Qb]<;>rfl,gh⟩
   obtain⟨J15,H15,O15_4⟩:∃ aa,ar (q+1) Y YY J14 st=.ok aa st/\aa.get 4=some (.bool false):=⟨_,by simp only[Rw,rQ,rA,YY]<;>rfl,gh⟩
   refine⟨_,Ve (mf:=Yd) (fr:=J15) t28 rfl (.inl ?q15) (ad H15 (ad H14 (ad H13 dA12))) (by simp only[Yd,Rw,O15_4,Q8,Q3,Qy,QK,Qc,Qb]),Vd.refl st⟩
   case q15=>
    rw[<-fk]
    simp only[Rw,rQ,rA,Yd,Rx,H13,H14,H15,O14_42]
  | true=>
   cases C with
   | false=>
    obtain⟨fA16,cO⟩:∃ fA,fA=Vo 0 [ZI k,.agg [.int .i64 e.leaf,.int .i64 e.ver,.int .i64 e.prop,.int .i64 e.gate,e.vsl,a,b,c,e.ssl]] Fr.nil:=⟨_,rfl⟩
    have gA16_0:=R9 cO 0
    have gA16_1:=R9 cO 1
    have dA16:fA16.ds=[]:=by rw[cO];rfl
    obtain⟨J17,H17,O17_3⟩:∃ aa,ar (q+1) Y Y1 fA16 st=.ok aa st/\aa.get 3=some (.fptr [.int .i64 e.leaf,.int .i64 e.ver,.int .i64 e.prop,.int .i64 e.gate,e.vsl,a,b,c,e.ssl] 0):=⟨_,by simp only[Rw,rQ,rA,gA16_1,Y1]<;>rfl,gn gh⟩
    obtain⟨J18,H18,O18_42⟩:∃ aa,ar (q+1) Y Yz J17 st=.ok aa st/\aa.get 42=some (.bool true):=⟨_,by simp only[Rw,rQ,rA,(ag H17 gA16_0),O17_3,Yz,RI,ld9_0,ld9_1,ld9_2,Uq,ld9_d,ld9_4,n1,n2,n3,v1,d1,WN,ne00,ne16,hl,az,Q8,Q3,Qy,QK,Qc,Qb,Qi,Qq,Qc,Qb]<;>rfl,gh⟩
    obtain⟨J19,H19,O19_4⟩:∃ aa,ar (q+1) Y YY J18 st=.ok aa st/\aa.get 4=some (.bool false):=⟨_,by simp only[Rw,rQ,rA,YY]<;>rfl,gh⟩
    refine⟨_,Ve (mf:=Yd) (fr:=J19) t28 rfl (.inl ?q19) (ad H19 (ad H18 (ad H17 dA16))) (by simp only[Yd,Rw,O19_4,Q8,Q3,Qy,QK,Qc,Qb]),Vd.refl st⟩
    case q19=>
     rw[<-cO]
     simp only[Rw,rQ,rA,Yd,Rx,H17,H18,H19,O18_42]
   | true=>
    cases V with
    | false=>
     obtain⟨fA20,kW⟩:∃ fA,fA=Vo 0 [ZI k,.agg [.int .i64 e.leaf,.int .i64 e.ver,.int .i64 e.prop,.int .i64 e.gate,e.vsl,a,b,c,e.ssl]] Fr.nil:=⟨_,rfl⟩
     have gA20_0:=R9 kW 0
     have gA20_1:=R9 kW 1
     have dA20:fA20.ds=[]:=by rw[kW];rfl
     obtain⟨J21,H21,O21_3⟩:∃ aa,ar (q+1) Y Y1 fA20 st=.ok aa st/\aa.get 3=some (.fptr [.int .i64 e.leaf,.int .i64 e.ver,.int .i64 e.prop,.int .i64 e.gate,e.vsl,a,b,c,e.ssl] 0):=⟨_,by simp only[Rw,rQ,rA,gA20_1,Y1]<;>rfl,gn gh⟩
     obtain⟨J22,H22,O22_42⟩:∃ aa,ar (q+1) Y Yz J21 st=.ok aa ai/\aa.get 42=some (.bool true):=⟨_,by simp only[Rw,rQ,rA,(ag H21 gA20_0),O21_3,Yz,RI,ld9_0,ld9_1,ld9_2,Uq,ld9_d,ld9_4,n1,n2,n3,v1,d1,WN,ne00,ne16,hl,az,Q8,Q3,Qy,QK,Qc,Qb,Qi,Qq,Qc,Qb]<;>rfl,gh⟩
     obtain⟨J23,H23,O23_4⟩:∃ aa,ar (q+1) Y YY J22 ai=.ok aa ai/\aa.get 4=some (.bool false):=⟨_,by simp only[Rw,rQ,rA,YY]<;>rfl,gh⟩
     refine⟨_,Ve (mf:=Yd) (fr:=J23) t28 rfl (.inl ?q23) (ad H23 (ad H22 (ad H21 dA20))) (by simp only[Yd,Rw,O23_4,Q8,Q3,Qy,QK,Qc,Qb]),k1⟩
     case q23=>
      rw[<-kW]
      simp only[Rw,rQ,rA,Yd,Rx,H21,H22,H23,O22_42]
    | true=>
     cases D with
     | false=>
      obtain⟨fA24,kX⟩:∃ fA,fA=Vo 0 [ZI k,.agg [.int .i64 e.leaf,.int .i64 e.ver,.int .i64 e.prop,.int .i64 e.gate,e.vsl,a,b,c,e.ssl]] Fr.nil:=⟨_,rfl⟩
      have gA24_0:=R9 kX 0
      have gA24_1:=R9 kX 1
      have dA24:fA24.ds=[]:=by rw[kX];rfl
      obtain⟨J25,H25,O25_3⟩:∃ aa,ar (q+1) Y Y1 fA24 st=.ok aa st/\aa.get 3=some (.fptr [.int .i64 e.leaf,.int .i64 e.ver,.int .i64 e.prop,.int .i64 e.gate,e.vsl,a,b,c,e.ssl] 0):=⟨_,by simp only[Rw,rQ,rA,gA24_1,Y1]<;>rfl,gn gh⟩
      obtain⟨J26,H26,O26_42⟩:∃ aa,ar (q+1) Y Yz J25 st=.ok aa st2/\aa.get 42=some (.bool true):=⟨_,by simp only[Rw,rQ,rA,(ag H25 gA24_0),O25_3,Yz,RI,ld9_0,ld9_1,ld9_2,Uq,ld9_d,ld9_4,n1,n2,n3,v1,d1,WN,ne00,ne16,hl,az,Q8,Q3,Qy,QK,Qc,Qb,Qi,Qq,Qc,Qb]<;>rfl,gh⟩
      obtain⟨J27,H27,O27_4⟩:∃ aa,ar (q+1) Y YY J26 st2=.ok aa st2/\aa.get 4=some (.bool false):=⟨_,by simp only[Rw,rQ,rA,YY]<;>rfl,gh⟩
      refine⟨_,Ve (mf:=Yd) (fr:=J27) t28 rfl (.inl ?q27) (ad H27 (ad H26 (ad H25 dA24))) (by simp only[Yd,Rw,O27_4,Q8,Q3,Qy,QK,Qc,Qb]),k1.trans k2⟩
      case q27=>
       rw[<-kX]
       simp only[Rw,rQ,rA,Yd,Rx,H25,H26,H27,O26_42]
     | true=>
      cases S with
      | false=>
       obtain⟨fA28,kY⟩:∃ fA,fA=Vo 0 [ZI k,.agg [.int .i64 e.leaf,.int .i64 e.ver,.int .i64 e.prop,.int .i64 e.gate,e.vsl,a,b,c,e.ssl]] Fr.nil:=⟨_,rfl⟩
       have gA28_0:=R9 kY 0
       have gA28_1:=R9 kY 1
       have dA28:fA28.ds=[]:=by rw[kY];rfl
       obtain⟨J29,H29,O29_3⟩:∃ aa,ar (q+1) Y Y1 fA28 st=.ok aa st/\aa.get 3=some (.fptr [.int .i64 e.leaf,.int .i64 e.ver,.int .i64 e.prop,.int .i64 e.gate,e.vsl,a,b,c,e.ssl] 0):=⟨_,by simp only[Rw,rQ,rA,gA28_1,Y1]<;>rfl,gn gh⟩
       obtain⟨J30,H30,O30_42⟩:∃ aa,ar (q+1) Y Yz J29 st=.ok aa st2/\aa.get 42=some (.bool true):=⟨_,by simp only[Rw,rQ,rA,(ag H29 gA28_0),O29_3,Yz,RI,ld9_0,ld9_1,ld9_2,Uq,ld9_d,ld9_4,n1,n2,n3,v1,d1,WN,ne00,ne16,hl,az,Q8,Q3,Qy,QK,Qc,Qb,Qi,Qq,Qc,Qb]<;>rfl,gh⟩
       obtain⟨J31,H31,O31_4⟩:∃ aa,ar (q+1) Y YY J30 st2=.ok aa st2/\aa.get 4=some (.bool false):=⟨_,by simp only[Rw,rQ,rA,YY]<;>rfl,gh⟩
       refine⟨_,Ve (mf:=Yd) (fr:=J31) t28 rfl (.inl ?q31) (ad H31 (ad H30 (ad H29 dA28))) (by simp only[Yd,Rw,O31_4,Q8,Q3,Qy,QK,Qc,Qb]),k1.trans k2⟩
       case q31=>
        rw[<-kY]
        simp only[Rw,rQ,rA,Yd,Rx,H29,H30,H31,O30_42]
      | true=>
       obtain⟨fA32,jq⟩:∃ fA,fA=Vo 0 [ZI k,.agg [.int .i64 e.leaf,.int .i64 e.ver,.int .i64 e.prop,.int .i64 e.gate,e.vsl,a,b,c,e.ssl]] Fr.nil:=⟨_,rfl⟩
       have gA32_0:=R9 jq 0
       have gA32_1:=R9 jq 1
       have dA32:fA32.ds=[]:=by rw[jq];rfl
       obtain⟨J33,H33,O33_3⟩:∃ aa,ar (q+1) Y Y1 fA32 st=.ok aa st/\aa.get 3=some (.fptr [.int .i64 e.leaf,.int .i64 e.ver,.int .i64 e.prop,.int .i64 e.gate,e.vsl,a,b,c,e.ssl] 0):=⟨_,by simp only[Rw,rQ,rA,gA32_1,Y1]<;>rfl,gn gh⟩
       obtain⟨J34,H34,O34_42⟩:∃ aa,ar (q+1) Y Yz J33 st=.ok aa st2/\aa.get 42=some (.bool false):=⟨_,by simp only[Rw,rQ,rA,(ag H33 gA32_0),O33_3,Yz,RI,ld9_0,ld9_1,ld9_2,Uq,ld9_d,ld9_4,n1,n2,n3,v1,d1,WN,ne00,ne16,hl,az,Q8,Q3,Qy,QK,Qc,Qb,Qi,Qq,Qc,Qb]<;>rfl,gh⟩
       obtain⟨J35,H35,O35_5⟩:∃ aa,ar (q+1) Y wg28_3 J34 st2=.ok aa st2/\aa.get 5=some Z0:=⟨_,by simp only[Rw,rQ,rA,wg28_3]<;>rfl,gh⟩
       obtain⟨FR,dF,hL⟩:=hL J35 (ad H35 (ad H34 (ad H33 dA32))) (ag H35 (ag H34 O33_3)) O35_5
       rcases hL with⟨hL,cm⟩|⟨hL,gF,cm⟩
       ·rw[cm]
        obtain⟨J36,H36,O36_4⟩:∃ aa,ar (q+1) Y wg28_9 FR st2=.ok aa st2/\aa.get 4=some (.bool true):=⟨_,by simp only[Rw,rQ,rA,wg28_9]<;>rfl,gh⟩
        refine⟨_,Ve (mf:=Yd) (fr:=J36) t28 rfl (.inl ?q36) (ad H36 dF) (by simp only[Yd,Rw,O36_4,Q8,Q3,Qy,QK,Qc,Qb]),k1.trans k2⟩
        case q36=>
         rw[<-jq]
         simp only[Rw,rQ,rA,Yd,Rx,H33,H34,H35,hL,H36,O34_42]
       ·rw[cm]
        refine⟨_,Ve (mf:=Yd) (fr:=FR) t28 rfl (.inl ?q37) dF (by simp only[Yd,Rw,gF,Q8,Q3,Qy,QK,Qc,Qb]),k1.trans k2⟩
        case q37=>
         rw[<-jq]
         simp only[Rw,rQ,rA,Yd,Rx,H33,H34,H35,hL,O34_42]
end
noncomputable section
open Nat renaming reduceEqDiff -> rQ, reduceAdd -> rA
def plainD(zs:List (Vc × Nat)):Bool:=zs.all fun z=>(match z.1.op with | .alloc _=>false | .mksl _ _ _ _ _=>false | _=>true)&&!z.1.op.isDefer
theorem drun_seq{Γ:Cg}:∀(zs:List (Vc × Nat)) (i id:Nat) (fr:Fr) (st:St) (aa:Fr) (af:St),plainD zs=true->Vj Γ (zs.map Prod.fst) fr st=.ok aa af->∃ ak,Wq Γ zs i id fr st none=some (ak,aa,af)/\JE ak=none
 | [],i,id,fr,st,aa,af,_,h=>by
  simp only[QZ,Vj,RR.ok.injEq] at h
  obtain⟨rfl,rfl⟩:=h
  exact⟨[],rfl,rfl⟩
 | z::zs,i,id,fr,st,aa,af,hp,h=>by
  unfold plainD at hp
  simp only[QN,Qd,Xy] at hp
  obtain⟨⟨h1,h2⟩,h3⟩:=hp
  have ih:=drun_seq (Γ:=Γ) zs
  simp only[Q4,Vj] at h
  unfold Wq
  simp only[Ku,Qq]
  cases hw:Vv fr z.1.guard with
  | none=>rw[hw] at h;cases h
  | some b=>
   rw[hw] at h
   cases b with
   | false=>
    obtain⟨ak,e1,e2⟩:=ih (i+1) (VJ id z.1.op) _ _ _ _ h3 h
    refine⟨.val fr st .undef st::ak,?_,e2⟩
    simp only[e1];rfl
   | true=>
    simp only[h2,Qq] at h
    have ho:V5 Γ id fr st z.1.op=RD Γ fr st z.1.op:=by
     unfold V5
     split
     ·rename_i hh;rw[hh] at h1;cases h1
     ·rename_i hh;rw[hh] at h1;cases h1
     ·rfl
    simp only[ho]
    cases hr:RD Γ fr st z.1.op with
    | val v s1=>
     rw[hr] at h
     obtain⟨ak,e1,e2⟩:=ih (i+1) (VJ id z.1.op) _ _ _ _ h3 h
     refine⟨.val fr st v s1::ak,?_,e2⟩
     simp only[e1];rfl
    | pan v s1=>rw[hr] at h;cases h
    | stuck=>rw[hr] at h;cases h
theorem SN:∀(zs:List (Vc × Nat)),plainD zs=true->Ta zs=true
 | [],_=>rfl
 | z::zs,hp=>by
  unfold plainD at hp
  simp only[QN,Qd] at hp
  simp only[Ta,Qd]
  exact⟨hp.1.1,SN zs hp.2⟩
theorem Wj{Γ:Cg}{zs:List (Vc × Nat)}{fr aa:Fr}{st af:St}(hp:plainD zs=true)(h:Vj Γ (zs.map Prod.fst) fr st=.ok aa af):VK Γ zs [] fr st=.ok aa af:=by
 obtain⟨ak,e1,e2⟩:=drun_seq zs 0 st.next fr st aa af hp h
 unfold VK
 rw[TI zs _ st (SN zs hp),e1]
 simp only[QW,Qi,e2]
def wb158_0:Vn:=(ZQ [ZV 10 8,ZV 5 10]
 (ZQ [ZV 11 1,ZV 12 0,ZV 13 5,ZP 14 3 12 13,ZK 15 3 14,ZO 16 (.call (.t 11) [(.t 15)])]
 (.cond (.t 16)
 (ZR [ZV 17 5,ZV 4 17])
 .skip)))
def wf158:Vm:=⟨19,(ZQ [ZM 4 (ZC 0)]
 (.seq (ZQ [ZV 6 0,ZN 7 6,ZM 8 (ZC 0)]
 (.block 0 (.loop (lb 9 8 7 18 wb158_0))))
 (ZR [ZM 4 (.c (.int .i64 (.negSucc 0)))]))),[.t 4]⟩
theorem u158:Ry 158=some wf158:=by kernel_rfl
def wf109:Vm:=⟨9,(ZQ [ZM 4 (ZB false)]
 (ZR [ZV 5 0,ZV 6 1,ZX 7 158 [(.t 5),(.t 6)],ZO 8 (.bin false .geq (.t 7) (ZC 0)),ZV 4 8])),[.t 4]⟩
theorem u109:Ry 109=some wf109:=by kernel_rfl
theorem idx158_run{q n:Nat}{Y:Vi}{F:Nat->Prop}{aB:St}{sl:AV}{xs:List (List AV)}{caps:List AV}{R3:Nat->St->Prop}{Fin:Nat->St->Prop}(aD:RB 3 F aB sl xs)
  (hI:∀ k s,R3 k s->Vs F aB s)
  (dZ:∀ k x s,xs[k]?=some x->R3 k s->∃ b s',R n Y q (.agg x::caps) s=.ret (.bool b) s'/\(b=true->Fin k s')/\(b=false->R3 (k+1) s'))
  (st:St) (h0:R3 0 st) (hn:xs.length < n):
  ∃ r s',R (n+1) Y 158 [sl,.func (.func q) [] caps] st=.ret (.int .i64 r) s'/\((r=.negSucc 0/\R3 xs.length s')\/(∃ j:Nat,r=.ofNat j/\j < xs.length/\Fin j s')):=by
 have al:=aD.len st
 obtain⟨av,cp,z0,z1,z7,z8,zd⟩:∃ av,(∀ L T,ac n Y (ZQ [ZM 4 (ZC 0)] (.seq (ZQ [ZV 6 0,ZN 7 6,ZM 8 (ZC 0)] L) T)) none (Vo 0 [sl,.func (.func q) [] caps] Fr.nil) st=match ac n Y L none av st with
    | .norm fr st=>ac n Y T none fr st
    | r=>r)
   /\ av.get 0=some sl/\av.get 1=some (.func (.func q) [] caps)/\av.get 7=some (ZI xs.length)/\av.get 8=some Z0/\av.ds=[]:=by
  refine⟨?f0,?f1,?f2,?f3,?f4,?f5,?f7⟩
  case f1=>
   intro L T
   simp only[Rw,rQ,rA,al]
   rfl
  case f2=>simp only[Vo,Fr.get_set,rA,rQ,↓reduceIte]
  case f3=>simp only[Vo,Fr.get_set,rA,rQ,↓reduceIte]
  case f4=>simp only[Fr.get_set,rQ,↓reduceIte]
  case f5=>simp only[Fr.get_set,↓reduceIte]
  case f7=>rfl
 have Rx:Nat.beq 0 0=true:=rfl
 have hB:∀ k fr s,k < xs.length->Kp [0,1,7] av fr->fr.get 8=some (ZI k)->R3 k s ->
   (∃ FR s',ac n Y wb158_0 none fr s=.norm FR s'/\Kp [8,0,1,7] fr FR/\R3 (k+1) s') ∨
   (∃ FR s',ac n Y wb158_0 none fr s=.ret FR s'/\(FR.ds=[]/\(∃ j:Nat,FR.get 4=some (ZI j)/\j < xs.length/\Fin j s'))):=by
  intro k fr s hk aI g8 hi
  have hx:xs[k]?=some xs[k]:=Qn hk
  generalize xs[k]=x at hx
  obtain⟨p,ia,ld⟩:=aD.at hx
  have ld:=ld s (hI k s hi)
  obtain⟨b,s',hc,h1,h2⟩:=dZ k x s hx hi
  have cz:((gT n).cg Y).fn q (.agg x::caps) s=.ret (.bool b) s':=hc
  have q1:=aI.at (k:=0) (by decide) z0
  have q2:=aI.at (k:=1) (by decide) z1
  cases b with
  | true=>
   refine .inr ⟨?r0,s',?r1,?r2,⟨k,?r3,hk,h1 rfl⟩⟩
   case r1=>
    simp only[Rw,rQ,rA,wb158_0,q1,q2,g8,ia,ld,cz]
    rfl
   case r2=>exact aI.1.trans zd
   case r3=>simp only[Fr.get_set,↓reduceIte]
  | false=>
   refine .inl ⟨?v0,s',?v1,?v2,h2 rfl⟩
   case v1=>
    simp only[Rw,rQ,rA,wb158_0,q1,q2,g8,ia,ld,cz]
    rfl
   case v2=>repeat (first | exact Kp.refl | refine Kp.set (by decide) ?_)
 have d5:=aD.2.2.1
 rcases kloop (Γ:=gT n) (Y:=Y) (m:=n) (N:=xs.length) (c:=9) (i:=8) (n:=7) (i2:=18) (ro:=none) (L:=[0,1,7]) (av:=av) (by decide) (by decide) (by decide) (by decide) z7 (by omega)
  (Q:=fun k _ s=>R3 k s) (fun _ _ _ _ _ _ h=>h) hB xs.length 0 av st n (by omega) (by omega) Kp.refl z8 h0
  with⟨FR,s',h1,h2,h3⟩|⟨FR,s',h1,h2,⟨j,h3,h4,h5⟩⟩
 ·refine⟨.negSucc 0,s',Ve (mf:=wf158) (fr:=FR.set 4 (some (.int .i64 (.negSucc 0)))) u158 rfl (.inl ?w1) (h2.1.trans zd) ?w2,.inl ⟨rfl,h3⟩⟩
  case w1=>
   refine (cp _ _).trans ?_
   simp only[Rw,rQ,rA,h1,Rx]
  case w2=>simp only[wf158,Rw,Fr.get_set,↓reduceIte]
 ·refine⟨.ofNat j,s',Ve (mf:=wf158) (fr:=FR) u158 rfl (.inl ?w3) h2 ?w4,.inr ⟨j,rfl,h4,h5⟩⟩
  case w3=>
   refine (cp _ _).trans ?_
   simp only[Rw,rQ,rA,h1,Rx]
  case w4=>simp only[wf158,Rw,h3]
theorem contains109_run{q n:Nat}{Y:Vi}{F:Nat->Prop}{aB:St}{sl:AV}{xs:List (List AV)}{caps:List AV}{R3:Nat->St->Prop}{Fin:Nat->St->Prop}(aD:RB 3 F aB sl xs)
  (hI:∀ k s,R3 k s->Vs F aB s)
  (dZ:∀ k x s,xs[k]?=some x->R3 k s->∃ b s',R n Y q (.agg x::caps) s=.ret (.bool b) s'/\(b=true->Fin k s')/\(b=false->R3 (k+1) s'))
  (st:St) (h0:R3 0 st) (hn:xs.length < n):
  ∃ b s',R (n+2) Y 109 [sl,.func (.func q) [] caps] st=.ret (.bool b) s'/\((b=false/\R3 xs.length s')\/(b=true/\∃ j,j < xs.length/\Fin j s')):=by
 obtain⟨r,s',hr,hc⟩:=idx158_run aD hI dZ st h0 hn
 have fx:((gT (n+1)).cg Y).fn 158 [sl,.func (.func q) [] caps] st=.ret (.int .i64 r) s':=hr
 have hg:Vr false .geq (.int .i64 r) Z0=some (.bool (decide (r>=0))):=rfl
 refine⟨decide (r>=0),s',?_,?_⟩
 ·refine Ve (mf:=wf109) (fr:=?a0) u109 rfl (.inl ?a1) ?a2 ?a3
  case a1=>
   simp only[Rw,rQ,rA,wf109,fx,hg]
   rfl
  case a2=>rfl
  case a3=>simp only[wf109,Rw,Fr.get_set,↓reduceIte]
 ·rcases hc with⟨rfl,h⟩|⟨j,rfl,h1,h2⟩
  ·exact .inl ⟨rfl,h⟩
  ·exact .inr ⟨by simp,j,h1,h2⟩
def wg110_0:List Vc:=[ZO 1 (.box true (.t 0)),ZM 2 (ZB false)]
def wg110_1:List Vc:=[ZK 3 3 1,ZX 4 111 [(.t 3)],ZO 5 (.un .not (.t 4)),ZV 2 5]
def wf110:Vm:=⟨6,(ZQ wg110_0 (ZR wg110_1)),[.t 2]⟩
theorem t110:Ry 110=some wf110:=by kernel_rfl
theorem values1_run(t:Tm)(m:Nat)(Y:Vi)(F:Nat->Prop)(st:St)(cs:List AV)(hr:We F st t cs)(hF:∀ i,F i->i < st.next)(hn:t.fz+4<=m):
  ∃ af,R (m+1) Y 110 [.agg cs] st=.ret (.bool (!gr t)) af/\Vd st af:=by
 have eF:=hr.cells3
 obtain⟨ai,c1,k1⟩:=ground_run t m Y F st cs hr hF hn
 have eS:((gT m).cg Y).fn 111 [.agg cs] st=.ret (.bool (gr t)) ai:=c1
 obtain⟨a,b,c,rfl⟩:∃ a b c,cs=[a,b,c]:=by
  match cs,eF.1 with
  | [a,b,c],_=>exact⟨a,b,c,rfl⟩
 generalize gr t=B at *
 obtain⟨fA1,au⟩:∃ fA,fA=Vo 0 [.agg [a,b,c]] Fr.nil:=⟨_,rfl⟩
 have gA1_0:=R9 au 0
 have dA1:fA1.ds=[]:=by rw[au];rfl
 obtain⟨J2,H2,O2_1⟩:∃ aa,ar m Y wg110_0 fA1 st=.ok aa st/\aa.get 1=some (.fptr [a,b,c] 0):=⟨_,by simp only[Rw,rQ,rA,gA1_0,wg110_0]<;>rfl,gn gh⟩
 have W2:=ad H2 dA1
 obtain⟨J3,H3,O3_2⟩:∃ aa,ar m Y wg110_1 J2 st=.ok aa ai/\aa.get 2=some (.bool (!B)):=⟨_,by simp only[Rw,rQ,rA,O2_1,wg110_1,Jh,eS,WN,Qc,Qb]<;>rfl,gh⟩
 have W3:=ad H3 W2
 refine⟨_,Ve (mf:=wf110) (fr:=J3) t110 rfl (.inl ?q3) W3 (by simp only[wf110,Rw,O3_2]),k1⟩
 case q3=>
  rw[<-au]
  simp only[Rw,rQ,rA,wf110,Rx,H2,H3]
def wg67_0:List Vc:=[ZO 1 (.box true (.t 0)),ZM 2 (ZB false)]
def wg67_1:List Vc:=[ZA 3 1 1,ZL 4 3,ZN 5 4,ZO 6 (.bin false .leq (.t 5) (ZC 8)),ZV 7 6,ZG 8 (.faddr 1 (.t 1)) 7 true,ZG 9 (.load false 1 (.t 8)) 7 true,ZG 10 (.call (.c (.func (.func 109) [] [])) [(.t 9),(.c (.func (.func 110) [] []))]) 7 true,ZG 11 (.un .not (.t 10)) 7 true,ZO 12 (.pick (.t 7) (.t 11) (ZB false)),ZV 2 12]
def wf67:Vm:=⟨13,(ZQ wg67_0 (ZR wg67_1)),[.t 2]⟩
theorem t67:Ry 67=some wf67:=by kernel_rfl
theorem RB.sl3(nl ex:Bool)(l:List Tm)(h:nl=true->l=[])(hb:l.length<=4611686018427387904)(F:Nat->Prop)(st:St):RB 3 F st (V7 nl ex (Tm.cellsL l)) (Tm.cellsL l):=by
 cases nl with
 | true=>rw[h rfl];exact RB.nil (by omega) F st
 | false=>exact RB.lst (by omega) F st (Tm.cellsL3 l) (by rw[Tm.cellsL_len];omega) rfl rfl
theorem valuesP_run(e:En)(he:e.ok)(x:AV)(m:Nat)(Y:Vi)(st:St)(hn:e.fz<=m):
  ∃ af,R (m+1) Y 67 [.agg [x,e.vsl]] st=.ret (.bool (valsB e.vals)) af/\Vd st af:=by
 obtain⟨o1,o2,o3,o4,o5,o6⟩:=he
 unfold En.fz at hn
 obtain⟨q,rfl⟩:∃ q,m=q+3:=⟨m - 3,by omega⟩
 have hS:RB 3 (fun _=>False) st e.vsl (Tm.cellsL e.vals):=RB.sl3 e.vnl e.vex e.vals o1 o2 _ st
 have hl:∀ st,(bif VD 0 e.vsl then Wm st e.vsl else none)=some (ZI e.vals.length):=fun st=>by
  have:=hS.len st
  rwa [Tm.cellsL_len] at this
 have rG:=leqN e.vals.length 8
 unfold valsB
 by_cases hA:e.vals.length<=8
 ·rw[Qs hA] at rG ⊢
  obtain⟨b,ai,c1,hc⟩:=contains109_run (q:=110) (n:=q+1) (Y:=Y) (caps:=[]) (R3:=fun k s=>Vd st s/\(e.vals.take k).all gr=true) (Fin:=fun k s=>Vd st s/\e.vals.all gr=false) hS
   (fun k s h=>Vs.of h.1 fun _ h=>h.elim) (fun k x s hx hi=>by
    have bg:Vy (fun _=>False) s e.vals (Tm.cellsL e.vals):=Vy.line _ s e.vals o3
    have ce:k < e.vals.length:=by have:=(Qt.1 hx).1;rwa [Tm.cellsL_len] at this
    have ht:e.vals[k]?=some e.vals[k]:=Qn ce
    generalize e.vals[k]=t at ht
    have bY:=Tm.cellsL_at ht
    rw[hx] at bY;injection bY with bY;subst bY
    obtain⟨s',r,k'⟩:=values1_run t q Y (fun _=>False) s t.cells (We.line _ s t (Tm.okL_mem o3 t (Qr ht))) (fun _ h=>h.elim) (by have:=Tm.fzL_mem (Qr ht);omega)
    have bz:=YR gr e.vals k t ht
    rw[hi.2,Q3] at bz
    refine⟨_,s',r,fun h=>⟨hi.1.trans k',WV (k:=k+1) (by rw[bz];simpa using h)⟩,fun h=>⟨hi.1.trans k',by rw[bz];simpa using h⟩⟩)
   st ⟨Vd.refl st,rfl⟩ (by rw[Tm.cellsL_len];omega)
  have eS:((gT (q+3)).cg Y).fn 109 [e.vsl,.func (.func 110) [] []] st=.ret (.bool b) ai:=c1
  have hb:b=!e.vals.all gr/\Vd st ai:=by
   rcases hc with⟨rfl,h1,h2⟩|⟨rfl,j,_,h1,h2⟩
   ·rw[Tm.cellsL_len,QH] at h2;rw[h2];exact⟨rfl,h1⟩
   ·rw[h2];exact⟨rfl,h1⟩
  obtain⟨hb,k1⟩:=hb
  have hr:(true&&e.vals.all gr)=!b:=by rw[hb];simp
  rw[hr]
  obtain⟨fA1,au⟩:∃ fA,fA=Vo 0 [.agg [x,e.vsl]] Fr.nil:=⟨_,rfl⟩
  have gA1_0:=R9 au 0
  have dA1:fA1.ds=[]:=by rw[au];rfl
  obtain⟨J2,H2,O2_1⟩:∃ aa,ar (q+3) Y wg67_0 fA1 st=.ok aa st/\aa.get 1=some (.fptr [x,e.vsl] 0):=⟨_,by simp only[Rw,rQ,rA,gA1_0,wg67_0]<;>rfl,gn gh⟩
  have W2:=ad H2 dA1
  obtain⟨J3,H3,O3_2⟩:∃ aa,ar (q+3) Y wg67_1 J2 st=.ok aa ai/\aa.get 2=some (.bool (!b)):=⟨_,by simp only[Rw,rQ,rA,O2_1,wg67_1,RI,ld2_1,hl,rG,eS,WN,Qc,Qb]<;>rfl,gh⟩
  have W3:=ad H3 W2
  refine⟨_,Ve (mf:=wf67) (fr:=J3) t67 rfl (.inl ?q3) W3 (by simp only[wf67,Rw,O3_2]),k1⟩
  case q3=>
   rw[<-au]
   simp only[Rw,rQ,rA,wf67,Rx,H2,H3]
 ·rw[Qp hA] at rG ⊢
  obtain⟨fA4,fG⟩:∃ fA,fA=Vo 0 [.agg [x,e.vsl]] Fr.nil:=⟨_,rfl⟩
  have gA4_0:=R9 fG 0
  have dA4:fA4.ds=[]:=by rw[fG];rfl
  obtain⟨J5,H5,O5_1⟩:∃ aa,ar (q+3) Y wg67_0 fA4 st=.ok aa st/\aa.get 1=some (.fptr [x,e.vsl] 0):=⟨_,by simp only[Rw,rQ,rA,gA4_0,wg67_0]<;>rfl,gn gh⟩
  have W5:=ad H5 dA4
  obtain⟨J6,H6,O6_2⟩:∃ aa,ar (q+3) Y wg67_1 J5 st=.ok aa st/\aa.get 2=some (.bool false):=⟨_,by simp only[Rw,rQ,rA,O5_1,wg67_1,RI,ld2_1,hl,rG,WN,Qc,Qb]<;>rfl,gh⟩
  have W6:=ad H6 W5
  refine⟨_,Ve (mf:=wf67) (fr:=J6) t67 rfl (.inl ?q6) W6 (by simp only[wf67,Rw,O6_2,Q8]),Vd.refl st⟩
  case q6=>
   rw[<-fG]
   simp only[Rw,rQ,rA,wf67,Rx,H5,H6]
def wg8_0:List Vc:=[ZO 1 (.box true (.t 0)),ZM 2 (ZB false)]
def wg8_1:List Vc:=[ZA 4 2 1,ZL 5 4,ZO 6 (.bin false .lss (.t 5) (ZC 1)),ZV 7 6,ZG 8 (.faddr 2 (.t 1)) 7 false,ZG 9 (.load false 1 (.t 8)) 7 false,ZG 10 (.bin false .gtr (.t 9) (ZC 8)) 7 false,ZO 11 (.pick (.t 7) (ZB true) (.t 10)),ZV 12 11,ZG 13 (.faddr 0 (.t 1)) 12 false,ZG 14 (.load false 1 (.t 13)) 12 false,ZG 15 (.len 0 (.t 14)) 12 false,ZG 16 (.bin false .gtr (.t 15) (ZC 24)) 12 false,ZO 17 (.pick (.t 12) (ZB true) (.t 16)),ZV 18 17,ZG 19 (.faddr 1 (.t 1)) 18 false,ZG 20 (.load false 1 (.t 19)) 18 false,ZG 21 (.len 0 (.t 20)) 18 false,ZG 22 (.faddr 0 (.t 1)) 18 false,ZG 23 (.load false 1 (.t 22)) 18 false,ZG 24 (.len 0 (.t 23)) 18 false,ZG 25 (.bin false .neq (.t 21) (.t 24)) 18 false,ZO 26 (.pick (.t 18) (ZB true) (.t 25))]
def wg8_2:List Vc:=[ZM 2 (ZB false)]
def wg8_3:List Vc:=[ZM 3 (ZC 0)]
def wg8_4:List Vc:=[ZV 27 3,ZA 28 1 1,ZL 29 28,ZN 30 29,ZO 31 (.bin false .lss (.t 27) (.t 30))]
def wg8_5:List (Vc × Nat):=[(ZA 34 1 1,0),(ZL 35 34,1),(ZV 36 3,0),(ZP 37 1 35 36,7),(ZL 38 37,15),(ZO 39 (.bin false .lss (.t 38) (ZC 0)),31),(ZV 40 39,63),(ZG 41 (.faddr 1 (.t 1)) 40 false,127),(ZG 42 (.load false 1 (.t 41)) 40 false,255),(ZG 43 (.mv (.t 3)) 40 false,127),(ZG 44 (.iaddr 1 (.t 42) (.t 43)) 40 false,1023),(ZG 45 (.load false 1 (.t 44)) 40 false,2047),(ZG 46 (.faddr 2 (.t 1)) 40 false,127),(ZG 47 (.load false 1 (.t 46)) 40 false,4223),(ZG 48 (.bin false .geq (.t 45) (.t 47)) 40 false,16383),(ZO 49 (.pick (.t 40) (ZB true) (.t 48)),32767)]
def wg8_6:List Vc:=[ZM 2 (ZB false)]
def wg8_7:List Vc:=[ZV 32 3,ZO 33 (.bin false .add (.t 32) (ZC 1)),ZV 3 33]
def wg8_8:List Vc:=[ZM 2 (ZB true)]
def Us:Vn:=(.seq (ZQ wg8_4 (.cond (.t 31) .skip (.exit 0))) (.seq (.block 1 (.seq (.draw wg8_5 []) (.cond (.t 49) (ZR wg8_6) .skip))) (.region wg8_7)))
def wf8:Vm:=⟨50,(ZQ wg8_0 (.seq (ZQ wg8_1 (.cond (.t 26) (ZR wg8_2) .skip)) (.seq (ZQ wg8_3 (.block 0 (.loop Us))) (ZR wg8_8)))),[.t 2]⟩
theorem t8:Ry 8=some wf8:=by kernel_rfl
theorem YV(st:St)(x y z:AV):Vf false 1 st (.fptr [x,y,z] 0)=some x:=rfl
theorem Ks(st:St)(x y z:AV):Vf false 1 st (.fptr [x,y,z] 1)=some y:=rfl
theorem ld3_2(st:St)(x y z:AV):Vf false 1 st (.fptr [x,y,z] 2)=some z:=rfl
theorem lssI(x y:Int):Vr false .lss (.int .i64 x) (.int .i64 y)=some (.bool (decide (x < y))):=rfl
theorem geqI(x y:Int):Vr false .geq (.int .i64 x) (.int .i64 y)=some (.bool (decide (x>=y))):=rfl
theorem gtrI(x y:Int):Vr false .gtr (.int .i64 x) (.int .i64 y)=some (.bool (decide (x > y))):=rfl
theorem isPlan_run{F:Nat->Prop}{st:St}{lv pv:AV}{ls:List (List AV)}{ps:List Int}{N:Int}(hl:RB 1 F st lv ls)(hp:RE F st pv ps)(m:Nat)(Y:Vi)(hn:ps.length < m):
  R (m+1) Y 8 [.agg [lv,pv,.int .i64 N]] st=.ret (.bool (Rb ls.length ps N)) st:=by
 have n0:=hl.len st
 have n1:=RE.len hp st
 have hB:=RE.bound hp
 unfold Rb
 have hL:∀(fr:Fr),fr.ds=[]->fr.get 1=some (.fptr [lv,pv,.int .i64 N] 0)->fr.get 3=some Z0->∃ FR,FR.ds=[] ∧
   ((Vx (ac m Y Us none) m fr st=.exit 0 FR st/\(ps.all fun k=>decide (0<=k)&&decide (k < N))=true)\/(Vx (ac m Y Us none) m fr st=.ret FR st/\FR.get 2=some (.bool false)/\(ps.all fun k=>decide (0<=k)&&decide (k < N))=false)):=by
  intro fr d0 g1 g3
  refine Ws (B:=ac m Y Us none) (N:=ps.length) (R3:=fun k fr ai=>fr.ds=[]/\fr.get 1=some (.fptr [lv,pv,.int .i64 N] 0)/\fr.get 3=some (ZI k)/\ai=st/\((ps.take k).all fun k=>decide (0<=k)&&decide (k < N))=true)
   (Out:=fun r=>∃ FR,FR.ds=[]/\((r=.exit 0 FR st/\(ps.all fun k=>decide (0<=k)&&decide (k < N))=true)\/(r=.ret FR st/\FR.get 2=some (.bool false)/\(ps.all fun k=>decide (0<=k)&&decide (k < N))=false))) ?_ ps.length 0 fr st m (by omega) (by omega) ⟨d0,g1,g3,rfl,rfl⟩
  intro k fr ai hk ⟨d0,g1,g3,ax,aA⟩
  subst ax
  have am:=Wt k ps.length
  by_cases aQ:k < ps.length
  ·have hx:ps[k]?=some ps[k]:=Qn aQ
   generalize ps[k]=x at hx
   obtain⟨p,ia,ld⟩:=RE.at hp hx
   have ld:=ld ai (Vs.refl _ _)
   have aU:=WC (i:=k) (by omega)
   have bz:=YR (fun k=>decide (0<=k)&&decide (k < N)) ps k x hx
   rw[aA,Q3] at bz
   rw[Qs aQ] at am
   have c1:=lssI x (.ofNat 0)
   have c2:=geqI x N
   have e1:decide (0<=x)=!decide (x < Int.ofNat 0):=by
    by_cases h:0<=x
    ·rw[Qs h,Qp (by simp;omega)];rfl
    ·rw[Qp h,Qs (by simp;omega)];rfl
   have e2:decide (x < N)=!decide (x>=N):=by
    by_cases h:x < N
    ·rw[Qs h,Qp (by omega)];rfl
    ·rw[Qp h,Qs (by omega)];rfl
   simp only[e1,e2] at bz
   generalize decide (x < Int.ofNat 0)=A at *
   generalize decide (x>=N)=B at *
   have wT:((ps.take (k+1)).all fun k=>decide (0<=k)&&decide (k < N))=!(A||B):=by rw[bz];cases A<;>cases B<;>rfl
   obtain⟨J1,H1,O1_31⟩:∃ aa,ar m Y wg8_4 fr ai=.ok aa ai/\aa.get 31=some (.bool true):=⟨_,by simp only[Rw,rQ,rA,g1,g3,wg8_4,RI,Ks,n1,am]<;>rfl,gh⟩
   have V1_1:=ag H1 g1
   have V1_3:=ag H1 g3
   have W1:=ad H1 d0
   obtain⟨J2,H2,K2,O2_49⟩:∃ aa,VK ((gT m).cg Y) wg8_5 [] J1 ai=.ok aa ai/\Kp [1,3,31] J1 aa/\aa.get 49=some (.bool (A||B)):=by cases A<;>cases B<;>exact⟨_,Wj rfl (by simp only[Rw,rQ,rA,V1_1,V1_3,wg8_5,RI,Ks,ld3_2,ia,ld,c1,c2,Qc,Qb]<;>rfl),Kp.refl.s.s.s.s.s.s.s.s.s.s.s.s.s.s.s.s,by simp only[Fr.get_set,rQ,↓reduceIte,amB,Qc,Qb]⟩
   have V2_1:=K2.g 1 V1_1
   have V2_3:=K2.g 3 V1_3
   have W2:=K2.1.trans W1
   generalize BE:(A||B)=C3 at *
   cases C3 with
   | true=>
    obtain⟨J4,H4,O4_2⟩:∃ aa,ar m Y wg8_6 J2 ai=.ok aa ai/\aa.get 2=some (.bool false):=⟨_,by simp only[Rw,rQ,rA,wg8_6]<;>rfl,gh⟩
    have dr:ac m Y Us none fr ai=.ret J4 ai:=by
     simp only[Rw,rQ,rA,Us,Rx,R5,H1,H2,H4,O1_31,O2_49]
    rw[dr]
    exact⟨_,(ad H4 W2),.inr ⟨rfl,O4_2,WV (k:=k+1) (by rw[wT];rfl)⟩⟩
   | false=>
    obtain⟨J5,H5,O5_3⟩:∃ aa,ar m Y wg8_7 J2 ai=.ok aa ai/\aa.get 3=some (ZI ((k+1))):=⟨_,by simp only[Rw,rQ,rA,V2_3,wg8_7,aU]<;>rfl,gh⟩
    have W5:=ad H5 W2
    have bV:ac m Y Us none fr ai=.norm J5 ai:=by
     simp only[Rw,rQ,rA,Us,Rx,R5,H1,H2,H5,O1_31,O2_49]
    rw[bV]
    exact⟨aQ,W5,(ag H5 V2_1),O5_3,rfl,by rw[wT];rfl⟩
  ·rw[Qp aQ] at am
   have ce:k=ps.length:=by omega
   subst ce
   rw[QH] at aA
   obtain⟨J6,H6,O6_31⟩:∃ aa,ar m Y wg8_4 fr ai=.ok aa ai/\aa.get 31=some (.bool false):=⟨_,by simp only[Rw,rQ,rA,g1,g3,wg8_4,RI,Ks,n1,am]<;>rfl,gh⟩
   have W6:=ad H6 d0
   have ed:ac m Y Us none fr ai=.exit 0 J6 ai:=by
    simp only[Rw,rQ,rA,Us,Rx,R5,H6,O6_31]
   rw[ed]
   exact⟨_,W6,.inl ⟨rfl,aA⟩⟩
 have cA:=lssI N (.ofNat 1)
 have cB:=gtrI N (.ofNat 8)
 have cC:=gtrN ls.length 24
 have cD:=neqN ps.length ls.length
 have e1:decide (1<=N)=!decide (N < Int.ofNat 1):=by
  by_cases h:1<=N
  ·rw[Qs h,Qp (by simp;omega)];rfl
  ·rw[Qp h,Qs (by simp;omega)];rfl
 have e2:decide (N<=8)=!decide (N > Int.ofNat 8):=by
  by_cases h:N<=8
  ·rw[Qs h,Qp (by simp;omega)];rfl
  ·rw[Qp h,Qs (by simp;omega)];rfl
 have e3:decide (ls.length<=24)=!decide (24 < ls.length):=by
  by_cases h:ls.length<=24<;>simp[h]<;>omega
 rw[e1,e2,e3]
 generalize decide (N < Int.ofNat 1)=A at *
 generalize decide (N > Int.ofNat 8)=B at *
 generalize decide (24 < ls.length)=C at *
 generalize decide (ps.length=ls.length)=D at *
 obtain⟨fA7,dt⟩:∃ fA,fA=Vo 0 [.agg [lv,pv,.int .i64 N]] Fr.nil:=⟨_,rfl⟩
 have gA7_0:=R9 dt 0
 have dA7:fA7.ds=[]:=by rw[dt];rfl
 obtain⟨J8,H8,O8_1⟩:∃ aa,ar m Y wg8_0 fA7 st=.ok aa st/\aa.get 1=some (.fptr [lv,pv,.int .i64 N] 0):=⟨_,by simp only[Rw,rQ,rA,gA7_0,wg8_0]<;>rfl,gn gh⟩
 have W8:=ad H8 dA7
 obtain⟨J9,H9,O9_26⟩:∃ aa,ar m Y wg8_1 J8 st=.ok aa st/\aa.get 26=some (.bool (A||B||C||!D)):=by cases A<;>cases B<;>cases C<;>cases D<;>exact⟨_,by simp only[Rw,rQ,rA,O8_1,wg8_1,RI,YV,Ks,ld3_2,n0,n1,cA,cB,cC,cD,Qc,Qb]<;>rfl,by simp only[Fr.get_set,rQ,↓reduceIte,amB,Qc,Qb]⟩
 have W9:=ad H9 W8
 generalize zl:(A||B||C||!D)=C10 at *
 cases C10 with
 | true=>
  obtain⟨J11,H11,O11_2⟩:∃ aa,ar m Y wg8_2 J9 st=.ok aa st/\aa.get 2=some (.bool false):=⟨_,by simp only[Rw,rQ,rA,wg8_2]<;>rfl,gh⟩
  have hz:(!A&&!B&&!C&&D&&ps.all fun k=>decide (0<=k)&&decide (k < N))=false:=by cases A<;>cases B<;>cases C<;>cases D<;>simp_all
  rw[hz]
  refine Ve (mf:=wf8) (fr:=J11) t8 rfl (.inl ?q11) (ad H11 W9) (by simp only[wf8,Rw,O11_2,Q8,Q3,Qy,QK,Qc,Qb])
  case q11=>
   rw[<-dt]
   simp only[Rw,rQ,rA,wf8,Rx,H8,H9,H11,O9_26]
 | false=>
  obtain⟨J12,H12,O12_3⟩:∃ aa,ar m Y wg8_3 J9 st=.ok aa st/\aa.get 3=some Z0:=⟨_,by simp only[Rw,rQ,rA,wg8_3]<;>rfl,gh⟩
  have W12:=ad H12 W9
  have hz:A=false/\B=false/\C=false/\D=true:=by cases A<;>cases B<;>cases C<;>cases D<;>simp_all
  obtain⟨rfl,rfl,rfl,rfl⟩:=hz
  obtain⟨FR,dF,hL⟩:=hL J12 W12 (ag H12 (ag H9 O8_1)) O12_3
  rcases hL with⟨hL,cm⟩|⟨hL,gF,cm⟩
  ·rw[cm]
   obtain⟨J13,H13,O13_2⟩:∃ aa,ar m Y wg8_8 FR st=.ok aa st/\aa.get 2=some (.bool true):=⟨_,by simp only[Rw,rQ,rA,wg8_8]<;>rfl,gh⟩
   have W13:=ad H13 dF
   refine Ve (mf:=wf8) (fr:=J13) t8 rfl (.inl ?q13) W13 (by simp only[wf8,Rw,O13_2,Q8,Q3,Qy,QK,Qc,Qb])
   case q13=>
    rw[<-dt]
    simp only[Rw,rQ,rA,wf8,Rx,H8,H9,H12,hL,H13,O9_26]
  ·rw[cm]
   refine Ve (mf:=wf8) (fr:=FR) t8 rfl (.inl ?q14) dF (by simp only[wf8,Rw,gF,Q8,Q3,Qy,QK,Qc,Qb])
   case q14=>
    rw[<-dt]
    simp only[Rw,rQ,rA,wf8,Rx,H8,H9,H12,hL,O9_26]
end
end Go.AM.D32
