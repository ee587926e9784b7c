import Derived.Test.YtejdliehekjicaaGreatAwWa10
import Derived.Test.YtejdliehekjicaaGreatAwRep
import Derived.Test.YtejdliehekjicaaGreatAwSrt
set_option maxRecDepth 100000
set_option linter.unusedSimpArgs false
namespace Go.AM.D32
open Go Go.AM
abbrev Sp:=Nat × Nat × En
def YT(x y:En):Bool:=(JX (VS x.gate y.gate) (Wr x.vals y.vals)==0)&&(Ky x.d y.d==0)
def clE(l:List En)(q:Int):List (Int × Int):=(l.filter fun e=>e.prop==q).map fun e=>(e.leaf,e.ver)
def Wa(l:List En)(out:List Int)(i:Int):Nat:=((out.flatMap (clE l)).filter fun c=>c.1==i).length
def seenE(l:List En)(q:Int):List Int:=match l.find? (fun e=>e.prop==q) with
 | some e=>e.seen
 | none=>[]
def readyP(l:List En)(out:List Int)(q:Int):Prop:=∀(i:Nat) (n:Int),(seenE l q)[i]?=some n->¬((Wa l out i:Int) < min n (VF l i))
def YP(l:List En):Prop:=∀(d:List En) (x:En) (r:List En),l=d++x::r->0<=x.leaf/\x.ver=(VF d x.leaf:Int)/\x.seen[x.leaf.toNat]?=some x.ver/\∀ z∈d,z.prop=x.prop->z.leaf≠x.leaf/\z.seen=x.seen
theorem KS{α:Type}{l:List α}{x:α}(h:x∈l):∃ d r,l=d++x::r:=Z7 h
theorem pair_cases{α:Type}{l:List α}{x y:α}(hx:x∈l)(hy:y∈l):x=y\/(∃ a b c,l=a++x::b++y::c)\/(∃ a b c,l=a++y::b++x::c):=by
 induction l with
 | nil=>simp at hx
 | cons z l ih=>
  rcases Qx.1 hx with rfl | hx'
  ·rcases Qx.1 hy with rfl | hy'
   ·exact .inl rfl
   ·obtain⟨b,c,rfl⟩:=KS hy'
    exact .inr (.inl ⟨[],b,c,by simp⟩)
  ·rcases Qx.1 hy with rfl | hy'
   ·obtain⟨b,c,rfl⟩:=KS hx'
    exact .inr (.inr ⟨[],b,c,by simp⟩)
   ·rcases ih hx' hy' with h|⟨a,b,c,h⟩|⟨a,b,c,h⟩
    ·exact .inl h
    ·exact .inr (.inl ⟨z::a,b,c,by simp[h]⟩)
    ·exact .inr (.inr ⟨z::a,b,c,by simp[h]⟩)
theorem cntE_app2(l r:List En)(i:Int):VF (l++r) i=VF l i+VF r i:=by simp[VF]
theorem cntE_pos{l:List En}{x:En}(h:x∈l):0 < VF l x.leaf:=by
 unfold VF
 exact List.length_pos_of_mem (Zk.2 ⟨h,by simp⟩)
theorem YP.lt{l:List En}(H:YP l){a b c:List En}{x y:En}(h:l=a++x::b++y::c)(e:x.leaf=y.leaf):x.ver < y.ver:=by
 have h1:=(H a x (b++y::c) (by simp[h])).2.1
 have h2:=(H (a++x::b) y c (by simp[h])).2.1
 rw[h1,h2,<-e,cntE_app2]
 have:0 < VF (x::b) x.leaf:=cntE_pos (by simp)
 omega
theorem YP.uniq{l:List En}(H:YP l){x y:En}(hx:x∈l)(hy:y∈l)(e:x.leaf=y.leaf)(v:x.ver=y.ver):x=y:=by
 rcases pair_cases hx hy with h|⟨a,b,c,h⟩|⟨a,b,c,h⟩
 ·exact h
 ·have:=H.lt h e;omega
 ·have:=H.lt h e.symm;omega
theorem YP.seen{l:List En}(H:YP l){x y:En}(hx:x∈l)(hy:y∈l)(e:x.prop=y.prop):x.seen=y.seen:=by
 rcases pair_cases hx hy with h|⟨a,b,c,h⟩|⟨a,b,c,h⟩
 ·rw[h]
 ·exact((H (a++x::b) y c (by simp[h])).2.2.2 x (by simp) e).2
 ·exact((H (a++y::b) x c (by simp[h])).2.2.2 y (by simp) e.symm).2.symm
theorem YP.bound{l:List En}(H:YP l){x:En}(hx:x∈l):0<=x.ver/\x.ver < VF l x.leaf:=by
 obtain⟨d,r,h⟩:=KS hx
 have h1:=(H d x r h).2.1
 have:VF l x.leaf=VF d x.leaf+VF (x::r) x.leaf:=by rw[h,cntE_app2]
 have:0 < VF (x::r) x.leaf:=cntE_pos (by simp)
 omega
theorem seenE_mem{l:List En}(H:YP l){x:En}(hx:x∈l):seenE l x.prop=x.seen:=by
 unfold seenE
 cases h:l.find? (fun e=>e.prop==x.prop) with
 | none=>exact absurd (XJ.1 h x hx) (by simp)
 | some y=>
  have h1:=X9 h
  have h2:=List.find?_some h
  exact H.seen h1 hx (by simpa using h2)
theorem Tg{l:List En}{q:Int}{c:Int × Int}:c∈clE l q ↔ ∃ x∈l,x.prop=q/\x.leaf=c.1/\x.ver=c.2:=by
 unfold clE
 simp only[Q6,Zk,Zm]
 constructor
 ·rintro ⟨x,⟨h1,h2⟩,rfl⟩;exact⟨x,h1,h2,rfl,rfl⟩
 ·rintro ⟨x,h1,h2,h3,h4⟩;exact⟨x,⟨h1,h2⟩,by rw[h3,h4]⟩
def Y9(l:List En)(out:List Int):Prop:=∀ i,(((out.flatMap (clE l)).filter fun c=>c.1==i).map fun c=>c.2)=(List.range (Wa l out i)).map Int.ofNat
theorem Y9.nil(l:List En):Y9 l []:=fun i=>by simp[Wa]
theorem thereE_snoc(l:List En)(out:List Int)(q i:Int):Wa l (out++[q]) i=Wa l out i+((clE l q).filter fun c=>c.1==i).length:=by
 unfold Wa;simp
theorem Y9.mem{l:List En}{out:List Int}(h:Y9 l out){i:Int}{v:Nat}(hv:v < Wa l out i):∃ q∈out,(i,Int.ofNat v)∈clE l q:=by
 have:Int.ofNat v∈(((out.flatMap (clE l)).filter fun c=>c.1==i).map fun c=>c.2):=by
  rw[h i]
  exact Q6.2 ⟨v,Xo.2 hv,rfl⟩
 obtain⟨c,hc,e⟩:=Q6.1 this
 obtain⟨h1,h2⟩:=Zk.1 hc
 obtain⟨q,hq,h3⟩:=QO.1 h1
 refine⟨q,hq,?_⟩
 have:c=(i,Int.ofNat v):=by
  cases c;simp only[Zm] at h2;simp_all
 exact this ▸ h3
theorem T7{l:List En}(H:YP l){out:List Int}{q:Int}(ho:Y9 l out)(hq:q∉out)(hr:readyP l out q):
  (∀ c∈clE l q,c.2=(Wa l out c.1:Int))/\Y9 l (out++[q]):=by
 have h1:∀ c∈clE l q,c.2=(Wa l out c.1:Int):=by
  intro c hc
  obtain⟨x,hx,e1,e2,e3⟩:=Tg.1 hc
  obtain⟨d,r,hs⟩:=KS hx
  obtain⟨f1,_,f3,_⟩:=H d x r hs
  obtain⟨b1,b2⟩:=H.bound hx
  have hse:=seenE_mem H hx
  rw[e1] at hse
  have hrr:=hr x.leaf.toNat x.ver (by rw[hse];exact f3)
  rw[show ((x.leaf.toNat:Nat):Int)=x.leaf by omega] at hrr
  rw[<-e2,<-e3]
  have hge:¬(x.ver < (Wa l out x.leaf:Int)):=fun hlt=>by
   obtain⟨q',hq',hc'⟩:=ho.mem (i:=x.leaf) (v:=x.ver.toNat) (by omega)
   obtain⟨y,hy,g1,g2,g3⟩:=Tg.1 hc'
   have hv:y.ver=x.ver:=by rw[g3];show ((x.ver.toNat:Nat):Int)=x.ver;omega
   have:=H.uniq hy hx g2 hv
   subst this
   exact hq ((g1.symm.trans e1) ▸ hq')
  omega
 refine⟨h1,fun i=>?_⟩
 rw[thereE_snoc,X0,List.filter_append,QQ,ho i]
 have hone:∀ c∈clE l q,∀ c'∈clE l q,c.1=c'.1->c=c':=fun c hc c' hc' e=>by
  have:=h1 c hc;have:=h1 c' hc'
  have h2:c.2=c'.2:=by rw[h1 c hc,h1 c' hc',e]
  cases c;cases c';simp_all
 have hle:((clE l q).filter fun c=>c.1==i).length<=1:=by
  unfold clE
  rw[List.filter_map,Qu]
  -- entries of one proposal and leaf: at most one
  have hsub:∀ m:List En,(∀ a b c x y,m=a++x::b++y::c->x.prop=y.prop->x.leaf=y.leaf->False)->((m.filter fun e=>e.prop==q).filter ((fun c:Int × Int=>c.1==i) ∘ fun e=>(e.leaf,e.ver))).length<=1:=by
   intro m hm
   generalize hg:(m.filter fun e=>e.prop==q).filter ((fun c:Int × Int=>c.1==i) ∘ fun e=>(e.leaf,e.ver))=g
   rw[List.filter_filter] at hg
   match g,hg with
   | [],_=>simp
   | [_],_=>simp
   | x::y::g',hg=>
    exfalso
    obtain⟨a,s,e1,e2,e3⟩:=List.filter_eq_cons_iff.1 hg
    obtain⟨b,t,e4,e5,e6⟩:=List.filter_eq_cons_iff.1 e3.2
    simp only[Function.comp,Qd,Zm] at e3 e6
    exact hm a b t x y (by rw[e1,e4];simp) (by rw[e3.1.2,e6.1.2]) (by rw[e3.1.1,e6.1.1])
  refine hsub l fun a b c x y h e f=>?_
  exact absurd f ((H (a++x::b) y c (by simp[h])).2.2.2 x (by simp) e).1
 simp only[Xa,List.flatMap_nil,QG]
 generalize hf:(clE l q).filter (fun c=>c.1==i)=g at hle ⊢
 match g,hle with
 | [],_=>simp
 | [c],_=>
  have hc:c∈(clE l q).filter (fun c=>c.1==i):=by rw[hf];simp
  obtain⟨m1,m2⟩:=Zk.1 hc
  have e1:c.1=i:=by simpa using m2
  have e2:=h1 c m1
  rw[e1] at e2
  simp only[Q4,QZ,QC,X2,Q7,List.range_succ,QQ,e2]
  rfl
 | _::_::_,h=>simp at h
theorem behind_saw{l:List En}(H:YP l){out:List Int}{q:Int}(hr:readyP l out q){y:En}(hy:y∈l)(e:y.prop=q){i:Nat}{v:Int}(hv:y.seen[i]?=some v):
  ¬(v > Wa l out i/\(VF l i:Int)>=v):=by
 have hse:=seenE_mem H hy
 rw[e] at hse
 have:=hr i v (by rw[hse];exact hv)
 omega
theorem JS{α:Type}{motive:List α->Prop}(nil:motive [])(snoc:∀ l x,motive l->motive (l++[x]))(l:List α):motive l:=by
 have h:∀ m:List α,motive m.reverse:=fun m=>by
  induction m with
  | nil=>exact nil
  | cons x m ih=>rw[List.reverse_cons];exact snoc _ _ ih
 have:=h l.reverse
 rwa [List.reverse_reverse] at this
def Wg(d:List Sp)(e:En):En:=match d.find? (fun z=>z.2.2.prop==e.prop) with
 | some z=>z.2.2
 | none=>e
def ens(d:List Sp):List En:=d.map fun z=>z.2.2
def Wp(k:Nat)(ps:List Int)(d:List Sp)(x:Sp):Nat:=
 bif decide (x.2.2.leaf>=k)||!(ps.getD x.2.2.leaf.toNat 0==(x.1:Int)) then 1 else
 bif (d.any fun z=>z.2.2.prop==x.2.2.prop&&z.2.2.leaf==x.2.2.leaf)||!YT x.2.2 (Wg d x.2.2)||!decide (x.2.2.seen=(Wg d x.2.2).seen) then 2 else
 bif !(x.2.2.ver==(VF (ens d) x.2.2.leaf:Int))||!(x.2.2.ver==x.2.2.seen.getD x.2.2.leaf.toNat 0) then 3 else 0
def KC(k:Nat)(ps:List Int)(d:List Sp):Prop:=∀ a x b,d=a++x::b->Wp k ps a x=0
theorem KC.nil(k:Nat)(ps:List Int):KC k ps []:=fun a x b h=>by simp at h
theorem KC.snoc{k:Nat}{ps:List Int}{d:List Sp}{x:Sp}(h:KC k ps d)(hx:Wp k ps d x=0):KC k ps (d++[x]):=by
 intro a y b hy
 rcases List.append_eq_append_iff.1 hy with⟨c,h1,h2⟩|⟨c,h1,h2⟩
 ·cases c with
  | nil=>simp only[QR,XK] at h2;obtain⟨rfl,_⟩:=h2;rw[h1,QG];exact hx
  | cons z c=>simp at h2
 ·cases c with
  | nil=>
   simp only[QR,XK] at h2
   obtain⟨rfl,_⟩:=h2
   rw[QG] at h1;rw[<-h1];exact hx
  | cons z c=>
   simp only[QP,XK] at h2
   obtain⟨rfl,_⟩:=h2
   exact h _ _ _ h1
theorem KC.pre{k:Nat}{ps:List Int}{d r:List Sp}(h:KC k ps (d++r)):KC k ps d:=fun a x b hd=>h a x (b++r) (by simp[hd])
theorem Ut{k:Nat}{ps:List Int}{d:List Sp}{x:Sp}(h:Wp k ps d x=0):
  x.2.2.leaf < k/\ps.getD x.2.2.leaf.toNat 0=(x.1:Int)/\(∀ z∈d,z.2.2.prop=x.2.2.prop->z.2.2.leaf≠x.2.2.leaf)/\YT x.2.2 (Wg d x.2.2)=true/\x.2.2.seen=(Wg d x.2.2).seen ∧
  x.2.2.ver=(VF (ens d) x.2.2.leaf:Int)/\x.2.2.ver=x.2.2.seen.getD x.2.2.leaf.toNat 0:=by
 unfold Wp at h
 cases h1:decide (x.2.2.leaf>=k)||!(ps.getD x.2.2.leaf.toNat 0==(x.1:Int)) with
 | true=>rw[h1] at h;cases h
 | false=>
  rw[h1] at h
  simp only[Qq] at h
  cases h2:(d.any fun z=>z.2.2.prop==x.2.2.prop&&z.2.2.leaf==x.2.2.leaf)||!YT x.2.2 (Wg d x.2.2)||!decide (x.2.2.seen=(Wg d x.2.2).seen) with
  | true=>rw[h2] at h;cases h
  | false=>
   rw[h2] at h
   simp only[Qq] at h
   cases h3:!(x.2.2.ver==(VF (ens d) x.2.2.leaf:Int))||!(x.2.2.ver==x.2.2.seen.getD x.2.2.leaf.toNat 0) with
   | true=>rw[h3] at h;cases h
   | false=>
    simp only[XM,Z5,Zm,XT,ZE,Qd,not_and,QF] at h1 h2 h3
    exact⟨by omega,h1.2,h2.1.1,h2.1.2,h2.2,h3.1,h3.2⟩
theorem KC.fitE{k:Nat}{ps:List Int}{l:List Sp}(h:KC k ps l)(hg:∀ z∈l,0<=z.2.2.leaf/\z.2.2.seen.length=k):YP (ens l):=by
 -- what is seen by entries of one proposal
 have hsee:∀ d r:List Sp,l=d++r->∀ z∈d,∀ e:En,z.2.2.prop=e.prop->z.2.2.seen=(Wg d e).seen:=by
  intro d
  induction d using JS with
  | nil=>intro r _ z hz;simp at hz
  | snoc d y ih=>
   intro r hl z hz e he
   have hk:=Ut (h d y r (by simp[hl]))
   have hfd:(d++[y]).find? (fun z=>z.2.2.prop==e.prop)=((d.find? (fun z=>z.2.2.prop==e.prop)).or (if y.2.2.prop==e.prop then some y else none)):=by
    rw[ZH];simp[List.find?];split<;>simp_all
   rcases QV.1 hz with hz | hz
   ·have:=ih ([y]++r) (by simp[hl]) z hz e he
    unfold Wg at this ⊢
    rw[hfd]
    cases hf:d.find? (fun z=>z.2.2.prop==e.prop) with
    | none=>exact absurd (XJ.1 hf z hz) (by simp[he])
    | some q=>rw[hf] at this;exact this
   ·obtain rfl:z=y:=by simpa using hz
    have h5:=hk.2.2.2.2.1
    unfold Wg at h5 ⊢
    rw[hfd]
    rw[he] at h5
    cases hf:d.find? (fun z=>z.2.2.prop==e.prop) with
    | none=>simp[he]
    | some q=>rw[hf] at h5;simpa using h5
 intro d x r hl
 unfold ens at hl
 obtain⟨d',t,rfl,hd,ht⟩:=List.map_eq_append_iff.1 hl
 obtain⟨z,r',rfl,hz,hr⟩:=List.map_eq_cons_iff.1 ht
 subst hz;subst hd
 have hk:=Ut (h d' z r' rfl)
 obtain⟨g1,g2⟩:=hg z (by simp)
 refine⟨g1,hk.2.2.2.2.2.1,?_,fun e he hp=>?_⟩
 ·have hlt:z.2.2.leaf.toNat < z.2.2.seen.length:=by rw[g2];have:=hk.1;omega
  have h7:=hk.2.2.2.2.2.2
  rw[X4,Qn hlt] at h7
  rw[Qn hlt,h7];rfl
 ·obtain⟨u,hu,rfl⟩:=Q6.1 he
  refine⟨hk.2.2.1 u hu hp,?_⟩
  rw[hk.2.2.2.2.1]
  exact hsee d' (z::r') rfl u hu z.2.2 hp
def Jp(l:List En)(out:List Int)(q:Int):Bool:=(seenE l q).zipIdx.all fun x=>!decide ((Wa l out x.2:Int) < min x.1 (VF l x.2))
theorem readyB_P{l:List En}{out:List Int}{q:Int}(h:Jp l out q=true):readyP l out q:=by
 intro i n hi
 have:=QB.1 h (n,i) (by rw[List.mem_iff_getElem?];exact⟨i,by rw[List.getElem?_zipIdx,hi];simp⟩)
 simpa using this
def Y4(l:List En):Nat->List Int->List Int->List Int × List Int
 | 0,left,out=>(left,out)
 | f+1,left,out=>match left.findIdx? (Jp l out) with
  | none=>(left,out)
  | some i=>Y4 l f (left.eraseIdx i) (out++[left.getD i 0])
theorem getD_some{left:List Int}{i:Nat}(h:i < left.length):left.getD i 0=left[i]:=by rw[X4,Qn h];rfl
theorem SC:∀(left:List Int) (i:Nat),i < left.length->left.Perm (left.getD i 0::left.eraseIdx i)
 | [],i,h=>by simp at h
 | x::l,0,_=>by simp
 | x::l,i+1,h=>by
  have:=SC l i (by simpa using h)
  simp only[List.getD_cons_succ,List.eraseIdx_cons_succ]
  exact(this.cons x).trans (List.Perm.swap _ _ _)
def YB(l:List En)(out:List Int):Prop:=∀ pre q post,out=pre++q::post->(∀ c∈clE l q,c.2=(Wa l pre c.1:Int)) ∧
 ∀ y∈l,y.prop=q->∀(i:Nat) (v:Int),y.seen[i]?=some v->¬(v > Wa l pre i/\(VF l i:Int)>=v)
theorem YB.nil(l:List En):YB l []:=fun pre q post h=>by simp at h
theorem YB.snoc{l:List En}(H:YP l){out:List Int}{q:Int}(h:YB l out)(ho:Y9 l out)(hq:q∉out)(hr:readyP l out q):YB l (out++[q]):=by
 intro pre x post hx
 rcases List.append_eq_append_iff.1 hx with⟨c,h1,h2⟩|⟨c,h1,h2⟩
 ·cases c with
  | nil=>
   simp only[QR,XK] at h2;obtain⟨rfl,_⟩:=h2;rw[QG] at h1;rw[h1]
   exact⟨(T7 H ho hq hr).1,fun y hy e i v hv=>behind_saw H hr hy e hv⟩
  | cons z c=>simp at h2
 ·cases c with
  | nil=>
   simp only[QR,XK] at h2
   obtain⟨rfl,_⟩:=h2
   rw[QG] at h1;rw[<-h1]
   exact⟨(T7 H ho hq hr).1,fun y hy e i v hv=>behind_saw H hr hy e hv⟩
  | cons z c=>
   simp only[QP,XK] at h2
   obtain⟨rfl,_⟩:=h2
   exact h _ _ _ h1
theorem UL{l:List En}(H:YP l):∀(f:Nat) (left out:List Int),(left++out).Nodup->Y9 l out->YB l out->YB l (Y4 l f left out).2/\Y9 l (Y4 l f left out).2/\(((Y4 l f left out).1++(Y4 l f left out).2).Perm (left++out))
 | 0,left,out,_,ho,h=>⟨h,ho,Xp _⟩
 | f+1,left,out,hn,ho,h=>by
  unfold Y4
  split
  ·exact⟨h,ho,Xp _⟩
  ·rename_i i hi
   obtain⟨hil,hri,_⟩:=XQ.1 hi
   have hp:=SC left i hil
   have hp2:(left.eraseIdx i++(out++[left.getD i 0])).Perm (left++out):=by
    refine List.Perm.trans ?_ (hp.append_right out).symm
    rw[<-Xb]
    exact List.perm_append_comm.trans (Xp _)
   have hnd:=(hp.append_right out).nodup_iff.1 hn
   have hq:left.getD i 0∉out:=fun hm=>by
    simp only[QP,Zz,QV,Z8] at hnd
    exact hnd.1.2 hm
   have hr:readyP l out (left.getD i 0):=readyB_P (by rw[getD_some hil];exact hri)
   obtain⟨a,b,c⟩:=UL H f (left.eraseIdx i) (out++[left.getD i 0]) (hp2.nodup_iff.2 hn) (T7 H ho hq hr).2 (h.snoc H ho hq hr)
   exact⟨a,b,c.trans hp2⟩
structure Pr where
 e:En
 p:Nat
 i:Nat
 cl:List (Int × Int)
 id:Nat
 cid:Nat
def Pr.csl(x:Pr):AV:=.own x.cid 0 x.cl.length 2 none x.cl.length
def YX(e:En)(c:AV)(p i:Nat):List AV:=[.int .i64 e.prop,.int .i64 e.gate,e.vsl]++e.d.cells++[c,ZI p,ZI i,e.ssl]
def Pr.row(x:Pr):List AV:=YX x.e x.csl x.p x.i
def V6(l:List En):List Int:=l.foldl (fun acc e=>if acc.contains e.prop then acc else acc++[e.prop]) []
theorem Yp(l:List En)(e:En):V6 (l++[e])=if (V6 l).contains e.prop then V6 l else V6 l++[e.prop]:=by
 unfold V6;rw[List.foldl_append];rfl
theorem YK(l:List En)(q:Int):q∈V6 l ↔ ∃ e∈l,e.prop=q:=by
 induction l using JS with
 | nil=>simp[V6]
 | snoc l x ih=>
  rw[Yp]
  by_cases h:(V6 l).contains x.prop=true
  ·rw[Qm h,ih]
   constructor
   ·rintro ⟨e,he,hq⟩;exact⟨e,by simp[he],hq⟩
   ·rintro ⟨e,he,hq⟩
    rcases QV.1 he with he | he
    ·exact⟨e,he,hq⟩
    ·obtain rfl:e=x:=by simpa using he
     rw[hq] at h
     exact ih.1 (by simpa using h)
  ·rw[Qe h]
   simp only[QV,ih,Xd]
   constructor
   ·rintro (⟨e,he,hq⟩ | rfl)
    ·exact⟨e,.inl he,hq⟩
    ·exact⟨x,.inr rfl,rfl⟩
   ·rintro ⟨e,he | rfl,hq⟩
    ·exact .inl ⟨e,he,hq⟩
    ·exact .inr hq.symm
theorem Wu(l:List En):(V6 l).Nodup:=by
 induction l using JS with
 | nil=>simp[V6]
 | snoc l x ih=>
  rw[Yp]
  by_cases h:(V6 l).contains x.prop=true
  ·rw[Qm h];exact ih
  ·rw[Qe h]
   refine QS.2 ⟨ih,by simp,fun a ha b hb e=>?_⟩
   obtain rfl:b=x.prop:=by simpa using hb
   subst e
   exact h (by simpa using ha)
def Yf(m:List (Int × Nat))(q:Int):Nat:=match m.find? (fun x=>x.1==q) with
 | some x=>x.2
 | none=>0
def esM(m:List (Int × Nat)):List (AV × AV):=m.map fun x=>(.int .i64 x.1,ZI x.2)
def esP(l:List Pr):List (AV × AV):=l.map fun x=>(.int .i64 x.e.prop,.ptr x.id 0)
theorem Sh{α:Type}(key:α->Int)(val:α->AV)(q:Int):∀ l:List α,Uz false (.int .i64 q) (l.map fun x=>(AV.int .i64 (key x),val x))=some ((l.find? fun x=>key x==q).map val)
 | []=>rfl
 | x::l=>by
  simp only[Q4,Uz,KO,Qq,Xj,List.find?]
  by_cases h:key x=q
  ·subst h;simp
  ·have h1:(q==key x)=false:=by simpa using fun e=>h e.symm
   have h2:(key x==q)=false:=by simpa using h
   rw[h1,h2];exact Sh key val q l
theorem putA_new{α:Type}(key:α->Int)(val:α->AV)(q:Int)(v:AV):∀ l:List α,(l.find? fun x=>key x==q)=none->putA false (.int .i64 q) v (l.map fun x=>(AV.int .i64 (key x),val x))=some ((l.map fun x=>(AV.int .i64 (key x),val x))++[(.int .i64 q,v)])
 | [],_=>rfl
 | x::l,h=>by
  simp only[List.find?] at h
  split at h
  ·cases h
  ·rename_i h2
   have h1:(q==key x)=false:=by
    have:¬ key x=q:=by simpa using h2
    simpa using fun e=>this e.symm
   simp only[Q4,putA,KO,Qq,Xj,h1,putA_new key val q v l h,Ql,QP]
def YH(q:Int):List (Int × Nat)->List (Int × Nat)
 | []=>[(q,1)]
 | x::m=>if x.1=q then (q,x.2+1)::m else x::YH q m
theorem putA_bump(q:Int):∀(m:List (Int × Nat)),putA false (.int .i64 q) (ZI ((Yf m q+1))) (esM m)=some (esM (YH q m))
 | []=>rfl
 | x::m=>by
  have ih:=putA_bump q m
  unfold esM at ih ⊢
  simp only[Q4,putA,KO,Qq,Xj,YH,Yf,List.find?]
  by_cases h:x.1=q
  ·have h1:(q==x.1)=true:=by simpa using h.symm
   have h2:(x.1==q)=true:=by simpa using h
   rw[h1,h2,Qm h];rfl
  ·have h1:(q==x.1)=false:=by simpa using fun e=>h e.symm
   have h2:(x.1==q)=false:=by simpa using h
   rw[h1,h2,Qe h]
   unfold Yf at ih
   simp only[ih,Ql,Q4]
theorem cntM_bump(q r:Int):∀(m:List (Int × Nat)),Yf (YH q m) r=Yf m r+(if (q==r)=true then 1 else 0)
 | []=>by
  unfold YH Yf
  simp only[List.find?]
  cases h:q==r<;>simp
 | x::m=>by
  have ih:=cntM_bump q r m
  unfold YH
  by_cases h:x.1=q
  ·rw[Qm h]
   unfold Yf
   simp only[List.find?]
   subst h
   cases h2:x.1==r<;>simp
  ·rw[Qe h]
   unfold Yf at ih ⊢
   simp only[List.find?]
   cases h2:x.1==r
   ·exact ih
   ·have:(q==r)=false:=by
     have:x.1=r:=by simpa using h2
     subst this
     simpa using fun e=>h e.symm
    simp[this]
structure Y5(A M lim:Nat)(d:List Sp)(s:St)(PL:List Pr)(m:List (Int × Nat)):Prop where
 all:s.get A=some (.map (esP PL))
 mov:s.get M=some (.map (esM m))
 cnt:∀ q,Yf m q=VF (ens d) q
 prs:PL.map (fun x=>x.e.prop)=V6 (ens d)
 one:∀ x∈PL,d.find? (fun z=>z.2.2.prop==x.e.prop)=some (x.p,x.i,x.e)/\x.cl=clE (ens d) x.e.prop/\s.get x.id=some (.row x.row)/\s.get x.cid=some (.row (V9 x.cl))/\lim<=x.id/\lim<=x.cid/\x.id < s.next/\x.cid < s.next
 ids:(PL.flatMap fun x=>[x.id,x.cid]).Nodup
 lim:A < lim/\M < lim/\lim<=s.next
theorem Y5.keep{A M lim:Nat}{d:List Sp}{s s':St}{PL:List Pr}{m:List (Int × Nat)}(h:Y5 A M lim d s PL m)(k:Vd s s'):Y5 A M lim d s' PL m:=by
 obtain⟨l1,l2,l3⟩:=h.lim
 refine⟨by rw[k.2 _ (by omega)];exact h.all,by rw[k.2 _ (by omega)];exact h.mov,h.cnt,h.prs,fun x hx=>?_,h.ids,l1,l2,QY l3 k.1⟩
 obtain⟨a,b,c,e,f,g,i,j⟩:=h.one x hx
 exact⟨a,b,by rw[k.2 _ i];exact c,by rw[k.2 _ j];exact e,f,g,Qz i k.1,Qz j k.1⟩
theorem Y5.low{A M lim:Nat}{d:List Sp}{s:St}{PL:List Pr}{m:List (Int × Nat)}(h:Y5 A M lim d s PL m){id:Nat}(hi:id < lim)(hA:id≠A)(hM:id≠M)(o:AO):Y5 A M lim d (s.put id o) PL m:=by
 obtain⟨l1,l2,l3⟩:=h.lim
 refine⟨by rw[St.get_put,Qe (fun e=>hA e.symm)];exact h.all,by rw[St.get_put,Qe (fun e=>hM e.symm)];exact h.mov,h.cnt,h.prs,fun x hx=>?_,h.ids,l1,l2,l3⟩
 obtain⟨a,b,c,e,f,g,i,j⟩:=h.one x hx
 exact⟨a,b,by rw[St.get_put,Qe (by omega)];exact c,by rw[St.get_put,Qe (by omega)];exact e,f,g,i,j⟩
theorem Y5.find{A M lim:Nat}{d:List Sp}{s:St}{PL:List Pr}{m:List (Int × Nat)}(h:Y5 A M lim d s PL m)(q:Int):
  (∃ x∈PL,x.e.prop=q/\PL.find? (fun x=>x.e.prop==q)=some x/\d.find? (fun z=>z.2.2.prop==q)=some (x.p,x.i,x.e))\/(PL.find? (fun x=>x.e.prop==q)=none/\d.find? (fun z=>z.2.2.prop==q)=none/\q∉V6 (ens d)):=by
 cases hf:PL.find? (fun x=>x.e.prop==q) with
 | some x=>
  have h1:=X9 hf
  have h2:x.e.prop=q:=by have:=List.find?_some hf;simpa using this
  have h3:=(h.one x h1).1
  rw[h2] at h3
  exact .inl ⟨x,h1,h2,rfl,h3⟩
 | none=>
  have hn:q∉V6 (ens d):=fun hm=>by
   rw[<-h.prs] at hm
   obtain⟨x,hx,he⟩:=Q6.1 hm
   exact XJ.1 hf x hx (by simpa using he)
  refine .inr ⟨rfl,XJ.2 fun z hz he=>?_,hn⟩
  exact hn ((YK _ _).2 ⟨z.2.2,Q6.2 ⟨z,hz,rfl⟩,by simpa using he⟩)
theorem Uk(d:List Sp)(x:Sp):ens (d++[x])=ens d++[x.2.2]:=by simp[ens]
theorem Tl(l:List En)(e:En)(q:Int):clE (l++[e]) q=clE l q++(if e.prop=q then [(e.leaf,e.ver)] else []):=by
 unfold clE
 rw[List.filter_append,QQ]
 congr 1
 by_cases h:e.prop=q<;>simp[h]
theorem clE_none{l:List En}{q:Int}(h:q∉V6 l):clE l q=[]:=by
 unfold clE
 rw[List.map_eq_nil_iff,List.filter_eq_nil_iff]
 intro e he hq
 exact h ((YK _ _).2 ⟨e,he,by simpa using hq⟩)
theorem find_snoc{d:List Sp}{x y:Sp}{q:Int}(h:d.find? (fun z=>z.2.2.prop==q)=some y):(d++[x]).find? (fun z=>z.2.2.prop==q)=some y:=by
 rw[ZH,h];rfl
theorem Y5.new{A M lim:Nat}{d:List Sp}{s:St}{PL:List Pr}{m:List (Int × Nat)}(h:Y5 A M lim d s PL m){e:En}{p i n1 n2:Nat}{s':St}
  (hq:e.prop∉V6 (ens d)) (gA:s'.get A=some (.map (esP PL++[(.int .i64 e.prop,.ptr n1 0)]))) (gM:s'.get M=some (.map (esM (YH e.leaf m))))
  (g1:s'.get n1=some (.row (YX e (.own n2 0 1 2 none 1) p i))) (g2:s'.get n2=some (.row (V9 [(e.leaf,e.ver)]))) (hn1:s.next<=n1) (hn2:s.next<=n2) (hne:n1≠n2) (h1:n1 < s'.next) (h2:n2 < s'.next)
  (hk:∀ k,k < s.next->k≠A->k≠M->s'.get k=s.get k):Y5 A M lim (d++[(p,i,e)]) s' (PL++[⟨e,p,i,[(e.leaf,e.ver)],n1,n2⟩]) (YH e.leaf m):=by
 obtain⟨l1,l2,l3⟩:=h.lim
 have hcl:=clE_none hq
 have hfn:d.find? (fun z=>z.2.2.prop==e.prop)=none:=XJ.2 fun z hz he=>hq ((YK _ _).2 ⟨z.2.2,Q6.2 ⟨z,hz,rfl⟩,by simpa using he⟩)
 refine⟨?_,gM,fun q=>?_,?_,fun x hx=>?_,?_,l1,l2,by omega⟩
 ·rw[gA];unfold esP;simp
 ·rw[Uk,cntM_bump,h.cnt,cntE_snoc]
 ·rw[Uk,Yp,Qe (by simpa using hq)];simp[h.prs]
 ·rw[Uk]
  rcases QV.1 hx with hx | hx
  ·obtain⟨a,b,c,d',f,g,u,v⟩:=h.one x hx
   have hxq:e.prop≠x.e.prop:=fun he=>hq (by rw[he,<-h.prs];exact Q6.2 ⟨x,hx,rfl⟩)
   refine⟨find_snoc a,?_,by rw[hk _ u (by omega) (by omega)];exact c,by rw[hk _ v (by omega) (by omega)];exact d',f,g,by omega,by omega⟩
   rw[Tl,Qe hxq,QG];exact b
  ·obtain rfl:x=⟨e,p,i,[(e.leaf,e.ver)],n1,n2⟩:=by simpa using hx
   refine⟨?_,?_,g1,g2,by show lim<=n1;omega,by show lim<=n2;omega,h1,h2⟩
   ·rw[ZH,hfn];simp
   ·show _=clE (ens d++[e]) e.prop
    rw[Tl,Qm rfl,hcl];rfl
 ·rw[X0]
  refine QS.2 ⟨h.ids,by simp[hne],fun a ha b hb hab=>?_⟩
  obtain⟨x,hx,hax⟩:=QO.1 ha
  obtain⟨_,_,_,_,_,_,u,v⟩:=h.one x hx
  simp only[Qx,QI,Xh] at hax
  simp only[Xa,List.flatMap_nil,QG,Qx,QI,Xh] at hb
  rcases hax with rfl | rfl<;>rcases hb with rfl | rfl<;>omega
def Pr.more(q:Int)(c:Int × Int)(n:Nat)(y:Pr):Pr:=if y.e.prop=q then { y with cl:=y.cl++[c],cid:=n } else y
theorem Pr.more_e(q:Int)(c:Int × Int)(n:Nat)(y:Pr):(y.more q c n).e=y.e/\(y.more q c n).id=y.id/\(y.more q c n).p=y.p/\(y.more q c n).i=y.i:=by
 unfold Pr.more;split<;>exact⟨rfl,rfl,rfl,rfl⟩
theorem Y5.ne{A M lim:Nat}{d:List Sp}{s:St}{PL:List Pr}{m:List (Int × Nat)}(h:Y5 A M lim d s PL m){x y:Pr}(hx:x∈PL)(hy:y∈PL)(hne:x.e.prop≠y.e.prop):x.id≠y.id/\x.id≠y.cid/\x.cid≠y.id/\x.cid≠y.cid:=by
 have key:∀ l:List Pr,(l.flatMap fun x=>[x.id,x.cid]).Nodup->x∈l->y∈l->x.id≠y.id/\x.id≠y.cid/\x.cid≠y.id/\x.cid≠y.cid:=by
  intro l
  induction l with
  | nil=>intro _ hx;simp at hx
  | cons z l ih=>
   intro hn hx hy
   rw[Xa,QS] at hn
   obtain⟨_,n2,n3⟩:=hn
   have far:∀ u∈l,z.id≠u.id/\z.id≠u.cid/\z.cid≠u.id/\z.cid≠u.cid:=fun u hu=>
    ⟨n3 _ (by simp) _ (QO.2 ⟨u,hu,by simp⟩),n3 _ (by simp) _ (QO.2 ⟨u,hu,by simp⟩),n3 _ (by simp) _ (QO.2 ⟨u,hu,by simp⟩),n3 _ (by simp) _ (QO.2 ⟨u,hu,by simp⟩)⟩
   rcases Qx.1 hx with hx1 | hx1
   ·rcases Qx.1 hy with hy1 | hy1
    ·exact absurd (by rw[hx1,hy1]) hne
    ·rw[hx1];exact far y hy1
   ·rcases Qx.1 hy with hy1 | hy1
    ·obtain⟨a,b,c,d⟩:=far x hx1
     rw[hy1]
     exact⟨a.symm,c.symm,b.symm,d.symm⟩
    ·exact ih n2 hx1 hy1
 exact key PL h.ids hx hy
theorem Y5.more{A M lim:Nat}{d:List Sp}{s:St}{PL:List Pr}{m:List (Int × Nat)}(h:Y5 A M lim d s PL m){e:En}{p i n2:Nat}{s':St}{x:Pr}(hx:x∈PL)(hq:x.e.prop=e.prop)
  (gA:s'.get A=some (.map (esP PL))) (gM:s'.get M=some (.map (esM (YH e.leaf m))))
  (g1:s'.get x.id=some (.row (YX x.e (.own n2 0 (x.cl.length+1) 2 none (x.cl.length+1)) x.p x.i))) (g2:s'.get n2=some (.row (V9 (x.cl++[(e.leaf,e.ver)])))) (hn2:s.next<=n2) (h2:n2 < s'.next)
  (hk:∀ k,k < s.next->k≠A->k≠M->k≠x.id->k≠x.cid->s'.get k=s.get k):Y5 A M lim (d++[(p,i,e)]) s' (PL.map (Pr.more e.prop (e.leaf,e.ver) n2)) (YH e.leaf m):=by
 obtain⟨l1,l2,l3⟩:=h.lim
 have hin:e.prop∈V6 (ens d):=by rw[<-h.prs,<-hq];exact Q6.2 ⟨x,hx,rfl⟩
 have huniq:∀ y∈PL,y.e.prop=e.prop->y=x:=by
  have key:∀ l:List Pr,(l.map fun x=>x.e.prop).Nodup->∀ a∈l,∀ b∈l,a.e.prop=b.e.prop->a=b:=by
   intro l
   induction l with
   | nil=>intro _ a ha;simp at ha
   | cons z l ih=>
    intro hn a ha b hb hab
    rw[Q4,Zz] at hn
    rcases Qx.1 ha with ha1 | ha1
    ·rcases Qx.1 hb with hb1 | hb1
     ·rw[ha1,hb1]
     ·exact absurd (Q6.2 ⟨b,hb1,by rw[<-hab,ha1]⟩) hn.1
    ·rcases Qx.1 hb with hb1 | hb1
     ·exact absurd (Q6.2 ⟨a,ha1,by rw[hab,hb1]⟩) hn.1
     ·exact ih hn.2 a ha1 b hb1 hab
  intro y hy hyq
  exact key PL (by rw[h.prs];exact Wu _) y hy x hx (hyq.trans hq.symm)
 obtain⟨xa,xb,xc,xd,xf,xg,xu,xv⟩:=h.one x hx
 refine⟨?_,gM,fun q=>?_,?_,fun y' hy'=>?_,?_,l1,l2,by omega⟩
 ·rw[gA];unfold esP
  rw[Xq]
  refine Xn some (Xn AO.map (QX fun y _=>?_))
  simp only[Function.comp,(Pr.more_e _ _ _ y).1,(Pr.more_e _ _ _ y).2.1]
 ·rw[Uk,cntM_bump,h.cnt,cntE_snoc]
 ·rw[Uk,Yp,Qm (by simpa using hin),Xq,<-h.prs]
  refine QX fun y _=>?_
  simp only[Function.comp,(Pr.more_e _ _ _ y).1]
 ·obtain⟨y,hy,rfl⟩:=Q6.1 hy'
  rw[Uk]
  by_cases hyq:y.e.prop=e.prop
  ·obtain rfl:=huniq y hy hyq
   have hm:y.more e.prop (e.leaf,e.ver) n2={ y with cl:=y.cl++[(e.leaf,e.ver)],cid:=n2 }:=by unfold Pr.more;rw[Qm hyq]
   rw[hm]
   refine⟨find_snoc xa,?_,?_,g2,xf,by show lim<=n2;omega,by show y.id < s'.next;omega,h2⟩
   ·show y.cl++_=clE (ens d++[e]) y.e.prop
    rw[Tl,Qm hyq.symm,<-xb]
   ·rw[g1];unfold Pr.row Pr.csl;simp
  ·have hm:y.more e.prop (e.leaf,e.ver) n2=y:=by unfold Pr.more;rw[Qe hyq]
   rw[hm]
   obtain⟨a,b,c,d',f,g,u,v⟩:=h.one y hy
   obtain⟨z1,z2,z3,z4⟩:=h.ne hy hx (fun z=>hyq (z.trans hq))
   refine⟨find_snoc a,?_,by rw[hk _ u (by omega) (by omega) z1 z2];exact c,by rw[hk _ v (by omega) (by omega) z3 z4];exact d',f,g,by omega,by omega⟩
   rw[Tl,Qe (fun z=>hyq z.symm),QG];exact b
 ·have key:∀ l:List Pr,(∀ y∈l,y∈PL)->(l.flatMap fun x=>[x.id,x.cid]).Nodup->((l.map (Pr.more e.prop (e.leaf,e.ver) n2)).flatMap fun x=>[x.id,x.cid]).Nodup/\∀ a∈((l.map (Pr.more e.prop (e.leaf,e.ver) n2)).flatMap fun x=>[x.id,x.cid]),a∈(l.flatMap fun x=>[x.id,x.cid])\/a=n2/\∃ y∈l,y.e.prop=e.prop:=by
   intro l
   induction l with
   | nil=>intro _ _;simp
   | cons z l ih=>
    intro hl hn
    rw[Xa,QS] at hn
    obtain⟨n1,n3,n4⟩:=hn
    obtain⟨i1,i2⟩:=ih (fun y hy=>hl y (by simp[hy])) n3
    obtain⟨_,_,_,_,_,_,zu,zv⟩:=h.one z (hl z (by simp))
    have hzne:z.id≠z.cid:=by simpa using n1
    have hold:∀ a∈(l.flatMap fun x=>[x.id,x.cid]),a < s.next:=fun a ha=>by
     obtain⟨y,hy,hay⟩:=QO.1 ha
     obtain⟨_,_,_,_,_,_,yu,yv⟩:=h.one y (hl y (by simp[hy]))
     simp only[Qx,QI,Xh] at hay
     rcases hay with rfl | rfl<;>assumption
    rw[Q4,Xa]
    by_cases hz:z.e.prop=e.prop
    ·have hm:z.more e.prop (e.leaf,e.ver) n2={ z with cl:=z.cl++[(e.leaf,e.ver)],cid:=n2 }:=by unfold Pr.more;rw[Qm hz]
     rw[hm]
     have hno:∀ y∈l,y.e.prop≠e.prop:=fun y hy hyq=>by
      have e1:=huniq y (hl y (by simp[hy])) hyq
      have e2:=huniq z (hl z (by simp)) hz
      exact n4 z.id (by simp) y.id (QO.2 ⟨y,hy,by simp⟩) (by rw[e1,e2])
     refine⟨QS.2 ⟨by simp;omega,i1,fun a ha b hb hab=>?_⟩,fun a ha=>?_⟩
     ·simp only[Qx,QI,Xh] at ha
      rcases i2 b hb with hb'|⟨_,y,hy,hyq⟩
      ·rcases ha with ha | ha
       ·exact n4 z.id (by simp) b hb' (by rw[<-ha];exact hab)
       ·have:=hold b hb';have ha:a=n2:=ha;omega
      ·exact hno y hy hyq
     ·rcases QV.1 ha with ha | ha
      ·simp only[Qx,QI,Xh] at ha
       rcases ha with rfl | rfl
       ·left;simp
       ·right;exact⟨rfl,z,by simp,hz⟩
      ·rcases i2 a ha with ha|⟨rfl,y,hy,hyq⟩
       ·left;simp[ha]
       ·exact absurd hyq (hno y hy)
    ·have hm:z.more e.prop (e.leaf,e.ver) n2=z:=by unfold Pr.more;rw[Qe hz]
     rw[hm]
     refine⟨QS.2 ⟨n1,i1,fun a ha b hb hab=>?_⟩,fun a ha=>?_⟩
     ·rcases i2 b hb with hb'|⟨rfl,_⟩
      ·exact n4 a ha b hb' hab
      ·simp only[Qx,QI,Xh] at ha
       rcases ha with rfl | rfl<;>omega
     ·rcases QV.1 ha with ha | ha
      ·left;rw[Xa];exact XC _ ha
      ·rcases i2 a ha with ha|⟨rfl,y,hy,hyq⟩
       ·left;rw[Xa];exact Zs _ ha
       ·right;exact⟨rfl,y,by simp[hy],hyq⟩
  exact(key PL (fun _ hy=>hy) h.ids).1
end Go.AM.D32
namespace Go.AM
theorem below_eq{α:Type}:∀(f:Nat) (t:Tr α) (k n:Nat),n<=f->Tr.getN f (below k t) n=if n < k then Tr.getN f t n else none
 | f,.nil,k,n,_=>by simp only[below,Tr.getN_nil];split<;>rfl
 | 0,.node o l r,k,n,h=>by
  obtain rfl:n=0:=by omega
  simp only[below,Tr.getN,Tr.val]
  cases k with
  | zero=>rfl
  | succ k=>rw[Qm (by omega)];rfl
 | f+1,.node o l r,k,n,h=>by
  simp only[below]
  unfold Tr.getN
  by_cases hn0:n=0
  ·subst hn0
   simp only[Nat.beq,Qi,Tr.val]
   cases k with
   | zero=>rfl
   | succ k=>rw[Qm (by omega)];rfl
  ·have hbn:n.beq 0=false:=by cases n<;>simp_all [Nat.beq]
   simp only[hbn,Qq]
   have e2:(n.mod 2).beq 1=decide (n % 2=1):=by
    show (n % 2).beq 1=_
    by_cases h:n % 2=1
    ·simp[h]
    ·have:n % 2=0:=by omega
     simp[this,Nat.beq]
   have d2:∀ k:Nat,k.div 2=k / 2:=fun _=>rfl
   simp only[e2,d2,Zh]
   by_cases on:n % 2=1<;>simp only[on,Z3,decide_false,Qi,Qq,Tr.left,Tr.right]
   ·rw[below_eq f l _ _ (by omega)]
    by_cases hk:n < k
    ·rw[Qm hk,Qm (by omega)]
    ·rw[Qe hk,Qe (by omega)]
   ·rw[below_eq f r _ _ (by omega)]
    show (if n / 2 - 1 < (k - 1) / 2 then _ else none)=_
    by_cases hk:n < k
    ·rw[Qm hk,Qm (by omega)]
    ·rw[Qe hk,Qe (by omega)]
theorem cutSt_get(n id:Nat)(st:St)(k:Nat):(cutSt n id st).get k=if k=id then none else if k < n then st.get k else none:=by
 unfold cutSt St.get
 rw[Tr.get_set]
 by_cases h:k=id
 ·rw[Qm h,Qm h]
 ·rw[Qe h,Qe h]
  exact below_eq k st.tr n k (Qw _)
theorem TJ:∀(cl:List Nat) (f0:Fr) (F:Fr) (n:Nat),n∈cl->(cl.foldl (fun f n=>f.set n (some (AV.gen (ev f0 (.t n))))) F).get n=some (AV.gen (ev f0 (.t n)))
 | c::cl,f0,F,n,h=>by
  rw[Xt]
  by_cases hn:n∈cl
  ·exact TJ cl f0 _ n hn
  ·obtain rfl:n=c:=by
    rcases Qx.1 h with h | h
    ·exact h
    ·exact absurd h hn
   have out:∀(cl:List Nat) (F:Fr),n∉cl->(cl.foldl (fun f n=>f.set n (some (AV.gen (ev f0 (.t n))))) F).get n=F.get n:=by
    intro cl
    induction cl with
    | nil=>intro F _;rfl
    | cons c cl ih=>
     intro F h
     simp only[Qx,Z8] at h
     rw[Xt,ih _ h.2,Fr.get_set,Qe h.1]
   rw[out cl _ hn,Fr.get_set,Qm rfl]
theorem widen_out(f0:Fr):∀(cl:List Nat) (F:Fr) (n:Nat),n∉cl->(cl.foldl (fun f n=>f.set n (some (AV.gen (ev f0 (.t n))))) F).get n=F.get n
 | [],_,_,_=>rfl
 | c::cl,F,n,h=>by
  simp only[Qx,Z8] at h
  rw[Xt,widen_out f0 cl _ n h.2,Fr.get_set,Qe h.1]
theorem widen_ds(f0:Fr):∀(cl:List Nat) (F:Fr),(cl.foldl (fun f n=>f.set n (some (AV.gen (ev f0 (.t n))))) F).ds=F.ds
 | [],_=>rfl
 | c::cl,F=>by rw[Xt,widen_ds f0 cl];rfl
def ShOk(x:AV):Option Nat->Prop
 | none=>VR x=true
 | some k=>∃ cs:List AV,x=.agg cs/\cs.length=k/\cs.all VR=true
theorem ShOk.gen{x y:AV}{o:Option Nat}(hx:ShOk x o)(hy:ShOk y o):genOk x (AV.gen y)=true:=by
 cases o with
 | none=>
  have h1:VR x=true:=hx
  have h2:VR y=true:=hy
  cases y<;>first | exact h1 | (cases h2)
 | some k=>
  obtain⟨cs,rfl,h1,h2⟩:=hx
  obtain⟨ds,rfl,h3,h4⟩:=hy
  show (cs.length.beq (ds.map fun _=>AV.top).length&&cs.all VR&&(ds.map fun _=>AV.top).all Jg)=true
  have:(ds.map fun _=>AV.top).all Jg=true:=by rw[List.all_map];exact QB.2 fun _ _=>rfl
  rw[this,h2,Qu,h1,h3];simp
theorem mrange_run{Γ:Gam}{Y:Vi}{n:Nat}{it nx more out:Nat}{cl:List Nat}{c:Vn}{ro:Option Nat}{fr:Fr}{st:St}{id m:Nat}{es:List (AV × AV)}{Q:List Nat->Fr->St->Prop}{G:Nat->Option AO}{N:Nat}{sh:Nat->Option Nat}
  (hit:fr.get it=some (.ptr id 0)) (hid:st.get id=some (.iter m [])) (hm:st.get m=some (.fmap es)) (hcl:it∈cl/\nx∈cl/\more∈cl) (hnx:sh nx=none/\sh more=none)
  (h0:Q [] fr st)
  (hstep:∀ ks i f s,i < es.length->i∉ks->(∀ j∈ks,j < es.length)->ks.Nodup->f.get it=some (.ptr id 0)->Q ks f s->∃ f' s',Vh Γ Y n c ro ((f.set nx (some .top)).set more (some .top)) (s.put id (.iter m (ks++[i])))=.norm f' s'/\f'.get it=some (.ptr id 0)/\s'.get id=some (.iter m (ks++[i]))/\Q (ks++[i]) f' s')
  (hend:∀ l f s,l.Perm (List.range es.length)->f.get it=some (.ptr id 0)->Q l f s->(∀ k,k∉cl->f.get k=fr.get k)/\f.ds=fr.ds/\(∀ k∈cl,k≠it->ShOk (ev f (.t k)) (sh k))/\s.next=N/\∀ k,k < st.next->k≠id->s.get k=G k):
  ∃ F S,Vh Γ Y n (.mrange it nx more out cl c) ro fr st=.exit out F S/\(∀ k,k∉cl->F.get k=fr.get k)/\F.ds=fr.ds/\S.next=N/\∀ k,k < st.next->k≠id->S.get k=G k:=by
 have run:∀(is ks:List Nat) (f:Fr) (s:St),(∀ j∈ks++is,j < es.length)->(ks++is).Nodup->f.get it=some (.ptr id 0)->Q ks f s->∃ f' s',JB (Vh Γ Y n c ro) it nx more id m is ks f s=some (f',s')/\f'.get it=some (.ptr id 0)/\Q (ks++is) f' s':=by
  intro is
  induction is with
  | nil=>intro ks f s _ _ hi hq;exact⟨f,s,rfl,hi,by rw[QG];exact hq⟩
  | cons i is ih=>
   intro ks f s hlt hnd hi hq
   have hni:i∉ks:=fun h=>by
    rw[QS] at hnd
    exact hnd.2.2 i h i (by simp) rfl
   obtain⟨f1,s1,e1,e2,e3,e4⟩:=hstep ks i f s (hlt i (by simp)) hni (fun j hj=>hlt j (by simp[hj])) (QS.1 hnd).1 hi hq
   have hr:Tp (Vh Γ Y n c ro) it nx more id m (ks++[i]) f s=some (f1,s1):=by
    unfold Tp
    rw[e1]
    simp only[e2,e3]
    have hb:WQ (ks++[i]) (ks++[i])=true:=by
     have:∀ l:List Nat,WQ l l=true:=fun l=>by
      induction l with
      | nil=>rfl
      | cons x l ih=>simp[WQ,ih]
     exact this _
    simp only[QD,hb,Qy,Qi]
   obtain⟨f2,s2,g1,g2,g3⟩:=ih (ks++[i]) f1 s1 (by intro j hj;exact hlt j (by simpa using hj)) (by rw[Xb];exact hnd) e2 e4
   refine⟨f2,s2,?_,g2,by rw[Xb] at g3;exact g3⟩
   rw[JB,hr];exact g1
 have all:∀ l:List Nat,l.Perm (List.range es.length)->∃ f' s',JB (Vh Γ Y n c ro) it nx more id m l [] fr st=some (f',s')/\f'.get it=some (.ptr id 0)/\Q l f' s':=fun l hl=>by
  obtain⟨f',s',h1,h2,h3⟩:=run l [] fr st (fun j hj=>by have:=hl.mem_iff.1 hj;simpa using this) (hl.nodup_iff.2 ZY) hit h0
  exact⟨f',s',h1,h2,h3⟩
 obtain⟨f0,s0,r0,i0,q0⟩:=all _ (Xp _)
 obtain⟨z1,z2,z3,z4,z5⟩:=hend _ f0 s0 (Xp _) i0 q0
 have hsh:∀ k∈cl,∀ l f s,l.Perm (List.range es.length)->f.get it=some (.ptr id 0)->Q l f s->ShOk (ev f (.t k)) (if k=it then none else sh k):=fun k hk l f s hl hi hq=>by
  by_cases h:k=it
  ·subst h
   rw[Qm rfl]
   show VR ((f.get k).getD .undef)=true
   rw[hi];rfl
  ·rw[Qe h];exact(hend l f s hl hi hq).2.2.1 k hk h
 have hok:RangeOk (Vh Γ Y n c ro) it nx more id m cl es.length fr (Wx cl f0) st (cutSt st.next id s0):=by
  intro l hl
  obtain⟨f,s,h1,h2,h3⟩:=all l hl
  obtain⟨y1,y2,y3,y4,y5⟩:=hend l f s hl h2 h3
  refine⟨f,s,h1,⟨fun k hk=>?_,fun k hk=>?_,?_⟩,?_,fun k o hk=>?_,rfl⟩
  ·unfold Wx;rw[widen_out _ _ _ _ hk,z1 k hk,y1 k hk]
  ·have:ev (Wx cl f0) (.t k)=AV.gen (ev f0 (.t k)):=by
    show ((Wx cl f0).get k).getD .undef=_
    unfold Wx;rw[TJ cl f0 f0 k hk];rfl
   rw[this]
   exact(hsh k hk l f s hl h2 h3).gen (hsh k hk _ f0 s0 (Xp _) i0 q0)
  ·unfold Wx;rw[widen_ds,z2,y2]
  ·show s0.next=s.next;rw[z4,y4]
  ·rw[cutSt_get] at hk
   by_cases e1:k=id
   ·rw[Qm e1] at hk;cases hk
   ·rw[Qe e1] at hk
    by_cases e2:k < st.next
    ·rw[Qm e2] at hk;rw[y5 k e2 e1,<-z5 k e2 e1];exact hk
    ·rw[Qe e2] at hk;cases hk
 have htop:∀ k,k∈cl->k≠it->sh k=none->Jg (ev (Wx cl f0) (.t k))=true:=fun k hk hki hs=>by
  have:ev (Wx cl f0) (.t k)=AV.gen (ev f0 (.t k)):=by
   show ((Wx cl f0).get k).getD .undef=_
   unfold Wx;rw[TJ cl f0 f0 k hk];rfl
  rw[this]
  have h:=z3 k hk hki
  rw[hs] at h
  have h:VR (ev f0 (.t k))=true:=h
  cases hv:ev f0 (.t k)<;>first | rfl | (rw[hv] at h;cases h)
 have hnit:nx≠it\/Jg (ev (Wx cl f0) (.t nx))=true:=by
  by_cases h:nx=it
  ·right;subst h
   have:ev (Wx cl f0) (.t nx)=AV.gen (ev f0 (.t nx)):=by
    show ((Wx cl f0).get nx).getD .undef=_
    unfold Wx;rw[TJ cl f0 f0 nx hcl.2.1];rfl
   rw[this];show Jg (AV.gen ((f0.get nx).getD .undef))=true;rw[i0];rfl
  ·exact .inl h
 have hmit:more≠it\/Jg (ev (Wx cl f0) (.t more))=true:=by
  by_cases h:more=it
  ·right;subst h
   have:ev (Wx cl f0) (.t more)=AV.gen (ev f0 (.t more)):=by
    show ((Wx cl f0).get more).getD .undef=_
    unfold Wx;rw[TJ cl f0 f0 more hcl.2.2];rfl
   rw[this];show Jg (AV.gen ((f0.get more).getD .undef))=true;rw[i0];rfl
  ·exact .inl h
 have t1:Jg (ev (Wx cl f0) (.t nx))=true:=hnit.elim (fun h=>htop nx hcl.2.1 h hnx.1) fun h=>h
 have t2:Jg (ev (Wx cl f0) (.t more))=true:=hmit.elim (fun h=>htop more hcl.2.2 h hnx.2) fun h=>h
 refine⟨Wx cl f0,cutSt st.next id s0,?_,fun k hk=>?_,?_,z4,fun k hk hki=>?_⟩
 ·show Te (Vh Γ Y n c ro) it nx more out cl fr st=_
  unfold Te
  rw[hit];simp only[hid,hm,r0]
  rw[rangeB_ok.2 hok,t1,t2];rfl
 ·unfold Wx;rw[widen_out _ _ _ _ hk,z1 k hk]
 ·unfold Wx;rw[widen_ds,z2]
 ·rw[cutSt_get,Qe hki,Qm hk];exact z5 k hk hki
end Go.AM
