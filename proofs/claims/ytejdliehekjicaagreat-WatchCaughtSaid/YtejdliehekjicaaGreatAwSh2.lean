import Derived.Test.YtejdliehekjicaaGreatAwRef
set_option maxRecDepth 100000
set_option linter.unusedSimpArgs false
namespace Go.AM.D32
open Go Go.AM
def VZ(id:Nat)(st af:St):Prop:=st.next<=af.next/\∀ i,i < st.next->i≠id->af.get i=st.get i
theorem VZ.refl(id:Nat)(st:St):VZ id st st:=⟨Qw _,fun _ _ _=>rfl⟩
theorem VZ.trans{id:Nat}{a b c:St}(h:VZ id a b)(k:VZ id b c):VZ id a c:=⟨QY h.1 k.1,fun i hi hn=>(k.2 i (Qz hi h.1) hn).trans (h.2 i hi hn)⟩
theorem VZ.of{id:Nat}{a b:St}(h:Vd a b):VZ id a b:=⟨h.1,fun i hi _=>h.2 i hi⟩
theorem VZ.put(id:Nat)(st:St)(o:AO):VZ id st (st.put id o):=⟨Qw _,fun i _ hn=>by rw[St.get_put,Qe hn]⟩
theorem Vd.then1{id:Nat}{s a b:St}(h:Vd s a)(k:VZ id a b)(aZ:s.next<=id):Vd s b:=
 ⟨QY h.1 k.1,fun i hi=>(k.2 i (Qz hi h.1) (by omega)).trans (h.2 i hi)⟩
theorem Vd.put'{s a:St}(h:Vd s a)(id:Nat)(o:AO)(aZ:s.next<=id):Vd s (a.put id o):=h.put id o aZ
theorem Vd.new'{s a:St}(h:Vd s a)(o:AO):Vd s (a.new o):=h.trans (Vd.new a o)
theorem Vd.newput{s a:St}(h:Vd s a)(o o':AO):Vd s ((a.new o).put a.next o'):=(h.new' o).put' _ _ h.1
theorem Vd.get{s a:St}(h:Vd s a){i:Nat}{o:AO}(hi:i < s.next)(hg:s.get i=some o):a.get i=some o:=(h.2 i hi).trans hg
def Vs(F:Nat->Prop)(st af:St):Prop:=∀ i,F i->af.get i=st.get i
theorem Vs.refl(F:Nat->Prop)(st:St):Vs F st st:=fun _ _=>rfl
theorem Vs.trans{F:Nat->Prop}{a b c:St}(h:Vs F a b)(k:Vs F b c):Vs F a c:=fun i hi=>(k i hi).trans (h i hi)
theorem Vs.of1{F:Nat->Prop}{id:Nat}{a b:St}(h:VZ id a b)(hF:∀ i,F i->i < a.next)(aZ:¬ F id):Vs F a b:=fun i hi=>h.2 i (hF i hi) (fun e=>aZ (e ▸ hi))
theorem Vs.of{F:Nat->Prop}{a b:St}(h:Vd a b)(hF:∀ i,F i->i < a.next):Vs F a b:=fun i hi=>h.2 i (hF i hi)
theorem Vs.get{F:Nat->Prop}{a b:St}(h:Vs F a b){i:Nat}{o:AO}(hi:F i)(hg:a.get i=some o):b.get i=some o:=(h i hi).trans hg
def RL(F:Nat->Prop)(st:St)(sl:AV)(xs:List (List AV)):Prop:=
 (∀ x∈xs,x.length=3/\x.all AV.one=true)/\xs.length<=9223372036854775807 ∧
 ((sl=.nilsl/\xs=[])\/(∃ ex,sl=.lst xs.length xs.flatten ex)\/(∃ id cap lo,sl=.own id 0 xs.length 3 cap lo/\F id/\st.get id=some (.row xs.flatten)))
theorem RL.mono{F G:Nat->Prop}{s a:St}{sl:AV}{xs:List (List AV)}(h:RL F s sl xs)(k:Vs F s a)(oR:∀ i,F i->G i):RL G a sl xs:=by
 obtain⟨h1,h2,h3⟩:=h
 refine⟨h1,h2,?_⟩
 rcases h3 with h | h|⟨id,cap,lo,h,hi,hg⟩
 ·exact .inl h
 ·exact .inr (.inl h)
 ·exact .inr (.inr ⟨id,cap,lo,h,oR _ hi,k.get hi hg⟩)
theorem RL.nil(F:Nat->Prop)(st:St):RL F st .nilsl []:=⟨fun _ h=>by simp at h,X3 _,.inl ⟨rfl,rfl⟩⟩
theorem RL.lst(F:Nat->Prop)(st:St){n:Nat}{xs:List (List AV)}{ex:Bool}(h:∀ x∈xs,x.length=3/\x.all AV.one=true)(hb:xs.length<=9223372036854775807)(hn:n=xs.length):RL F st (.lst n xs.flatten ex) xs:=⟨h,hb,.inr (.inl ⟨ex,by rw[hn]⟩)⟩
theorem RL.sl(F:Nat->Prop)(st:St){nl ex:Bool}{xs:List (List AV)}(h:∀ x∈xs,x.length=3/\x.all AV.one=true)(hb:xs.length<=9223372036854775807)(hn:nl=true->xs=[]):RL F st (V7 nl ex xs) xs:=by
 cases nl with
 | true=>rw[hn rfl];exact RL.nil F st
 | false=>exact RL.lst F st h hb rfl
theorem RL.one{F:Nat->Prop}{st:St}{sl:AV}{xs:List (List AV)}(h:RL F st sl xs):AV.one sl=true:=by
 rcases h.2.2 with⟨rfl,_⟩|⟨ex,rfl⟩|⟨id,cap,lo,rfl,_⟩<;>rfl
theorem RL.len{F:Nat->Prop}{st:St}{sl:AV}{xs:List (List AV)}(h:RL F st sl xs)(af:St):(bif VD 0 sl then Wm af sl else none)=some (ZI xs.length):=by
 rcases h.2.2 with⟨rfl,rfl⟩|⟨ex,rfl⟩|⟨id,cap,lo,rfl,_⟩<;>rfl
theorem RL.at{F:Nat->Prop}{st:St}{sl:AV}{xs:List (List AV)}(h:RL F st sl xs){k:Nat}{x:List AV}(hx:xs[k]?=some x):
  ∃ p,VC 3 sl (ZI k)=some p/\∀ af,Vs F st af->Vf true 3 af p=some (.agg x):=by
 have hk:=(Qt.1 hx).1
 have h3:=fun x hx=>(h.1 x hx).1
 rcases h.2.2 with⟨rfl,rfl⟩|⟨ex,rfl⟩|⟨id,cap,lo,rfl,hi,hg⟩
 ·simp at hk
 ·exact⟨_,iaddr_sl (nl:=false) (ex:=ex) h3 (fun h=>by cases h) hx,fun af _=>load_sl h3 hx af⟩
 ·refine⟨.ptr id (0+k*3),?_,fun af cf=>?_⟩
  ·simp only[VC]
   rw[Qo (show k+1<=xs.length from hk)]
   rfl
  ·simp only[Vf,Wy,cf.get hi hg,Qg,Q7,flat_at h3 hx,Ja,Qi]
   rw[h3 x (Qr hx)]
   rfl
theorem flat_len{xs:List (List AV)}(h:∀ x∈xs,x.length=3/\x.all AV.one=true):xs.flatten.length=xs.length*3:=by
 induction xs with
 | nil=>rfl
 | cons y ys ih=>
  simp only[Xc,QJ,QC]
  rw[ih fun x hx=>h x (by simp[hx]),(h y (by simp)).1];omega
mutual
def We(F:Nat->Prop)(st:St):Tm->List AV->Prop
 | .mk k n _ _ l,cs=>∃ sl xs,cs=[.int .i64 k,.int .i64 n,sl]/\RL F st sl xs/\Vy F st l xs
def Vy(F:Nat->Prop)(st:St):List Tm->List (List AV)->Prop
 | [],xs=>xs=[]
 | t::l,xs=>∃ x ys,xs=x::ys/\We F st t x/\Vy F st l ys
end
mutual
def VU(F:Nat->Prop)(st:St):Dv->List AV->Prop
 | .mk r _ _ vs _ _ l,cs=>∃ s1 x1 s2 x2,cs=[.int .i64 r,s1,s2]/\RL F st s1 x1/\Vy F st vs x1/\RL F st s2 x2/\VI F st l x2
def VI(F:Nat->Prop)(st:St):List Dv->List (List AV)->Prop
 | [],xs=>xs=[]
 | t::l,xs=>∃ x ys,xs=x::ys/\VU F st t x/\VI F st l ys
end
mutual
theorem We.mono{F G:Nat->Prop}{s a:St}(k:Vs F s a)(g:∀ i,F i->G i):∀(t:Tm) (cs:List AV),We F s t cs->We G a t cs
 | .mk _ _ _ _ l,cs,h=>by
  simp only[We] at h ⊢
  obtain⟨sl,xs,h1,h2,h3⟩:=h
  exact⟨sl,xs,h1,h2.mono k g,Vy.mono k g l xs h3⟩
theorem Vy.mono{F G:Nat->Prop}{s a:St}(k:Vs F s a)(g:∀ i,F i->G i):∀(l:List Tm) (xs:List (List AV)),Vy F s l xs->Vy G a l xs
 | [],xs,h=>by simp only[Vy] at h ⊢;exact h
 | t::l,xs,h=>by
  simp only[Vy] at h ⊢
  obtain⟨x,ys,h1,h2,h3⟩:=h
  exact⟨x,ys,h1,We.mono k g t x h2,Vy.mono k g l ys h3⟩
end
mutual
theorem VU.mono{F G:Nat->Prop}{s a:St}(k:Vs F s a)(g:∀ i,F i->G i):∀(t:Dv) (cs:List AV),VU F s t cs->VU G a t cs
 | .mk _ _ _ vs _ _ l,cs,h=>by
  simp only[VU] at h ⊢
  obtain⟨s1,x1,s2,x2,h1,h2,h3,h4,h5⟩:=h
  exact⟨s1,x1,s2,x2,h1,h2.mono k g,Vy.mono k g vs x1 h3,h4.mono k g,VI.mono k g l x2 h5⟩
theorem VI.mono{F G:Nat->Prop}{s a:St}(k:Vs F s a)(g:∀ i,F i->G i):∀(l:List Dv) (xs:List (List AV)),VI F s l xs->VI G a l xs
 | [],xs,h=>by simp only[VI] at h ⊢;exact h
 | t::l,xs,h=>by
  simp only[VI] at h ⊢
  obtain⟨x,ys,h1,h2,h3⟩:=h
  exact⟨x,ys,h1,VU.mono k g t x h2,VI.mono k g l ys h3⟩
end
theorem We.cells3{F:Nat->Prop}{st:St}{t:Tm}{cs:List AV}(h:We F st t cs):cs.length=3/\cs.all AV.one=true:=by
 cases t with
 | mk k n nl ex l=>
  simp only[We] at h
  obtain⟨sl,xs,rfl,h2,_⟩:=h
  refine⟨rfl,?_⟩
  have:=h2.one
  show (true&&(true&&(AV.one sl&&true)))=true
  rw[this];rfl
theorem VU.cells3{F:Nat->Prop}{st:St}{t:Dv}{cs:List AV}(h:VU F st t cs):cs.length=3/\cs.all AV.one=true:=by
 cases t with
 | mk r nv ev vs nl ex l=>
  simp only[VU] at h
  obtain⟨s1,x1,s2,x2,rfl,h2,_,h4,_⟩:=h
  refine⟨rfl,?_⟩
  show (true&&(AV.one s1&&(AV.one s2&&true)))=true
  rw[h2.one,h4.one];rfl
theorem Vy.len{F:Nat->Prop}{st:St}:∀{l:List Tm} {xs:List (List AV)},Vy F st l xs->xs.length=l.length
 | [],xs,h=>by simp only[Vy] at h;rw[h];rfl
 | t::l,xs,h=>by
  simp only[Vy] at h
  obtain⟨x,ys,rfl,_,h3⟩:=h
  simp only[QC,Vy.len h3]
theorem VI.len{F:Nat->Prop}{st:St}:∀{l:List Dv} {xs:List (List AV)},VI F st l xs->xs.length=l.length
 | [],xs,h=>by simp only[VI] at h;rw[h];rfl
 | t::l,xs,h=>by
  simp only[VI] at h
  obtain⟨x,ys,rfl,_,h3⟩:=h
  simp only[QC,VI.len h3]
theorem Vy.at{F:Nat->Prop}{st:St}:∀{l:List Tm} {xs:List (List AV)},Vy F st l xs->∀{k:Nat} {t:Tm},l[k]?=some t->∃ x,xs[k]?=some x/\We F st t x
 | [],xs,_,k,t,ht=>by simp at ht
 | u::l,xs,h,k,t,ht=>by
  simp only[Vy] at h
  obtain⟨x,ys,rfl,h2,h3⟩:=h
  cases k with
  | zero=>simp only[Q0,Qa] at ht;subst ht;exact⟨x,rfl,h2⟩
  | succ k=>simp only[QE] at ht;exact h3.at ht
theorem VI.at{F:Nat->Prop}{st:St}:∀{l:List Dv} {xs:List (List AV)},VI F st l xs->∀{k:Nat} {t:Dv},l[k]?=some t->∃ x,xs[k]?=some x/\VU F st t x
 | [],xs,_,k,t,ht=>by simp at ht
 | u::l,xs,h,k,t,ht=>by
  simp only[VI] at h
  obtain⟨x,ys,rfl,h2,h3⟩:=h
  cases k with
  | zero=>simp only[Q0,Qa] at ht;subst ht;exact⟨x,rfl,h2⟩
  | succ k=>simp only[QE] at ht;exact h3.at ht
theorem Vy.snoc{F:Nat->Prop}{st:St}:∀{l:List Tm} {xs:List (List AV)} {t:Tm} {x:List AV},Vy F st l xs->We F st t x->Vy F st (l++[t]) (xs++[x])
 | [],xs,t,x,h,k=>by simp only[Vy] at h;subst h;simp only[QR,Vy];exact⟨x,[],rfl,k,rfl⟩
 | u::l,xs,t,x,h,k=>by
  simp only[Vy] at h
  obtain⟨y,ys,rfl,h2,h3⟩:=h
  simp only[QP,Vy]
  exact⟨y,ys++[x],rfl,h2,h3.snoc k⟩
theorem VI.snoc{F:Nat->Prop}{st:St}:∀{l:List Dv} {xs:List (List AV)} {t:Dv} {x:List AV},VI F st l xs->VU F st t x->VI F st (l++[t]) (xs++[x])
 | [],xs,t,x,h,k=>by simp only[VI] at h;subst h;simp only[QR,VI];exact⟨x,[],rfl,k,rfl⟩
 | u::l,xs,t,x,h,k=>by
  simp only[VI] at h
  obtain⟨y,ys,rfl,h2,h3⟩:=h
  simp only[QP,VI]
  exact⟨y,ys++[x],rfl,h2,h3.snoc k⟩
theorem cellsL_nil{nl:Bool}{l:List Tm}(h:nl=true->l=[]):nl=true->Tm.cellsL l=[]:=fun k=>by rw[h k];rfl
mutual
theorem We.line(F:Nat->Prop)(st:St):∀(t:Tm),t.ok->We F st t t.cells
 | .mk k n nl ex l,h=>by
  simp only[Tm.ok] at h
  simp only[We,Tm.cells]
  exact⟨_,_,rfl,RL.sl F st (Tm.cellsL3 l) (by rw[Tm.cellsL_len];exact h.2.1) (cellsL_nil h.1),Vy.line F st l h.2.2⟩
theorem Vy.line(F:Nat->Prop)(st:St):∀(l:List Tm),Tm.okL l->Vy F st l (Tm.cellsL l)
 | [],_=>by simp only[Vy,Tm.cellsL]
 | t::l,h=>by
  simp only[Tm.okL] at h
  simp only[Vy,Tm.cellsL]
  exact⟨_,_,rfl,We.line F st t h.1,Vy.line F st l h.2⟩
end
mutual
theorem VU.line(F:Nat->Prop)(st:St):∀(t:Dv),t.ok->VU F st t t.cells
 | .mk r nv ev vs nl ex l,h=>by
  simp only[Dv.ok] at h
  simp only[VU,Dv.cells]
  exact⟨_,_,_,_,rfl,RL.sl F st (Tm.cellsL3 vs) (by rw[Tm.cellsL_len];exact h.2.1) (cellsL_nil h.1),Vy.line F st vs h.2.2.1,
   RL.sl F st (Dv.cellsL3 l) (by rw[Dv.cellsL_len];exact h.2.2.2.2.1) (fun k=>by rw[h.2.2.2.1 k];rfl),VI.line F st l h.2.2.2.2.2⟩
theorem VI.line(F:Nat->Prop)(st:St):∀(l:List Dv),Dv.okL l->VI F st l (Dv.cellsL l)
 | [],_=>by simp only[VI,Dv.cellsL]
 | t::l,h=>by
  simp only[Dv.okL] at h
  simp only[VI,Dv.cellsL]
  exact⟨_,_,rfl,VU.line F st t h.1,VI.line F st l h.2⟩
end
theorem next_el(st:St){x zs:List AV}(hz:zs.length=3)(hx:x.length=3/\x.all AV.one=true):
  ∃ ai,Vt 3 (st.new (.row zs)) (.ptr st.next 0) (.agg x)=some ai/\Vd st ai/\ai.get st.next=some (.row x)/\ai.next=st.next+1:=
 ⟨_,Se hz hx.1 hx.2,(Vd.refl st).newput _ _,by rw[St.get_put,Qm rfl],rfl⟩
open Nat renaming reduceEqDiff -> rQ, reduceAdd -> rA
section
variable {Γ:Cg} {dst:Option Nat} {gd:Option (Nat × Bool)} {ms:List Vc} {fr:Fr} {st:St}
theorem nd_max{a b}:Vj Γ (⟨dst,(Rz.max a b),gd⟩::ms) fr st=RU Γ dst gd ms fr st (Rz.max a b):=VE rfl
theorem Jy{a b c}:Vj Γ (⟨dst,(Rz.mkfn a b c),gd⟩::ms) fr st=RU Γ dst gd ms fr st (Rz.mkfn a b c):=VE rfl
theorem Kx{a b c d e}:Vj Γ (⟨dst,(Rz.slice a b c d e),gd⟩::ms) fr st=RU Γ dst gd ms fr st (Rz.slice a b c d e):=VE rfl
theorem TM{a b c d}:Vj Γ (⟨dst,(Rz.aaddr a b c d),gd⟩::ms) fr st=RU Γ dst gd ms fr st (Rz.aaddr a b c d):=VE rfl
end
theorem kloop{Γ:RC}{Y:Vi}{m N c i n i2:Nat}{ro:Option Nat}{B:Vn}{L:List Nat}{av:Fr}{Q:Nat->Fr->St->Prop}{Post:Fr->St->Prop}
  (hc:c∉i::L) (hi:i∉L) (wJ:i2∉L) (hn:n∈L) (g0:av.get n=some (ZI N)) (hN:N<=9223372036854775807)
  (hQ:∀ k fr st s v,(s=c\/s=i\/s=i2)->Q k fr st->Q k (fr.set s v) st)
  (hB:∀ k fr st,k < N->Kp L av fr->fr.get i=some (ZI k)->Q k fr st ->
   (∃ FR af,Vh Γ Y m B ro fr st=.norm FR af/\Kp (i::L) fr FR/\Q (k+1) FR af)\/(∃ FR af,Vh Γ Y m B ro fr st=.ret FR af/\Post FR af)):
  ∀(j k:Nat) (fr:Fr) (st:St) (fuel:Nat),k+j=N->j < fuel->Kp L av fr->fr.get i=some (ZI k)->Q k fr st ->
   (∃ FR af,Vx (Vh Γ Y m (lb c i n i2 B) ro) fuel fr st=.exit 0 FR af/\Kp L av FR/\Q N FR af)\/(∃ FR af,Vx (Vh Γ Y m (lb c i n i2 B) ro) fuel fr st=.ret FR af/\Post FR af)
 | _,_,_,_,0,_,hf,_,_,_=>by omega
 | 0,k,fr,st,fuel+1,hk,_,hp,gi,hq=>by
  have hl:Vr false .lss (ZI k) (ZI N)=some (.bool false):=by rw[Wt];simp;omega
  have gn:=hp.at hn g0
  have aQ:k=N:=by omega
  refine .inl ⟨fr.set c (some (.bool false)),st,?_,Kp.set (fun h=>hc (XD _ h)) hp,aQ ▸ hQ _ _ _ _ _ (.inl rfl) hq⟩
  rw[Vx]
  simp only[Rw,rQ,rA,lb,gi,gn,hl]
 | j+1,k,fr,st,fuel+1,hk,hf,hp,gi,hq=>by
  have hl:Vr false .lss (ZI k) (ZI N)=some (.bool true):=by rw[Wt];simp;omega
  have gn:=hp.at hn g0
  have aU:=WC (i:=k) (by omega)
  have R5:Nat.beq 1 1=true:=rfl
  have wK:i≠c:=fun e=>hc (by rw[e];exact Zl)
  have mS:Kp L av (fr.set c (some (.bool true))):=Kp.set (fun h=>hc (XD _ h)) hp
  rcases hB k (fr.set c (some (.bool true))) st (by omega) mS (by rw[Fr.get_set,Qe wK];exact gi) (hQ _ _ _ _ _ (.inl rfl) hq) with⟨FR,af,hb,aI,gR⟩|⟨FR,af,hb,lW⟩
  ·have rz:FR.get i=some (ZI k):=aI.at Zl (by rw[Fr.get_set,Qe wK];exact gi)
   have tP:Kp L av FR:=mS.trans ⟨aI.1,fun x hx=>aI.2 x (XD _ hx)⟩
   have ax:Vh Γ Y m (lb c i n i2 B) ro fr st=.norm ((FR.set i2 (some (ZI ((k+1))))).set i (some (ZI ((k+1))))) af:=by
    simp only[Rw,rQ,rA,lb,gi,gn,hl,hb,rz,aU]
   rcases kloop hc hi wJ hn g0 hN hQ hB j (k+1) ((FR.set i2 (some (ZI ((k+1))))).set i (some (ZI ((k+1))))) af fuel (by omega) (by omega)
    (Kp.set hi (Kp.set wJ tP)) (by rw[Fr.get_set,Qm rfl]) (hQ _ _ _ _ _ (.inr (.inl rfl)) (hQ _ _ _ _ _ (.inr (.inr rfl)) gR)) with⟨F2,s2,h,h2⟩|⟨F2,s2,h,h2⟩
   ·refine .inl ⟨F2,s2,?_,h2⟩
    rw[Vx,ax]
    exact h
   ·refine .inr ⟨F2,s2,?_,h2⟩
    rw[Vx,ax]
    exact h
  ·refine .inr ⟨FR,af,?_,lW⟩
   rw[Vx]
   simp only[Rw,rQ,rA,lb,gi,gn,hl,hb]
theorem Ve{f n:Nat}{mf:Vm}{Y:Vi}{args:List AV}{st af:St}{fr:Fr}{v:AV}(ht:Ry f=some mf)(aR:args.length.ble mf.N=true)
  (h:ac n Y mf.code none (Vo 0 args Fr.nil) st=.ret fr af\/ac n Y mf.code none (Vo 0 args Fr.nil) st=.norm fr af) (hd:fr.ds=[]) (hr:Vg fr af mf.res=.ret v af):
  R (n+1) Y f args st=.ret v af:=by
 unfold R
 rw[Js ht]
 unfold WK
 rw[aR]
 rcases h with h | h<;>simp only[Qi,h,WY,hd,VO,hr]
theorem Kp.sub{l l':List Nat}{a b:Fr}(h:Kp l a b)(hs:∀ x∈l',x∈l):Kp l' a b:=⟨h.1,fun k hk=>h.2 k (hs k hk)⟩
theorem Kp.g{L:List Nat}{a b:Fr}(h:Kp L a b)(k:Nat){v:AV}(g:a.get k=some v)(m:k∈L:=by decide):b.get k=some v:=h.at m g
theorem Kp.s{L:List Nat}{a b:Fr}{k:Nat}{v:Option AV}(h:Kp L a b)(m:k∉L:=by decide):Kp L a (b.set k v):=Kp.set m h
theorem gh{b:Fr}{k:Nat}{v:Option AV}:(b.set k v).get k=v:=by rw[Fr.get_set,Qm rfl]
theorem gn{b:Fr}{k j:Nat}{v x:Option AV}(h:b.get j=x)(m:k≠j:=by decide):(b.set k v).get j=x:=by rw[Fr.get_set,Qe (fun e=>m e.symm)];exact h
theorem WR{α:Type}{l:List α}{k:Nat}(h:k < l.length):∃ x,l[k]?=some x/\l.drop k=x::l.drop (k+1):=⟨l[k],Qn h,XO h⟩
theorem ld0{st:St}{id:Nat}{x:AV}{l:List AV}(h:st.get id=some (.row (x::l))):Vf false 1 st (.ptr id 0)=some x:=by
 simp only[Vf,Wy,h,Qg,Xw];rfl
theorem ld1{st:St}{id:Nat}{x y:AV}{l:List AV}(h:st.get id=some (.row (x::y::l))):Vf false 1 st (.ptr id 1)=some y:=by
 simp only[Vf,Wy,h,Qg];rfl
theorem ld2{st:St}{id:Nat}{x y z:AV}{l:List AV}(h:st.get id=some (.row (x::y::z::l))):Vf false 1 st (.ptr id 2)=some z:=by
 simp only[Vf,Wy,h,Qg];rfl
theorem st20{st:St}{id:Nat}{x y:AV}{k:IntKind}{v:Int}(h:st.get id=some (.row [x,y])):Vt 1 st (.ptr id 0) (.int k v)=some (st.put id (.row [.int k v,y])):=by
 simp only[Vt,h];rfl
theorem st21{st:St}{id:Nat}{x y:AV}{k:IntKind}{v:Int}(h:st.get id=some (.row [x,y])):Vt 1 st (.ptr id 1) (.int k v)=some (st.put id (.row [x,.int k v])):=by
 simp only[Vt,h];rfl
noncomputable def Tc:Vn:=(ZQ [ZP 29 3 25 27,ZK 30 3 29,ZO 7 (.alloc [Z0,Z0,.nilsl]),ZS 3 7 30]
 (.seq (ZQ [ZV 31 0,ZO 32 (.nilchk (.t 31)),ZA 33 0 32,ZL 34 33,ZO 35 (.bin false .gtr (.t 34) (ZC 2000)),ZV 36 35,ZG 37 (.mv (.t 0)) 36 false,ZG 38 (.nilchk (.t 37)) 36 false,ZG 39 (.faddr 1 (.t 38)) 36 false,ZG 40 (.load false 1 (.t 39)) 36 false,ZG 41 (.bin false .gtr (.t 40) (ZC 200)) 36 false,ZO 42 (.pick (.t 36) (ZB true) (.t 41))]
 (.cond (.t 42)
 .ret
 .skip))
 (.region [ZV 43 0,ZK 44 3 7,ZV 45 2,ZO 46 (.bin false .add (.t 45) (ZC 1)),ZX 47 216 [(.t 43),(.t 44),(.t 46)]])))
noncomputable def kf162:Vm:=⟨49,(ZQ [ZO 4 (.box true (.t 1))]
 (ZQ [ZV 8 0,ZO 9 (.nilchk (.t 8)),ZA 10 0 9,ZL 11 10,ZO 12 (.bin false .add (.t 11) (ZC 1)),ZO 13 (.nilchk (.t 8)),ZA 14 0 13,ZS 1 14 12]
 (ZQ [ZV 15 0,ZV 16 0,ZO 17 (.nilchk (.t 16)),ZA 18 1 17,ZL 19 18,ZV 20 2,ZO 21 (.max (.t 19) [(.t 20)]),ZO 22 (.nilchk (.t 15)),ZA 23 1 22,ZS 1 23 21]
 (ZQ [ZA 24 2 4,ZL 25 24,ZN 26 25,ZM 27 (ZC 0)]
 (.block 0 (.loop (lb 28 27 26 48 Tc))))))),[]⟩
theorem t216:Ry 216=some kf162:=by kernel_rfl
theorem count_run(t:Tm):∀(n:Nat) (Y:Vi) (F:Nat->Prop) (st:St) (id:Nat) (a b d:Int) (cs:List AV),We F st t cs->(∀ i,F i->i < st.next)->¬ F id->id < st.next ->
  st.get id=some (.row [.int .i64 a,.int .i64 b])->t.fz<=n ->
  ∃ af,R n Y 216 [.ptr id 0,.agg cs,.int .i64 d] st=.ret (.tuple []) af/\VZ id st af/\af.get id=some (.row [.int .i64 (WM t d a b).1,.int .i64 (WM t d a b).2]):=by
 induction hs:t.fz using Nat.strongRecOn generalizing t with
 | _ s ih=>
 intro n Y F st id a b d cs hr hF aZ am hg hn
 cases t with
 | mk k0 n0 nl ex l=>
 simp only[We] at hr
 obtain⟨sl,xs,rfl,aD,bg⟩:=hr
 simp only[Tm.fz] at hs
 obtain⟨m,rfl⟩:∃ m,n=m+1:=⟨n - 1,by omega⟩
 -- the start
 have nc:∀ x,Jd (.ptr id x)=some (.ptr id x):=fun _=>rfl
 have fa:∀ o,WG o (.ptr id 0)=some (.ptr id (0+o)):=fun _=>rfl
 have e1:Vr false .add (.int .i64 a) (ZI 1)=some (.int .i64 (aw a 1)):=rfl
 have s1:=st20 (k:=.i64) (v:=aw a 1) hg
 have g1:(st.put id (.row [.int .i64 (aw a 1),.int .i64 b])).get id=some (.row [.int .i64 (aw a 1),.int .i64 b]):=by rw[St.get_put,Qm rfl]
 have e2:foldA maxA (.int .i64 b) [.int .i64 d]=some (.int .i64 (mx b d)):=rfl
 have s2:=st21 (k:=.i64) (v:=mx b d) g1
 obtain⟨ai,bU⟩:∃ ai,ai=(st.put id (.row [.int .i64 (aw a 1),.int .i64 b])).put id (.row [.int .i64 (aw a 1),.int .i64 (mx b d)]):=⟨_,rfl⟩
 have k1:VZ id st ai:=by rw[bU];exact(VZ.put _ _ _).trans (VZ.put _ _ _)
 have g2:ai.get id=some (.row [.int .i64 (aw a 1),.int .i64 (mx b d)]):=by rw[bU,St.get_put,Qm rfl]
 rw[<-bU] at s2
 have yR:WG 2 (.fptr [.int .i64 k0,.int .i64 n0,sl] 0)=some (.fptr [.int .i64 k0,.int .i64 n0,sl] 2):=rfl
 have lf:Vf false 1 ai (.fptr [.int .i64 k0,.int .i64 n0,sl] 2)=some sl:=rfl
 have al:=aD.len ai
 obtain⟨av,cp,z0,z2,yS,z26,yT,zd⟩:∃ av,(∀ X,ac m Y (ZQ [ZO 4 (.box true (.t 1))] ( .seq (.region [ZV 8 0,ZO 9 (.nilchk (.t 8)),ZA 10 0 9,ZL 11 10,ZO 12 (.bin false .add (.t 11) (ZC 1)),ZO 13 (.nilchk (.t 8)),ZA 14 0 13,ZS 1 14 12]) ( .seq (.region [ZV 15 0,ZV 16 0,ZO 17 (.nilchk (.t 16)),ZA 18 1 17,ZL 19 18,ZV 20 2,ZO 21 (.max (.t 19) [(.t 20)]),ZO 22 (.nilchk (.t 15)),ZA 23 1 22,ZS 1 23 21]) ( .seq (.region [ZA 24 2 4,ZL 25 24,ZN 26 25,ZM 27 (ZC 0)]) (X))))) none (Vo 0 [.ptr id 0,.agg [.int .i64 k0,.int .i64 n0,sl],.int .i64 d] Fr.nil) st=ac m Y X none av ai)
   /\ av.get 0=some (.ptr id 0)/\av.get 2=some (.int .i64 d)/\av.get 25=some sl/\av.get 26=some (ZI xs.length)/\av.get 27=some Z0/\av.ds=[]:=by
  refine⟨?f0,?f1,?f2,?f3,?f4,?f5,?f6,?f7⟩
  case f1=>
   intro X
   simp only[Rw,rQ,rA,nd_max,nc,fa,ld0 hg,e1,s1,ld1 g1,e2,s2,yR,lf,al]
   rfl
  case f2=>simp only[Vo,Fr.get_set,rA,rQ,↓reduceIte]
  case f3=>simp only[Vo,Fr.get_set,rA,rQ,↓reduceIte]
  case f4=>simp only[Fr.get_set,rQ,↓reduceIte]
  case f5=>simp only[Fr.get_set,rQ,↓reduceIte]
  case f6=>simp only[Fr.get_set,↓reduceIte]
  case f7=>rfl
 have bJ:=bg.len
 have jV:∀ i,F i->i < ai.next:=fun i hi=>Qz (hF i hi) k1.1
 have Rx:Nat.beq 0 0=true:=rfl
 have hc:WM (.mk k0 n0 nl ex l) d a b=Yw l d (aw a 1) (mx b d):=by unfold WM;rfl
 rw[hc]
 have hB:∀ k fr s,k < xs.length->Kp [0,2,25,26] av fr->fr.get 27=some (ZI k) ->
   (VZ id st s/\∃ a1 b1,s.get id=some (.row [.int .i64 a1,.int .i64 b1])/\Yw (l.drop k) d a1 b1=Yw l d (aw a 1) (mx b d)) ->
   (∃ FR s',ac m Y Tc none fr s=.norm FR s'/\Kp [27,0,2,25,26] fr FR/\(VZ id st s'/\∃ a1 b1,s'.get id=some (.row [.int .i64 a1,.int .i64 b1])/\Yw (l.drop (k+1)) d a1 b1=Yw l d (aw a 1) (mx b d))) ∨
   (∃ FR s',ac m Y Tc none fr s=.ret FR s'/\(FR.ds=[]/\VZ id st s'/\s'.get id=some (.row [.int .i64 (Yw l d (aw a 1) (mx b d)).1,.int .i64 (Yw l d (aw a 1) (mx b d)).2]))):=by
  intro k fr s hk aI tQ ⟨bi,a1,b1,yU,jW⟩
  obtain⟨t,ht,bH⟩:=WR (l:=l) (k:=k) (by omega)
  obtain⟨x,hx,bZ⟩:=bg.at ht
  have aO:Vs F st s:=Vs.of1 bi hF aZ
  obtain⟨p,ia,ld⟩:=aD.at hx
  have ld:=ld s aO
  obtain⟨s1,bj,ks,go,fT⟩:=next_el s (zs:=[Z0,Z0,.nilsl]) rfl bZ.cells3
  have qb:id < s.next:=Qz am bi.1
  have jm:=ks.get qb yU
  have q1:=aI.at (k:=0) (by decide) z0
  have q2:=aI.at (k:=2) (by decide) z2
  have q3:=aI.at (k:=25) (by decide) yS
  have nc:∀ x,Jd (.ptr id x)=some (.ptr id x):=fun _=>rfl
  have oS:WG 0 (.ptr id 0)=some (.ptr id 0):=rfl
  have rB:WG 1 (.ptr id 0)=some (.ptr id 1):=rfl
  have l0:=ld0 jm
  have l1:=ld1 jm
  have lx:=load_row go bZ.cells3.1
  have ad:Vr false .add (.int .i64 d) (ZI 1)=some (.int .i64 (aw d 1)):=rfl
  rw[bH,Sg] at jW
  by_cases ca:a1 > 2000
  ·have gt:Vr false .gtr (.int .i64 a1) (ZI 2000)=some (.bool true):=by
    show some (AV.bool (decide (a1 > 2000)))=_
    rw[Qs ca]
   rw[Qm ca] at jW
   refine .inr ⟨?r0,s1,?r1,?r2,bi.trans (VZ.of ks),?r3⟩
   case r1=>
    simp only[Rw,rQ,rA,Tc,q3,tQ,ia,ld,bj,q1,nc,oS,l0,gt,Qc,Qb]
    rfl
   case r2=>exact aI.1.trans zd
   case r3=>rw[jm,<-jW]
  ·have gt:Vr false .gtr (.int .i64 a1) (ZI 2000)=some (.bool false):=by
    show some (AV.bool (decide (a1 > 2000)))=_
    rw[Qp ca]
   rw[Qe ca] at jW
   by_cases cb:b1 > 200
   ·have qc:Vr false .gtr (.int .i64 b1) (ZI 200)=some (.bool true):=by
     show some (AV.bool (decide (b1 > 200)))=_
     rw[Qs cb]
    rw[Qm cb] at jW
    refine .inr ⟨?u0,s1,?u1,?u2,bi.trans (VZ.of ks),?u3⟩
    case u1=>
     simp only[Rw,rQ,rA,Tc,q3,tQ,ia,ld,bj,q1,nc,oS,rB,l0,l1,gt,qc,Qc,Qb]
     rfl
    case u2=>exact aI.1.trans zd
    case u3=>rw[jm,<-jW]
   ·have qc:Vr false .gtr (.int .i64 b1) (ZI 200)=some (.bool false):=by
     show some (AV.bool (decide (b1 > 200)))=_
     rw[Qp cb]
    rw[Qe cb] at jW
    have bv:=Tm.fzL_mem (Qr ht)
    have cr:Vs F st s1:=aO.trans (Vs.of ks fun i hi=>Qz (hF i hi) bi.1)
    obtain⟨s2,ay,jX,tR⟩:=ih t.fz (by omega) t rfl m Y F s1 id a1 b1 (aw d 1) x (bZ.mono cr fun _ h=>h) (fun i hi=>Qz (hF i hi) (QY bi.1 ks.1)) aZ (Qz qb ks.1) jm (by omega)
    have aC:((gT m).cg Y).fn 216 [.ptr id 0,.agg x,.int .i64 (aw d 1)] s1=.ret (.tuple []) s2:=ay
    refine .inl ⟨?v0,s2,?v1,?v2,(bi.trans (VZ.of ks)).trans jX,_,_,tR,jW⟩
    case v1=>
     simp only[Rw,rQ,rA,Tc,q3,tQ,ia,ld,bj,q1,q2,nc,oS,rB,l0,l1,gt,qc,lx,ad,aC,Qc,Qb]
     rfl
    case v2=>repeat (first | exact Kp.refl | refine Kp.set (by decide) ?_)
 rcases kloop (Γ:=gT m) (Y:=Y) (m:=m) (N:=xs.length) (c:=28) (i:=27) (n:=26) (i2:=48) (ro:=none) (L:=[0,2,25,26]) (av:=av) (by decide) (by decide) (by decide) (by decide) z26 aD.2.1
  (Q:=fun k _ s=>VZ id st s/\∃ a1 b1,s.get id=some (.row [.int .i64 a1,.int .i64 b1])/\Yw (l.drop k) d a1 b1=Yw l d (aw a 1) (mx b d)) (fun _ _ _ _ _ _ h=>h) hB xs.length 0 av ai m (by omega) (by omega) Kp.refl yT ⟨k1,_,_,g2,rfl⟩
  with⟨FR,s',h1,h2,h3,a2,b2,h4,h5⟩|⟨FR,s',h1,h2,h3,h4⟩
 ·rw[bJ,Xr,cntL_nil] at h5
  refine⟨s',Ve (mf:=kf162) (fr:=FR) t216 rfl (.inr ?w1) (h2.1.trans zd) rfl,h3,by rw[h4,<-h5]⟩
  case w1=>
   refine (cp _).trans ?_
   simp only[Rw,rQ,rA,h1,Rx]
 ·refine⟨s',Ve (mf:=kf162) (fr:=FR) t216 rfl (.inl ?w2) h2 rfl,h3,h4⟩
  case w2=>
   refine (cp _).trans ?_
   simp only[Rw,rQ,rA,h1,Rx]
noncomputable def bf136_0:Vn:=(ZQ [ZV 10 8,ZV 5 10]
 (ZQ [ZV 11 1,ZV 12 0,ZV 13 5,ZP 14 3 12 13,ZK 15 3 14,ZO 16 (.call (.t 11) [(.t 15)])]
 (.cond (.t 16)
 (ZR [ZV 17 5,ZV 4 17])
 .skip)))
noncomputable def kf136:Vm:=⟨19,(ZQ [ZM 4 (ZC 0)]
 (.seq (ZQ [ZV 6 0,ZN 7 6,ZM 8 (ZC 0)]
 (.block 0 (.loop (lb 9 8 7 18 bf136_0))))
 (ZR [ZM 4 (.c (.int .i64 (.negSucc 0)))]))),[.t 4]⟩
theorem t158:Ry 158=some kf136:=by kernel_rfl
theorem t269:Ry 269=some kf136:=by kernel_rfl
noncomputable def kf108:Vm:=⟨9,(ZQ [ZM 4 (ZB false)]
 (ZR [ZV 5 0,ZV 6 1,ZX 7 158 [(.t 5),(.t 6)],ZO 8 (.bin false .geq (.t 7) (ZC 0)),ZV 4 8])),[.t 4]⟩
theorem t109:Ry 109=some kf108:=by kernel_rfl
noncomputable def kf111:Vm:=⟨9,(ZQ [ZM 4 (ZB false)]
 (ZR [ZV 5 0,ZV 6 1,ZX 7 269 [(.t 5),(.t 6)],ZO 8 (.bin false .geq (.t 7) (ZC 0)),ZV 4 8])),[.t 4]⟩
theorem t221:Ry 221=some kf111:=by kernel_rfl
theorem idx_run{f q n:Nat}{Y:Vi}{F:Nat->Prop}{aB:St}{sl:AV}{xs:List (List AV)}{caps:List AV}{R3:Nat->St->Prop}{Fin:St->Prop}(hf:Ry f=some kf136)(aD:RL F aB sl xs)
  (hI:∀ k s,R3 k s->Vs F aB s)
  (dZ:∀ k x s,xs[k]?=some x->R3 k s->∃ b s',R n Y q (.agg x::caps) s=.ret (.bool b) s'/\(b=true->Fin s')/\(b=false->R3 (k+1) s'))
  (st:St) (h0:R3 0 st) (hn:xs.length < n):
  ∃ r s',R (n+1) Y f [sl,.func (.func q) [] caps] st=.ret (.int .i64 r) s'/\((r < 0/\R3 xs.length s')\/(0<=r/\Fin s')):=by
 have al:=aD.len st
 obtain⟨av,cp,z0,z1,z7,z8,zd⟩:∃ av,(∀ L T,ac n Y (ZQ [ZM 4 (ZC 0)] (.seq (ZQ [ZV 6 0,ZN 7 6,ZM 8 (ZC 0)] L) T)) none (Vo 0 [sl,.func (.func q) [] caps] Fr.nil) st=match ac n Y L none av st with
    | .norm fr st=>ac n Y T none fr st
    | r=>r)
   /\ av.get 0=some sl/\av.get 1=some (.func (.func q) [] caps)/\av.get 7=some (ZI xs.length)/\av.get 8=some Z0/\av.ds=[]:=by
  refine⟨?f0,?f1,?f2,?f3,?f4,?f5,?f7⟩
  case f1=>
   intro L T
   simp only[Rw,rQ,rA,al]
   rfl
  case f2=>simp only[Vo,Fr.get_set,rA,rQ,↓reduceIte]
  case f3=>simp only[Vo,Fr.get_set,rA,rQ,↓reduceIte]
  case f4=>simp only[Fr.get_set,rQ,↓reduceIte]
  case f5=>simp only[Fr.get_set,↓reduceIte]
  case f7=>rfl
 have Rx:Nat.beq 0 0=true:=rfl
 have hB:∀ k fr s,k < xs.length->Kp [0,1,7] av fr->fr.get 8=some (ZI k)->R3 k s ->
   (∃ FR s',ac n Y bf136_0 none fr s=.norm FR s'/\Kp [8,0,1,7] fr FR/\R3 (k+1) s') ∨
   (∃ FR s',ac n Y bf136_0 none fr s=.ret FR s'/\(FR.ds=[]/\(∃ j:Nat,FR.get 4=some (ZI j))/\Fin s')):=by
  intro k fr s hk aI g8 hi
  have hx:xs[k]?=some xs[k]:=Qn hk
  generalize xs[k]=x at hx
  obtain⟨p,ia,ld⟩:=aD.at hx
  have ld:=ld s (hI k s hi)
  obtain⟨b,s',hc,h1,h2⟩:=dZ k x s hx hi
  have cz:((gT n).cg Y).fn q (.agg x::caps) s=.ret (.bool b) s':=hc
  have q1:=aI.at (k:=0) (by decide) z0
  have q2:=aI.at (k:=1) (by decide) z1
  cases b with
  | true=>
   refine .inr ⟨?r0,s',?r1,?r2,⟨k,?r3⟩,h1 rfl⟩
   case r1=>
    simp only[Rw,rQ,rA,bf136_0,q1,q2,g8,ia,ld,cz]
    rfl
   case r2=>exact aI.1.trans zd
   case r3=>simp only[Fr.get_set,↓reduceIte]
  | false=>
   refine .inl ⟨?v0,s',?v1,?v2,h2 rfl⟩
   case v1=>
    simp only[Rw,rQ,rA,bf136_0,q1,q2,g8,ia,ld,cz]
    rfl
   case v2=>repeat (first | exact Kp.refl | refine Kp.set (by decide) ?_)
 rcases kloop (Γ:=gT n) (Y:=Y) (m:=n) (N:=xs.length) (c:=9) (i:=8) (n:=7) (i2:=18) (ro:=none) (L:=[0,1,7]) (av:=av) (by decide) (by decide) (by decide) (by decide) z7 aD.2.1
  (Q:=fun k _ s=>R3 k s) (fun _ _ _ _ _ _ h=>h) hB xs.length 0 av st n (by omega) (by omega) Kp.refl z8 h0
  with⟨FR,s',h1,h2,h3⟩|⟨FR,s',h1,h2,⟨j,h3⟩,h4⟩
 ·refine⟨.negSucc 0,s',Ve (mf:=kf136) (fr:=FR.set 4 (some (.int .i64 (.negSucc 0)))) hf rfl (.inl ?w1) (h2.1.trans zd) ?w2,.inl ⟨by decide,h3⟩⟩
  case w1=>
   refine (cp _ _).trans ?_
   simp only[Rw,rQ,rA,h1,Rx]
  case w2=>simp only[kf136,Vg,Vu,V0,Fr.get_set,↓reduceIte,Qg,Ql]
 ·refine⟨.ofNat j,s',Ve (mf:=kf136) (fr:=FR) hf rfl (.inl ?w3) h2 ?w4,.inr ⟨Int.natCast_nonneg j,h4⟩⟩
  case w3=>
   refine (cp _ _).trans ?_
   simp only[Rw,rQ,rA,h1,Rx]
  case w4=>simp only[kf136,Vg,Vu,V0,h3,Qg,Ql]
theorem T0{f f' q n:Nat}{Y:Vi}{F:Nat->Prop}{aB:St}{sl:AV}{xs:List (List AV)}{caps:List AV}{R3:Nat->St->Prop}{Fin:St->Prop}(qd:(f=109/\f'=158)\/(f=221/\f'=269))(aD:RL F aB sl xs)
  (hI:∀ k s,R3 k s->Vs F aB s)
  (dZ:∀ k x s,xs[k]?=some x->R3 k s->∃ b s',R n Y q (.agg x::caps) s=.ret (.bool b) s'/\(b=true->Fin s')/\(b=false->R3 (k+1) s'))
  (st:St) (h0:R3 0 st) (hn:xs.length < n):
  ∃ b s',R (n+2) Y f [sl,.func (.func q) [] caps] st=.ret (.bool b) s'/\((b=false/\R3 xs.length s')\/(b=true/\Fin s')):=by
 have pi:Ry f'=some kf136:=by
  rcases qd with⟨_,rfl⟩|⟨_,rfl⟩
  ·rw[t158]
  ·rw[t269]
 obtain⟨r,s',hr,hc⟩:=idx_run pi aD hI dZ st h0 hn
 have fx:((gT (n+1)).cg Y).fn f' [sl,.func (.func q) [] caps] st=.ret (.int .i64 r) s':=hr
 have hg:Vr false .geq (.int .i64 r) Z0=some (.bool (decide (r>=0))):=rfl
 refine⟨decide (r>=0),s',?_,?_⟩
 ·rcases qd with⟨rfl,rfl⟩|⟨rfl,rfl⟩
  ·refine Ve (mf:=kf108) (fr:=?a0) t109 rfl (.inl ?a1) ?a2 ?a3
   case a1=>
    simp only[Rw,rQ,rA,kf108,fx,hg]
    rfl
   case a2=>rfl
   case a3=>simp only[kf108,Vg,Vu,V0,Fr.get_set,↓reduceIte,Qg,Ql]
  ·refine Ve (mf:=kf111) (fr:=?b0) t221 rfl (.inl ?b1) ?b2 ?b3
   case b1=>
    simp only[Rw,rQ,rA,kf111,fx,hg]
    rfl
   case b2=>rfl
   case b3=>simp only[kf111,Vg,Vu,V0,Fr.get_set,↓reduceIte,Qg,Ql]
 ·rcases hc with⟨h1,h2⟩|⟨h1,h2⟩
  ·exact .inl ⟨Qp (by omega),h2⟩
  ·exact .inr ⟨Qs h1,h2⟩
noncomputable section
open Nat renaming reduceEqDiff -> rQ, reduceAdd -> rA
def kf163:Vm:=⟨15,(ZQ [ZM 2 (ZB false)]
 (ZR [ZV 3 0,ZO 4 (.nilchk (.t 3)),ZA 5 0 4,ZL 6 5,ZO 7 (.bin false .gtr (.t 6) (ZC 2000)),ZV 8 7,ZG 9 (.mv (.t 0)) 8 false,ZG 10 (.nilchk (.t 9)) 8 false,ZG 11 (.faddr 1 (.t 10)) 8 false,ZG 12 (.load false 1 (.t 11)) 8 false,ZG 13 (.bin false .gtr (.t 12) (ZC 200)) 8 false,ZO 14 (.pick (.t 8) (ZB true) (.t 13)),ZV 2 14])),[.t 2]⟩
theorem t217:Ry 217=some kf163:=by kernel_rfl
def g164_0:List Vc:=[ZO 1 (.box true (.t 0)),ZM 2 (ZB false)]
def g164_1:List Vc:=[ZA 4 1 1,ZL 5 4,ZO 6 (.bin false .lss (.t 5) (ZC 0)),ZV 3 6]
def g164_2:List Vc:=[ZA 7 0 1,ZL 8 7,ZO 9 (.bin false .eql (.t 8) (ZC 1)),ZV 10 9,ZG 11 (.faddr 2 (.t 1)) 10 true,ZG 12 (.load false 1 (.t 11)) 10 true,ZG 13 (.len 0 (.t 12)) 10 true,ZG 14 (.bin false .gtr (.t 13) (ZC 0)) 10 true,ZO 15 (.pick (.t 10) (.t 14) (ZB false)),ZV 3 15]
def g164_3:List Vc:=[ZA 16 0 1,ZL 17 16,ZO 18 (.bin false .neq (.t 17) (ZC 1)),ZV 19 18,ZG 20 (.faddr 0 (.t 1)) 19 true,ZG 21 (.load false 1 (.t 20)) 19 true,ZG 22 (.bin false .neq (.t 21) (ZC 2)) 19 true,ZO 23 (.pick (.t 19) (.t 22) (ZB false)),ZV 3 23]
def g164_4:List Vc:=[ZA 24 2 1,ZL 25 24,ZN 26 25,ZO 27 (.bin false .gtr (.t 26) (ZC 8)),ZV 3 27]
def KX:List Vc:=[ZM 2 (ZB false)]
def g164_6:List Vc:=[ZA 28 2 1,ZL 29 28,ZO 30 (.call (.c (.func (.func 109) [] [])) [(.t 29),(.c (.func (.func 268) [] []))]),ZO 31 (.un .not (.t 30)),ZV 2 31]
def YW:Vm:=⟨32,(ZQ g164_0
 (.seq (.block 0 (.seq (ZQ g164_1
 (.cond (.t 3)
 .skip
 (ZQ g164_2
 (.cond (.t 3)
 .skip
 (ZQ g164_3
 (.cond (.t 3)
 .skip
 (.region g164_4)))))))
 (.cond (.t 3)
 (ZR KX)
 .skip)))
 (ZR g164_6))),[.t 2]⟩
theorem t218:Ry 218=some YW:=by kernel_rfl
def kf214:Vm:=⟨6,(ZQ [ZO 1 (.box true (.t 0)),ZM 2 (ZB false)]
 (ZR [ZK 3 3 1,ZX 4 218 [(.t 3)],ZO 5 (.un .not (.t 4)),ZV 2 5])),[.t 2]⟩
theorem t268:Ry 268=some kf214:=by kernel_rfl
def g137_2:List Vc:=[ZK 4 3 1,ZX 5 216 [(.t 3),(.t 4),(ZC 1)]]
def g137_3:List Vc:=[ZX 6 217 [(.t 3)],ZO 7 (.un .not (.t 6)),ZV 8 7,ZG 9 (.load true 3 (.t 1)) 8 true,ZG 10 (.call (.c (.func (.func 218) [] [])) [(.t 9)]) 8 true,ZO 11 (.pick (.t 8) (.t 10) (ZB false)),ZV 2 11]
def kf137:Vm:=⟨12,(ZQ [ZO 1 (.box true (.t 0)),ZM 2 (ZB false)]
 (ZQ [ZO 3 (.alloc [Z0,Z0])]
 (ZQ g137_2
 (ZR g137_3)))),[.t 2]⟩
theorem t159:Ry 159=some kf137:=by kernel_rfl
def g138_0:List Vc:=[ZP 10 3 6 8,ZK 11 3 10,ZO 5 (.alloc [Z0,Z0,.nilsl]),ZS 3 5 11]
def g138_1:List Vc:=[ZA 12 0 5,ZL 13 12,ZO 14 (.bin false .eql (.t 13) (ZC 1))]
def g138_2:List Vc:=[ZV 15 3,ZA 16 1 5,ZL 17 16,ZO 18 (.max (.t 15) [(.t 17)]),ZV 3 18]
def g138_3:List Vc:=[ZV 19 3,ZA 20 2 5,ZL 21 20,ZX 22 160 [(.t 21)],ZO 23 (.max (.t 19) [(.t 22)]),ZV 3 23]
def bf138_0:Vn:=(ZQ g138_0
 (.seq (ZQ g138_1
 (.cond (.t 14)
 (.region g138_2)
 .skip))
 (.region g138_3)))
def kf138:Vm:=⟨26,(ZQ [ZM 2 (ZC 0)]
 (ZQ [ZM 3 (.c (.int .i64 (.negSucc 0)))]
 (.seq (ZQ [ZV 6 0,ZN 7 6,ZM 8 (ZC 0)]
 (.block 0 (.loop (lb 9 8 7 24 bf138_0))))
 (ZR [ZV 25 3,ZV 2 25])))),[.t 2]⟩
theorem t160:Ry 160=some kf138:=by kernel_rfl
def g110_1:List Vc:=[ZK 3 3 1,ZX 4 159 [(.t 3)],ZV 5 4,ZG 6 (.load true 3 (.t 1)) 5 true,ZG 7 (.bslice 1 [Z0,Z0,.nilsl] [(0,3,(.t 6))]) 5 true,ZG 8 (.call (.c (.func (.func 160) [] [])) [(.t 7)]) 5 true,ZG 9 (.bin false .lss (.t 8) (ZC 0)) 5 true,ZO 10 (.pick (.t 5) (.t 9) (ZB false)),ZV 2 10]
def kf110:Vm:=⟨11,(ZQ [ZO 1 (.box true (.t 0)),ZM 2 (ZB false)]
 (ZR g110_1)),[.t 2]⟩
theorem t111:Ry 111=some kf110:=by kernel_rfl
theorem over_run(n:Nat)(Y:Vi){st:St}{id:Nat}{a b:Int}(h:st.get id=some (.row [.int .i64 a,.int .i64 b])):R (n+1) Y 217 [.ptr id 0] st=.ret (.bool (overP (a,b))) st:=by
 have nc:∀ x,Jd (.ptr id x)=some (.ptr id x):=fun _=>rfl
 have oS:WG 0 (.ptr id 0)=some (.ptr id 0):=rfl
 have rB:WG 1 (.ptr id 0)=some (.ptr id 1):=rfl
 have l0:=ld0 h
 have l1:=ld1 h
 have gt:Vr false .gtr (.int .i64 a) (ZI 2000)=some (.bool (decide (a > 2000))):=rfl
 have qc:Vr false .gtr (.int .i64 b) (ZI 200)=some (.bool (decide (b > 200))):=rfl
 have ho:overP (a,b)=(decide (a > 2000)||decide (b > 200)):=rfl
 rw[ho]
 generalize decide (a > 2000)=B at *
 cases B with
 | true=>
  refine Ve (mf:=kf163) (fr:=?a0) t217 rfl (.inl ?a1) ?a2 ?a3
  case a1=>
   simp only[Rw,rQ,rA,kf163,nc,oS,l0,gt,Qc,Qb]
   rfl
  case a2=>rfl
  case a3=>simp only[kf163,Vg,Vu,V0,Fr.get_set,↓reduceIte,Qg,Ql,QU]
 | false=>
  refine Ve (mf:=kf163) (fr:=?b0) t217 rfl (.inl ?b1) ?b2 ?b3
  case b1=>
   simp only[Rw,rQ,rA,kf163,nc,oS,rB,l0,l1,gt,qc,Qc,Qb]
   rfl
  case b2=>rfl
  case b3=>simp only[kf163,Vg,Vu,V0,Fr.get_set,↓reduceIte,Qg,Ql,QL]
theorem JZ(x y z:AV)(st:St):Vf true 3 st (.fptr [x,y,z] 0)=some (.agg [x,y,z]):=rfl
theorem Y7(x y z:AV)(st:St):Vf false 1 st (.fptr [x,y,z] 0)=some x:=rfl
theorem Yg(x y z:AV)(st:St):Vf false 1 st (.fptr [x,y,z] 1)=some y:=rfl
theorem WB(x y z:AV)(st:St):Vf false 1 st (.fptr [x,y,z] 2)=some z:=rfl
theorem RP(cs:List AV)(o:Nat):WG o (.fptr cs 0)=some (.fptr cs (0+o)):=rfl
theorem unN(b:Bool):unA .not (.bool b)=some (.bool (!b)):=rfl
theorem sigShaped(t:Tm):∀(n:Nat) (Y:Vi) (F:Nat->Prop) (st:St) (cs:List AV),We F st t cs->(∀ i,F i->i < st.next)->t.fz<=n ->
  ∃ af,R n Y 218 [.agg cs] st=.ret (.bool (shT t)) af/\Vd st af:=by
 induction hs:t.fz using Nat.strongRecOn generalizing t with
 | _ s ih=>
 intro n Y F st cs hr hF hn
 cases t with
 | mk k0 n0 nl ex l=>
 simp only[We] at hr
 obtain⟨sl,xs,rfl,aD,bg⟩:=hr
 simp only[Tm.fz] at hs
 obtain⟨m,rfl⟩:∃ m,n=m+5:=⟨n - 5,by omega⟩
 have bJ:=bg.len
 have al:=aD.len st
 -- the list's elements
 obtain⟨b,af,hc,hb⟩:=T0 (n:=m+2) (Y:=Y) (q:=268) (caps:=[]) (R3:=fun k s=>Vd st s/\RV (l.drop k)=RV l) (Fin:=fun s=>Vd st s/\RV l=false) (.inl ⟨rfl,rfl⟩) aD
  (fun k s h=>Vs.of h.1 hF) (fun k x s hx ⟨hk,hq⟩=>by
   have ce:k < l.length:=by have:=(Qt.1 hx).1;omega
   obtain⟨t,ht,bH⟩:=WR ce
   obtain⟨x',aK,bZ⟩:=bg.at ht
   rw[hx] at aK;injection aK with aK;subst aK
   have bv:=Tm.fzL_mem (Qr ht)
   obtain⟨s',ay,cf⟩:=ih t.fz (by omega) t rfl (m+1) Y F s x (bZ.mono (Vs.of hk hF) fun _ h=>h) (fun i hi=>Qz (hF i hi) hk.1) (by omega)
   refine⟨!shT t,s',?_,fun h=>⟨hk.trans cf,?_⟩,fun h=>⟨hk.trans cf,?_⟩⟩
   ·have aC:((gT (m+1)).cg Y).fn 218 [.agg x] s=.ret (.bool (shT t)) s':=ay
    obtain⟨a,b,c,rfl⟩:∃ a b c,x=[a,b,c]:=by
     have:=bZ.cells3.1
     match x,this with
     | [a,b,c],_=>exact⟨a,b,c,rfl⟩
    refine Ve (mf:=kf214) (fr:=?c0) t268 rfl (.inl ?c1) ?c2 ?c3
    case c1=>
     simp only[Rw,rQ,rA,kf214,JZ,aC,unN]
     rfl
    case c2=>rfl
    case c3=>simp only[kf214,Vg,Vu,V0,Fr.get_set,↓reduceIte,Qg,Ql]
   ·rw[<-hq,bH,Ul,Qe (by simpa using h)]
   ·rw[<-hq,bH,Ul,Qm (by simpa using h)]) st ⟨Vd.refl st,rfl⟩ (by omega)
 have cz:((gT (m+4)).cg Y).fn 109 [sl,.func (.func 268) [] []] st=.ret (.bool b) af:=hc
 have oT:(!b)=RV l/\Vd st af:=by
  rcases hb with⟨rfl,h1,h2⟩|⟨rfl,h1,h2⟩
  ·rw[bJ,Xr,shL_nil] at h2
   exact⟨h2,h1⟩
  ·exact⟨h2.symm,h1⟩
 have lt:Vr false .lss (.int .i64 n0) Z0=some (.bool (decide (n0 < 0))):=rfl
 have e1:Vr false .eql (.int .i64 k0) (ZI 1)=some (.bool (k0==1)):=rfl
 have g0:Vr false .gtr (ZI xs.length) Z0=some (.bool (decide (Int.ofNat l.length > 0))):=by rw[bJ];rfl
 have oK:Vr false .neq (.int .i64 k0) (ZI 1)=some (.bool (k0 != 1)):=rfl
 have oM:Vr false .neq (.int .i64 k0) (ZI 2)=some (.bool (k0 != 2)):=rfl
 have g8:Vr false .gtr (ZI xs.length) (ZI 8)=some (.bool (decide (Int.ofNat l.length > 8))):=by rw[bJ];rfl
 have Rx:Nat.beq 0 0=true:=rfl
 have cH:shT (.mk k0 n0 nl ex l)=if badT k0 n0 l.length=true then false else RV l:=by conv=>lhs;unfold shT
 have jn:badT k0 n0 l.length=(decide (n0 < 0)||((k0==1)&&decide (Int.ofNat l.length > 0))||((k0 != 1)&&(k0 != 2))||decide (Int.ofNat l.length > 8)):=rfl
 rw[cH,jn]
 generalize decide (n0 < 0)=B1 at *
 generalize (k0==1)=B2 at *
 generalize decide (Int.ofNat l.length > 0)=B3 at *
 generalize (k0 != 1)=B4 at *
 generalize (k0 != 2)=B5 at *
 generalize decide (Int.ofNat l.length > 8)=B6 at *
 obtain⟨fA1,au⟩:∃ fA,fA=Vo 0 [.agg [.int .i64 k0,.int .i64 n0,sl]] Fr.nil:=⟨_,rfl⟩
 have gA1_0:=R9 au 0
 have dA1:fA1.ds=[]:=by rw[au];rfl
 obtain⟨J2,H2,O2_1⟩:∃ aa,ar (m+4) Y g164_0 fA1 st=.ok aa st/\aa.get 1=some (.fptr [.int .i64 k0,.int .i64 n0,sl] 0):=⟨_,by simp only[Rw,rQ,rA,gA1_0,g164_0]<;>rfl,gn gh⟩
 obtain⟨J3,H3,O3_3⟩:∃ aa,ar (m+4) Y g164_1 J2 st=.ok aa st/\aa.get 3=some (.bool B1):=⟨_,by simp only[Rw,rQ,rA,O2_1,g164_1,RP,Y7,Yg,WB,al,lt]<;>rfl,gh⟩
 have V3_1:=ag H3 O2_1
 have W3:=ad H3 (ad H2 dA1)
 cases B1 with
 | true=>
  obtain⟨J4,H4,O4_2⟩:∃ aa,ar (m+4) Y KX J3 st=.ok aa st/\aa.get 2=some (.bool false):=⟨_,by simp only[Rw,rQ,rA,KX]<;>rfl,gh⟩
  refine⟨st,?p4,Vd.refl st⟩
  case p4=>
   rw[Qm (by simp)]
   refine Ve (mf:=YW) (fr:=J4) t218 rfl (.inl ?q4) (ad H4 W3) (by simp only[YW,Vg,Vu,V0,O4_2,Qg,Ql])
   case q4=>
    rw[<-au]
    simp only[Rw,rQ,rA,YW,Rx,H2,H3,H4,O3_3]
 | false=>
  obtain⟨J5,H5,O5_3⟩:∃ aa,ar (m+4) Y g164_2 J3 st=.ok aa st/\aa.get 3=some (.bool (B2&&B3)):=by cases B2<;>exact⟨_,by simp only[Rw,rQ,rA,V3_1,g164_2,RP,Y7,Yg,WB,al,e1,g0,Qc,Qb]<;>rfl,by simp only[Fr.get_set,rQ,↓reduceIte,amB]⟩
  have V5_1:=ag H5 V3_1
  have W5:=ad H5 W3
  generalize (B2&&B3)=C2 at *
  cases C2 with
  | true=>
   obtain⟨J6,H6,O6_2⟩:∃ aa,ar (m+4) Y KX J5 st=.ok aa st/\aa.get 2=some (.bool false):=⟨_,by simp only[Rw,rQ,rA,KX]<;>rfl,gh⟩
   refine⟨st,?p6,Vd.refl st⟩
   case p6=>
    rw[Qm (by simp)]
    refine Ve (mf:=YW) (fr:=J6) t218 rfl (.inl ?q6) (ad H6 W5) (by simp only[YW,Vg,Vu,V0,O6_2,Qg,Ql])
    case q6=>
     rw[<-au]
     simp only[Rw,rQ,rA,YW,Rx,H2,H3,H5,H6,O3_3,O5_3]
  | false=>
   obtain⟨J7,H7,O7_3⟩:∃ aa,ar (m+4) Y g164_3 J5 st=.ok aa st/\aa.get 3=some (.bool (B4&&B5)):=by cases B4<;>exact⟨_,by simp only[Rw,rQ,rA,V5_1,g164_3,RP,Y7,Yg,WB,al,oK,oM,Qc,Qb]<;>rfl,by simp only[Fr.get_set,rQ,↓reduceIte,amB]⟩
   have V7_1:=ag H7 V5_1
   have W7:=ad H7 W5
   generalize (B4&&B5)=C3 at *
   cases C3 with
   | true=>
    obtain⟨J8,H8,O8_2⟩:∃ aa,ar (m+4) Y KX J7 st=.ok aa st/\aa.get 2=some (.bool false):=⟨_,by simp only[Rw,rQ,rA,KX]<;>rfl,gh⟩
    refine⟨st,?p8,Vd.refl st⟩
    case p8=>
     rw[Qm (by simp)]
     refine Ve (mf:=YW) (fr:=J8) t218 rfl (.inl ?q8) (ad H8 W7) (by simp only[YW,Vg,Vu,V0,O8_2,Qg,Ql])
     case q8=>
      rw[<-au]
      simp only[Rw,rQ,rA,YW,Rx,H2,H3,H5,H7,H8,O3_3,O5_3,O7_3]
   | false=>
    obtain⟨J9,H9,O9_3⟩:∃ aa,ar (m+4) Y g164_4 J7 st=.ok aa st/\aa.get 3=some (.bool B6):=⟨_,by simp only[Rw,rQ,rA,V7_1,g164_4,RP,Y7,Yg,WB,al,g8]<;>rfl,gh⟩
    have W9:=ad H9 W7
    cases B6 with
    | true=>
     obtain⟨J10,H10,O10_2⟩:∃ aa,ar (m+4) Y KX J9 st=.ok aa st/\aa.get 2=some (.bool false):=⟨_,by simp only[Rw,rQ,rA,KX]<;>rfl,gh⟩
     refine⟨st,?p10,Vd.refl st⟩
     case p10=>
      rw[Qm (by simp)]
      refine Ve (mf:=YW) (fr:=J10) t218 rfl (.inl ?q10) (ad H10 W9) (by simp only[YW,Vg,Vu,V0,O10_2,Qg,Ql])
      case q10=>
       rw[<-au]
       simp only[Rw,rQ,rA,YW,Rx,H2,H3,H5,H7,H9,H10,O3_3,O5_3,O7_3,O9_3]
    | false=>
     obtain⟨J11,H11,O11_2⟩:∃ aa,ar (m+4) Y g164_6 J9 st=.ok aa af/\aa.get 2=some (.bool (!b)):=⟨_,by simp only[Rw,rQ,rA,(ag H9 V7_1),g164_6,RP,Y7,Yg,WB,al,cz,unN,Qc,Qb]<;>rfl,gh⟩
     refine⟨af,?p11,oT.2⟩
     case p11=>
      rw[Qe (by simp),<-oT.1]
      refine Ve (mf:=YW) (fr:=J11) t218 rfl (.inl ?q11) (ad H11 W9) (by simp only[YW,Vg,Vu,V0,O11_2,Qg,Ql])
      case q11=>
       rw[<-au]
       simp only[Rw,rQ,rA,YW,Rx,H2,H3,H5,H7,H9,H11,O3_3,O5_3,O7_3,O9_3]
theorem isTree_run(t:Tm)(n:Nat)(Y:Vi)(F:Nat->Prop)(st:St)(cs:List AV)(hr:We F st t cs)(hF:∀ i,F i->i < st.next)(hn:t.fz < n):
  ∃ af,R n Y 159 [.agg cs] st=.ret (.bool (isTr t)) af/\Vd st af:=by
 obtain⟨m,rfl⟩:∃ m,n=m+1:=⟨n - 1,by omega⟩
 have bv:12<=t.fz:=by cases t;simp only[Tm.fz];omega
 obtain⟨a,b,c,rfl⟩:∃ a b c,cs=[a,b,c]:=by
  have:=hr.cells3.1
  match cs,this with
  | [a,b,c],_=>exact⟨a,b,c,rfl⟩
 obtain⟨ai,bU⟩:∃ ai,ai=st.new (.row [ZI 0,ZI 0]):=⟨_,rfl⟩
 have k1:Vd st ai:=by rw[bU];exact Vd.new _ _
 have g1:ai.get st.next=some (.row [ZI 0,ZI 0]):=by rw[bU,St.get_new,Qm rfl]
 have n1:ai.next=st.next+1:=by rw[bU];rfl
 have jV:∀ i,F i->i < ai.next:=fun i hi=>Qz (hF i hi) k1.1
 have aZ:¬ F st.next:=fun h=>Nat.lt_irrefl _ (hF _ h)
 obtain⟨st2,c1,k2,g2⟩:=count_run t m Y F ai st.next (.ofNat 0) (.ofNat 0) (.ofNat 1) [a,b,c] (hr.mono (Vs.of k1 hF) fun _ h=>h) jV aZ (by omega) g1 (by omega)
 have ez:=k1.then1 k2 (Qw _)
 have eS:((gT m).cg Y).fn 216 [.ptr st.next 0,.agg [a,b,c],ZI 1] ai=.ret (.tuple []) st2:=c1
 obtain⟨m',rfl⟩:∃ m',m=m'+1:=⟨m - 1,by omega⟩
 have c2:((gT (m'+1)).cg Y).fn 217 [.ptr st.next 0] st2=.ret (.bool (overP (WM t 1 0 0))) st2:=over_run m' Y g2
 obtain⟨RM,c3,k3⟩:=sigShaped t (m'+1) Y F st2 [a,b,c] (hr.mono (Vs.of ez hF) fun _ h=>h) (fun i hi=>Qz (hF i hi) ez.1) (by omega)
 have wL:((gT (m'+1)).cg Y).fn 218 [.agg [a,b,c]] st2=.ret (.bool (shT t)) RM:=c3
 have eH:isTr t=(!overP (WM t 1 0 0)&&shT t):=rfl
 rw[eH]
 generalize overP (WM t 1 0 0)=B at *
 obtain⟨fA1,au⟩:∃ fA,fA=Vo 0 [.agg [a,b,c]] Fr.nil:=⟨_,rfl⟩
 have gA1_0:=R9 au 0
 have dA1:fA1.ds=[]:=by rw[au];rfl
 obtain⟨J2,H2,O2_1⟩:∃ aa,Vj ((gT (m'+1)).cg Y) [ZO 1 (.box true (.t 0)),ZM 2 (ZB false)] fA1 st=.ok aa st/\aa.get 1=some (.fptr [a,b,c] 0):=⟨_,by simp only[Rw,rQ,rA,gA1_0]<;>rfl,gn gh⟩
 obtain⟨J3,H3,O3_3⟩:∃ aa,Vj ((gT (m'+1)).cg Y) [ZO 3 (.alloc [Z0,Z0])] J2 st=.ok aa ai/\aa.get 3=some (.ptr st.next 0):=⟨_,by simp only[Rw,rQ,rA,<-bU]<;>rfl,gh⟩
 have V3_1:=ag H3 O2_1
 obtain⟨J4,H4⟩:∃ aa,Vj ((gT (m'+1)).cg Y) g137_2 J3 ai=.ok aa st2:=⟨_,by simp only[Rw,rQ,rA,V3_1,O3_3,g137_2,JZ,eS]<;>rfl⟩
 have V4_1:=ag H4 V3_1
 have V4_3:=ag H4 O3_3
 have W4:=ad H4 (ad H3 (ad H2 dA1))
 cases B with
 | true=>
  obtain⟨J5,H5,O5_2⟩:∃ aa,Vj ((gT (m'+1)).cg Y) g137_3 J4 st2=.ok aa st2/\aa.get 2=some (.bool false):=⟨_,by simp only[Rw,rQ,rA,V4_1,V4_3,g137_3,JZ,c2,wL,unN,Qc,Qb]<;>rfl,gh⟩
  refine⟨st2,Ve (mf:=kf137) (fr:=J5) t159 rfl (.inl ?q5) (ad H5 W4) (by simp only[kf137,Vg,Vu,V0,O5_2,Qg,Ql,Qc,Qb,Q3,Q8]),ez⟩
  case q5=>
   rw[<-au]
   simp only[Rw,rQ,rA,kf137,H2,H3,H4,H5]
 | false=>
  obtain⟨J6,H6,O6_2⟩:∃ aa,Vj ((gT (m'+1)).cg Y) g137_3 J4 st2=.ok aa RM/\aa.get 2=some (.bool (shT t)):=⟨_,by simp only[Rw,rQ,rA,V4_1,V4_3,g137_3,JZ,c2,wL,unN,Qc,Qb]<;>rfl,gh⟩
  refine⟨RM,Ve (mf:=kf137) (fr:=J6) t159 rfl (.inl ?q6) (ad H6 W4) (by simp only[kf137,Vg,Vu,V0,O6_2,Qg,Ql,Qc,Qb,Q3,Q8]),ez.trans k3⟩
  case q6=>
   rw[<-au]
   simp only[Rw,rQ,rA,kf137,H2,H3,H4,H6]
theorem greatest_run:∀(s:Nat) (l:List Tm) (n:Nat) (Y:Vi) (F:Nat->Prop) (st:St) (sl:AV) (xs:List (List AV)),Tm.fzL l+l.length=s->RL F st sl xs->Vy F st l xs->(∀ i,F i->i < st.next)->s+1 < n ->
  ∃ af,R n Y 160 [sl] st=.ret (.int .i64 (WW l (.negSucc 0))) af/\Vd st af:=by
 intro s
 induction s using Nat.strongRecOn with
 | _ s ih=>
 intro l n Y F st sl xs hs aD bg hF hn
 obtain⟨m,rfl⟩:∃ m,n=m+1:=⟨n - 1,by omega⟩
 have bJ:=bg.len
 have al:=aD.len st
 obtain⟨av,cp,z3,z6,z7,z8,zd⟩:∃ av,(∀ L T,ac m Y (ZQ [ZM 2 (ZC 0)] (ZQ [ZM 3 (.c (.int .i64 (.negSucc 0)))] (.seq (ZQ [ZV 6 0,ZN 7 6,ZM 8 (ZC 0)] L) T))) none (Vo 0 [sl] Fr.nil) st=match ac m Y L none av st with
    | .norm fr st=>ac m Y T none fr st
    | r=>r)
   /\ av.get 3=some (.int .i64 (.negSucc 0))/\av.get 6=some sl/\av.get 7=some (ZI xs.length)/\av.get 8=some Z0/\av.ds=[]:=by
  refine⟨?f0,?f1,?f2,?f3,?f4,?f5,?f7⟩
  case f1=>
   intro L T
   simp only[Rw,rQ,rA,al]
   rfl
  case f2=>simp only[Fr.get_set,rQ,↓reduceIte]
  case f3=>simp only[Fr.get_set,rQ,↓reduceIte]
  case f4=>simp only[Fr.get_set,rQ,↓reduceIte]
  case f5=>simp only[Fr.get_set,↓reduceIte]
  case f7=>rfl
 have Rx:Nat.beq 0 0=true:=rfl
 have hB:∀ k fr s,k < xs.length->Kp [6,7] av fr->fr.get 8=some (ZI k)->(Vd st s/\∃ o,fr.get 3=some (.int .i64 o)/\WW (l.drop k) o=WW l (.negSucc 0)) ->
   (∃ FR s',ac m Y bf138_0 none fr s=.norm FR s'/\Kp [8,6,7] fr FR/\(Vd st s'/\∃ o,FR.get 3=some (.int .i64 o)/\WW (l.drop (k+1)) o=WW l (.negSucc 0))) ∨
   (∃ FR s',ac m Y bf138_0 none fr s=.ret FR s'/\False):=by
  intro k fr s hk aI g8 ⟨bi,o,q1,hq⟩
  obtain⟨t,ht,bH⟩:=WR (l:=l) (k:=k) (by omega)
  obtain⟨x,hx,bZ⟩:=bg.at ht
  have aO:Vs F st s:=Vs.of bi hF
  obtain⟨p,ia,ld⟩:=aD.at hx
  have ld:=ld s aO
  obtain⟨s1,bj,ks,go,fT⟩:=next_el s (zs:=[Z0,Z0,.nilsl]) rfl bZ.cells3
  rw[bH,greL_cons] at hq
  have bv:=Tm.fzL_mem (Qr ht)
  cases t with
  | mk k1 n1 aP aM l1=>
  have im:=bZ.mono (aO.trans (Vs.of ks fun i hi=>Qz (hF i hi) bi.1)) fun _ h=>h
  simp only[We] at im
  obtain⟨kQ,yV,rfl,nr,tS⟩:=im
  simp only[Tm.fz] at bv
  obtain⟨s2,ay,jX⟩:=ih (Tm.fzL l1+l1.length) (by omega) l1 m Y F s1 kQ yV rfl nr tS (fun i hi=>Qz (hF i hi) (QY bi.1 ks.1)) (by omega)
  have aC:((gT m).cg Y).fn 160 [kQ] s1=.ret (.int .i64 (WW l1 (.negSucc 0))) s2:=ay
  have q2:=aI.at (k:=6) (by decide) z6
  have q3:=aI.at (k:=7) (by decide) z7
  have fa:∀ o,WG o (.ptr s.next 0)=some (.ptr s.next (0+o)):=fun _=>rfl
  have l0:=ld0 go
  have gB:=ld1 go
  have l2:=ld2 go
  have e1:Vr false .eql (.int .i64 k1) (ZI 1)=some (.bool (k1==1)):=rfl
  have fm:∀ x y:Int,foldA maxA (.int .i64 x) [.int .i64 y]=some (.int .i64 (mx x y)):=fun _ _=>rfl
  have en:greT (.mk k1 n1 aP aM l1) o=mx (if k1=1 then mx o n1 else o) (WW l1 (.negSucc 0)):=by conv=>lhs;unfold greT
  rw[en] at hq
  generalize hC:(k1==1)=C at *
  obtain⟨J4,H4,K4,O4_5⟩:∃ aa,ar m Y g138_0 fr s=.ok aa s1/\Kp [3,6,7,8] fr aa/\aa.get 5=some (.ptr s.next 0):=⟨_,by simp only[Rw,rQ,rA,q2,g8,g138_0,ia,ld,bj]<;>rfl,Kp.refl.s.s.s,gh⟩
  have V4_3:=K4.g 3 q1
  obtain⟨J5,H5,K5,O5_14⟩:∃ aa,ar m Y g138_1 J4 s1=.ok aa s1/\Kp [3,5,6,7,8] J4 aa/\aa.get 14=some (.bool C):=⟨_,by simp only[Rw,rQ,rA,O4_5,g138_1,fa,l0,gB,l2,e1]<;>rfl,Kp.refl.s.s.s,gh⟩
  have V5_3:=K5.g 3 V4_3
  have V5_5:=K5.g 5 O4_5
  cases C with
  | true=>
   rw[Qm (by simpa using hC)] at hq
   obtain⟨J6,H6,K6,O6_3⟩:∃ aa,ar m Y g138_2 J5 s1=.ok aa s1/\Kp [5,6,7,8] J5 aa/\aa.get 3=some (.int .i64 (mx o n1)):=⟨_,by simp only[Rw,rQ,rA,V5_3,V5_5,g138_2,nd_max,fm,fa,l0,gB,l2]<;>rfl,Kp.refl.s.s.s.s.s,gh⟩
   have V6_5:=K6.g 5 V5_5
   obtain⟨J7,H7,K7,O7_3⟩:∃ aa,ar m Y g138_3 J6 s1=.ok aa s2/\Kp [6,7,8] J6 aa/\aa.get 3=some (.int .i64 (mx (mx o n1) (WW l1 (.negSucc 0)))):=⟨_,by simp only[Rw,rQ,rA,V6_5,O6_3,g138_3,nd_max,fm,fa,l0,gB,l2,aC]<;>rfl,Kp.refl.s.s.s.s.s.s,gh⟩
   refine .inl ⟨J7,s2,?q7,((((K4.sub (by decide)).trans (K5.sub (by decide))).trans (K6.sub (by decide))).trans (K7.sub (by decide))),(bi.trans ks).trans jX,_,O7_3,hq⟩
   case q7=>simp only[Rw,rQ,rA,bf138_0,H4,H5,H6,H7,O5_14]
  | false=>
   rw[Qe (by simpa using hC)] at hq
   obtain⟨J8,H8,K8_,O8_3⟩:∃ aa,ar m Y g138_3 J5 s1=.ok aa s2/\Kp [6,7,8] J5 aa/\aa.get 3=some (.int .i64 (mx o (WW l1 (.negSucc 0)))):=⟨_,by simp only[Rw,rQ,rA,V5_3,V5_5,g138_3,nd_max,fm,fa,l0,gB,l2,aC]<;>rfl,Kp.refl.s.s.s.s.s.s,gh⟩
   refine .inl ⟨J8,s2,?q8,(((K4.sub (by decide)).trans (K5.sub (by decide))).trans (K8_.sub (by decide))),(bi.trans ks).trans jX,_,O8_3,hq⟩
   case q8=>simp only[Rw,rQ,rA,bf138_0,H4,H5,H8,O5_14]
 rcases kloop (Γ:=gT m) (Y:=Y) (m:=m) (N:=xs.length) (c:=9) (i:=8) (n:=7) (i2:=24) (ro:=none) (L:=[6,7]) (av:=av) (by decide) (by decide) (by decide) (by decide) z7 aD.2.1
  (Q:=fun k fr s=>Vd st s/\∃ o,fr.get 3=some (.int .i64 o)/\WW (l.drop k) o=WW l (.negSucc 0)) (fun k fr s sl v hs ⟨h1,o,h2,h3⟩=>⟨h1,o,by rw[Fr.get_set,Qe (by omega)];exact h2,h3⟩) hB xs.length 0 av st m (by omega) (by omega) Kp.refl z8 ⟨Vd.refl st,_,z3,rfl⟩
  with⟨FR,s',h1,h2,h3,o,h4,h5⟩|⟨FR,s',h1,h2⟩
 ·rw[bJ,Xr,greL_nil] at h5
  rw[h5] at h4
  refine⟨s',Ve (mf:=kf138) (fr:=(FR.set 25 (some (.int .i64 (WW l (.negSucc 0))))).set 2 (some (.int .i64 (WW l (.negSucc 0))))) t160 rfl (.inl ?w1) (h2.1.trans zd) ?w2,h3⟩
  case w1=>
   refine (cp _ _).trans ?_
   simp only[Rw,rQ,rA,h1,Rx,h4]
  case w2=>simp only[kf138,Vg,Vu,V0,Fr.get_set,↓reduceIte,Qg,Ql]
 ·exact absurd h2 id
theorem ground_run(t:Tm)(n:Nat)(Y:Vi)(F:Nat->Prop)(st:St)(cs:List AV)(hr:We F st t cs)(hF:∀ i,F i->i < st.next)(hn:t.fz+4<=n):
  ∃ af,R n Y 111 [.agg cs] st=.ret (.bool (gr t)) af/\Vd st af:=by
 obtain⟨m,rfl⟩:∃ m,n=m+1:=⟨n - 1,by omega⟩
 obtain⟨ai,c1,k1⟩:=isTree_run t m Y F st cs hr hF (by omega)
 have eF:=hr.cells3
 have gy:=hr.mono (Vs.of k1 hF) fun _ h=>h
 obtain⟨a,b,c,rfl⟩:∃ a b c,cs=[a,b,c]:=by
  match cs,eF.1 with
  | [a,b,c],_=>exact⟨a,b,c,rfl⟩
 have aD:RL F ai (.lst 1 [a,b,c] true) [[a,b,c]]:=by
  have:=RL.lst F ai (n:=1) (xs:=[[a,b,c]]) (ex:=true) (fun x hx=>by simp only[Xd] at hx;subst hx;exact eF) (by simp) rfl
  simpa using this
 obtain⟨st2,c2,k2⟩:=greatest_run (Tm.fzL [t]+1) [t] m Y F ai (.lst 1 [a,b,c] true) [[a,b,c]] rfl aD (by simp only[Vy];exact⟨_,_,rfl,gy,rfl⟩) (fun i hi=>Qz (hF i hi) k1.1) (by simp only[Tm.fzL];omega)
 have eS:((gT m).cg Y).fn 159 [.agg [a,b,c]] st=.ret (.bool (isTr t)) ai:=c1
 have wM:((gT m).cg Y).fn 160 [.lst 1 [a,b,c] true] ai=.ret (.int .i64 (WW [t] (.negSucc 0))) st2:=c2
 have fl:VN [ZI 0,ZI 0,.nilsl] [(0,3,.agg [a,b,c])]=some [a,b,c]:=rfl
 have lt:Vr false .lss (.int .i64 (WW [t] (.negSucc 0))) Z0=some (.bool (decide (WW [t] (.negSucc 0) < 0))):=rfl
 have eH:gr t=(isTr t&&decide (WW [t] (.negSucc 0) < 0)):=rfl
 rw[eH]
 generalize isTr t=B at *
 obtain⟨fA1,au⟩:∃ fA,fA=Vo 0 [.agg [a,b,c]] Fr.nil:=⟨_,rfl⟩
 have gA1_0:=R9 au 0
 have dA1:fA1.ds=[]:=by rw[au];rfl
 obtain⟨J2,H2,O2_1⟩:∃ aa,ar m Y [ZO 1 (.box true (.t 0)),ZM 2 (ZB false)] fA1 st=.ok aa st/\aa.get 1=some (.fptr [a,b,c] 0):=⟨_,by simp only[Rw,rQ,rA,gA1_0]<;>rfl,gn gh⟩
 have W2:=ad H2 dA1
 cases B with
 | true=>
  obtain⟨J3,H3,O3_2⟩:∃ aa,ar m Y g110_1 J2 st=.ok aa st2/\aa.get 2=some (.bool (decide (WW [t] (.negSucc 0) < 0))):=⟨_,by simp only[Rw,rQ,rA,O2_1,g110_1,JZ,eS,wM,fl,lt,Qc,Qb]<;>rfl,gh⟩
  refine⟨st2,Ve (mf:=kf110) (fr:=J3) t111 rfl (.inl ?q3) (ad H3 W2) (by simp only[kf110,Vg,Vu,V0,O3_2,Qg,Ql,Q3,Q8]),k1.trans k2⟩
  case q3=>
   rw[<-au]
   simp only[Rw,rQ,rA,kf110,H2,H3]
 | false=>
  obtain⟨J4,H4,O4_2⟩:∃ aa,ar m Y g110_1 J2 st=.ok aa ai/\aa.get 2=some (.bool false):=⟨_,by simp only[Rw,rQ,rA,O2_1,g110_1,JZ,eS,wM,fl,lt,Qc,Qb]<;>rfl,gh⟩
  refine⟨ai,Ve (mf:=kf110) (fr:=J4) t111 rfl (.inl ?q4) (ad H4 W2) (by simp only[kf110,Vg,Vu,V0,O4_2,Qg,Ql,Q3,Q8]),k1⟩
  case q4=>
   rw[<-au]
   simp only[Rw,rQ,rA,kf110,H2,H4]
end
end Go.AM.D32
