import Derived.Test.YtejdliehekjicaaGreatAwSrt
set_option linter.unusedSimpArgs false
namespace Go.AM
noncomputable section
inductive Ev (Γ:Gam) (n:Nat):Vn->Fr->St->CR->Prop where
 | run {mc:Vn} {fr:Fr} {st:St} {r:CR}:Vh Γ Y0 n mc none fr st=r->Ev Γ n mc fr st r
 | seq {a b:Vn} {fr fr1:Fr} {st st1:St} {r:CR}:Ev Γ n a fr st (.norm fr1 st1)->Ev Γ n b fr1 st1 r->Ev Γ n (.seq a b) fr st r
 | cut {mc:Vn} {fr:Fr} {L st:St} {r:CR}:SubSt L st->Ev Γ n mc fr L r->Ev Γ n mc fr st r
section
variable {P:Program} {Γ:Gam}
theorem ccode_seq{N:Nat}{pol:Nat->Nat->Bool}{c:Code}{a b:Vn}(h:VA P N pol false c=.seq a b):∃ ca cb,c=.seq ca cb/\VA P N pol false ca=a/\VA P N pol false cb=b:=by
 cases c with
 | seq ca cb=>simp only[VA,Vn.seq.injEq] at h;exact⟨ca,cb,rfl,h.1,h.2⟩
 | region id ops draw=>
  exfalso
  cases draw
  ·simp only[VA] at h
   split at h<;>cases h
  ·simp only[VA] at h
   split at h
   ·unfold cdraw at h
    cases hb:(P.follows .mixedOrders&&drawB ops _&&Um ops.toList _)<;>rw[hb] at h<;>cases h
   ·cases h
 | cond x d e=>exfalso;simp only[VA] at h;split at h<;>cases h
 | rangeFunc g ps d e=>
  exfalso
  simp only[VA] at h
  split at h
  ·cases hb:(ps.toList.all fun p=>Nat.ble (p+1) N)<;>rw[hb] at h<;>cases h
  ·cases h
 | loop d=>
  exfalso
  simp only[VA] at h
  rcases SE N d (VA P N pol false d) with hm|⟨_,_,_,_,_,_,_,_,_,_,_,_,_,hm⟩<;>rw[hm] at h<;>cases h
 | _=>exfalso;simp only[VA] at h;cases h
theorem Ev.sound{N n B:Nat}{pol:Nat->Nat->Bool}(hG:Jc P Γ){mc:Vn}{fr:Fr}{st:St}{r:CR}(h:Ev Γ n mc fr st r):∀(c:Code) (E:Env) (w:World) (a:Act),JI P E w->VA P N pol false c=mc->r≠.stuck->RvA P E w N B fr a->Sat E st w ->
  c.wpIn (FR0 none) 0 P (WO P E w N B r) a w:=by
 induction h with
 | run hr=>
  intro c E w a hg hc hst hf hs
  subst hc
  exact Ka hG c false none none (fun _=>rfl) B E w _ a _ _ (Y0_sound hg) trivial hr hst hf hs
 | seq _ _ iha ihb=>
  intro c E w a hg hc hst hf hs
  obtain⟨ca,cb,rfl,h1,h2⟩:=ccode_seq hc
  refine wpIn_seq (wpIn_mono (iha ca E w a hg h1 (by simp) hf hs) fun e a' w' ⟨he,E',k1,k2,k3⟩=>?_)
  subst he
  exact wpIn_mono (ihb cb E' w' a' (hg.mono k1) h2 hst k3 k2) fun _ _ _ hq=>WO.mono k1 hq
 | cut hsub _ ih=>
  intro c E w a hg hc hst hf hs
  exact ih c E w a hg hc hst hf (hs.sub hsub)
theorem Ev.calls{tbl:Nat->Option Vm}{hand:Gam->Nat->Vi->Nat->List AV->St->FR}(ht:TblOk P tbl)(hh:Kf P hand){n f:Nat}{mf:Vm}(hf:tbl f=some mf){args:List AV}{st st1 st':St}{fr1:Fr}{v:AV}{E:Env}{w:World}{vs:Array Value}
  (hgl:JI P E w) (ha:RvL E w args vs.toList) (hs:Sat E st w) (hle:args.length<=mf.N) (hev:Ev (Yt tbl hand n) n mf.code (Vo 0 args Fr.nil) st (.norm fr1 st1)\/Ev (Yt tbl hand n) n mf.code (Vo 0 args Fr.nil) st (.ret fr1 st1))
  (hds:fr1.ds=[]) (hr:Vg fr1 st1 mf.res=.ret v st'):Yh P f/\Calls P f vs w (YO E w v st'):=by
 obtain⟨fn,pol,h1,h2⟩:=ht f mf hf
 have hG:=SK ht hh n
 obtain⟨c,rs,hb,hname,hrs,rfl⟩:=Kc h2
 refine⟨Yo h1 hb hname,?_⟩
 have hstart:RvA P E w fn.ntmps w.heap.size (Vo 0 args Fr.nil) { tmps:=vs++Array.replicate (fn.ntmps - vs.size) undef,defers:=[] }:=start_act ha hle (Qw _)
 have fin:∀(a':Act) (w':World) (E':Env),Ext E w E' w'->Sat E' st1 w'->RvA P E' w' fn.ntmps w.heap.size fr1 a'->LeavesInM Fence.wide 0 P fn a'.tmps (YO E w v st') a'.defers .returning w':=fun a' w' E' k1 k2 k3=>by
  have hd:a'.defers=[]:=by have:=k3.d;rw[hds] at this;exact this
  rw[hd]
  obtain⟨u,h6,h7,h8⟩:=SM k3.f.part k2 hrs hr
  exact⟨u,h6,u,E',rfl,k1,h8 ▸ k2,h7⟩
 refine (callsIn_wide (n:=0)).1 (callsIn_of_wp_marks (F:=Fence.wide) h1 hb trivial ?_)
 rcases hev with hev | hev
 ·refine wpIn_mono (Ev.sound (B:=w.heap.size) hG hev c E w _ hgl rfl (by simp) hstart hs) fun e a' w' ⟨he,E',k1,k2,k3⟩=>?_
  subst he
  exact fin a' w' E' k1 k2 k3
 ·refine wpIn_mono (Ev.sound (B:=w.heap.size) hG hev c E w _ hgl rfl (by simp) hstart hs) fun e a' w' ⟨he,E',k1,k2,k3⟩=>?_
  subst he
  exact fin a' w' E' k1 k2 k3
end
theorem VV:∀(mc:Vn) (j k:Nat),Wi (Wi mc j) k=Wi mc (j+k)
 | mc,0,k=>by rw[Q7];simp only[Wi]
 | mc,j+1,k=>by
  rw[show j+1+k=(j+k)+1 by omega]
  cases mc<;>simp only[Wi]
  case seq a b=>exact VV b j k
  all_goals cases k<;>simp only[Wi]
def U5(Γ:Gam)(n:Nat):Nat->Vn->Fr->St->Option (Vn × Fr × St)
 | 0,mc,fr,st=>some (mc,fr,st)
 | j+1,.seq a b,fr,st=>match Vh Γ Y0 n a none fr st with
  | .norm fr st=>U5 Γ n j b fr st
  | _=>none
 | _+1,_,_,_=>none
def pieceB(Γ:Gam)(n j:Nat)(mc:Vn)(F:Fr)(L:St)(F':Fr)(L':St):Bool:=
 match U5 Γ n j mc F L with
 | some (_,fr,st)=>eqFr fr F'&&Jn L' st
 | none=>false
theorem runSeg_tail{Γ:Gam}{n:Nat}:∀(j:Nat) (mc mc':Vn) (F fr:Fr) (L st:St) (r:CR),U5 Γ n j mc F L=some (mc',fr,st)->mc'=Wi mc j/\(Ev Γ n mc' fr st r->Ev Γ n mc F L r)
 | 0,mc,mc',F,fr,L,st,r,h=>by
  simp only[U5,Qa,Q2] at h
  obtain⟨rfl,rfl,rfl⟩:=h
  exact⟨by unfold Wi;rfl,fun h=>h⟩
 | j+1,mc,mc',F,fr,L,st,r,h=>by
  cases mc<;>simp only[U5,reduceCtorEq] at h
  rename_i a b
  split at h
  ·rename_i fr1 st1 ha
   obtain⟨h1,h2⟩:=runSeg_tail j b mc' fr1 fr st1 st r h
   exact⟨by rw[h1];simp only[Wi],fun hev=>.seq (.run ha) (h2 hev)⟩
  ·cases h
theorem Wz{Γ:Gam}{n j:Nat}{mc:Vn}{F F':Fr}{L L':St}{r:CR}(h:pieceB Γ n j mc F L F' L'=true)(hev:Ev Γ n (Wi mc j) F' L' r):Ev Γ n mc F L r:=by
 unfold pieceB at h
 split at h
 ·rename_i mc' fr st hr
  simp only[Qd] at h
  obtain⟨h1,h2⟩:=runSeg_tail j mc mc' F fr L st r hr
  refine h2 ?_
  rw[h1,eqFr_eq h.1]
  exact .cut (subSt_of h.2) hev
 ·cases h
def lastB(Γ:Gam)(n:Nat)(mc:Vn)(F:Fr)(L:St)(res:List JV)(v:AV):Bool:=
 match Vh Γ Y0 n mc none F L with
 | .norm fr st=>(match fr.ds with | []=>true | _=>false)&&(match Vg fr st res with | .ret u _=>V8 u v | _=>false)
 | .ret fr st=>(match fr.ds with | []=>true | _=>false)&&(match Vg fr st res with | .ret u _=>V8 u v | _=>false)
 | _=>false
theorem last_ev{Γ:Gam}{n:Nat}{mc:Vn}{F:Fr}{L:St}{res:List JV}{v:AV}(h:lastB Γ n mc F L res v=true):∃ fr1 st1 st',(Ev Γ n mc F L (.norm fr1 st1)\/Ev Γ n mc F L (.ret fr1 st1))/\fr1.ds=[]/\Vg fr1 st1 res=.ret v st':=by
 have key:∀(fr:Fr) (st:St),((match fr.ds with | []=>true | _=>false)&&(match Vg fr st res with | .ret u _=>V8 u v | _=>false))=true->fr.ds=[]/\∃ st',Vg fr st res=.ret v st':=fun fr st h=>by
  simp only[Qd] at h
  refine⟨?_,?_⟩
  ·have:=h.1
   split at this
   ·assumption
   ·cases this
  ·have:=h.2
   split at this
   ·rename_i u st' hr
    exact⟨st',by rw[hr,JJ _ _ this]⟩
   ·cases this
 unfold lastB at h
 split at h
 ·rename_i fr st hr
  obtain⟨h1,st',h2⟩:=key fr st h
  exact⟨fr,st,st',.inl (.run hr),h1,h2⟩
 ·rename_i fr st hr
  obtain⟨h1,st',h2⟩:=key fr st h
  exact⟨fr,st,st',.inr (.run hr),h1,h2⟩
 ·cases h
def lastRB(Γ:Gam)(n:Nat)(mc:Vn)(F:Fr)(L:St)(res:List JV)(v:AV)(L':St):Bool:=
 match Vh Γ Y0 n mc none F L with
 | .norm fr st=>(match fr.ds with | []=>true | _=>false)&&(match Vg fr st res with | .ret u st'=>V8 u v&&Jn L' st' | _=>false)
 | .ret fr st=>(match fr.ds with | []=>true | _=>false)&&(match Vg fr st res with | .ret u st'=>V8 u v&&Jn L' st' | _=>false)
 | _=>false
theorem lastR_ev{Γ:Gam}{n:Nat}{mc:Vn}{F:Fr}{L L':St}{res:List JV}{v:AV}(h:lastRB Γ n mc F L res v L'=true):
  ∃ fr1 st1 st',(Ev Γ n mc F L (.norm fr1 st1)\/Ev Γ n mc F L (.ret fr1 st1))/\fr1.ds=[]/\Vg fr1 st1 res=.ret v st'/\SubSt L' st':=by
 have key:∀(fr:Fr) (st:St),((match fr.ds with | []=>true | _=>false)&&(match Vg fr st res with | .ret u st'=>V8 u v&&Jn L' st' | _=>false))=true->fr.ds=[]/\∃ st',Vg fr st res=.ret v st'/\SubSt L' st':=fun fr st h=>by
  simp only[Qd] at h
  refine⟨?_,?_⟩
  ·have:=h.1
   split at this
   ·assumption
   ·cases this
  ·have:=h.2
   split at this
   ·rename_i u st' hr
    simp only[Qd] at this
    exact⟨st',by rw[hr,JJ _ _ this.1],subSt_of this.2⟩
   ·cases this
 unfold lastRB at h
 split at h
 ·rename_i fr st hr
  obtain⟨h1,st',h2,h3⟩:=key fr st h
  exact⟨fr,st,st',.inl (.run hr),h1,h2,h3⟩
 ·rename_i fr st hr
  obtain⟨h1,st',h2,h3⟩:=key fr st h
  exact⟨fr,st,st',.inr (.run hr),h1,h2,h3⟩
 ·cases h
theorem handF_ok{P:Program}{h:Gam->Nat->Vi->Nat->List AV->St->FR}(hh:Kf P h){f0:Nat}{A:List AV}{L L':St}{v:AV}
  (hc:∀(E:Env) (w:World) (vs:Array Value),JI P E w->RvL E w A vs.toList->Sat E L w->Yh P f0/\Calls P f0 vs w (YO E w v L')):Kf P (handF h f0 A L v L'):=by
 intro Γ n hG Y E w hY f args st vs ha hs
 unfold handF
 cases hf:f.beq f0 with
 | false=>exact hh Γ n hG Y E w hY f args st vs ha hs
 | true=>
  obtain rfl:=Qj hf
  simp only[Qi]
  cases hb:VG args A&&Jn L st with
  | false=>exact⟨fun v st' h=>(nomatch h),fun v st' h=>(nomatch h)⟩
  | true=>
   simp only[Qd] at hb
   have:=WL _ _ hb.1
   subst this
   refine⟨fun v' st' h=>?_,fun v st' h=>(nomatch h)⟩
   simp only[Qi,FR.ret.injEq] at h
   obtain⟨rfl,rfl⟩:=h
   exact .inl (hc E w vs (fun E' w' hx=>(hY E' w' hx).2) ha (hs.sub (subSt_of hb.2)))
theorem Ev.callsR{P:Program}{tbl:Nat->Option Vm}{hand:Gam->Nat->Vi->Nat->List AV->St->FR}(ht:TblOk P tbl)(hh:Kf P hand){n f:Nat}{mf:Vm}(hf:tbl f=some mf){A:List AV}{L L':St}{v:AV}(hle:A.length<=mf.N)
  (hev:∃ fr1 st1 st',(Ev (Yt tbl hand n) n mf.code (Vo 0 A Fr.nil) L (.norm fr1 st1)\/Ev (Yt tbl hand n) n mf.code (Vo 0 A Fr.nil) L (.ret fr1 st1))/\fr1.ds=[]/\Vg fr1 st1 mf.res=.ret v st'/\SubSt L' st')
  (E:Env) (w:World) (vs:Array Value) (hg:JI P E w) (ha:RvL E w A vs.toList) (hs:Sat E L w):Yh P f/\Calls P f vs w (YO E w v L'):=by
 obtain⟨fr1,st1,st',hev,hds,hr,hsub⟩:=hev
 obtain⟨h1,h2⟩:=Ev.calls ht hh hf hg ha hs hle hev hds hr
 exact⟨h1,h2.mono fun e w' ⟨u,E',e1,e2,e3,e4⟩=>⟨u,E',e1,e2,e3.sub hsub,e4⟩⟩
end
end Go.AM
namespace Go.AM
noncomputable section
theorem kif_eq{α:Type}(c:Bool)(t e:α):kif c t e=bif c then t else e:=by cases c<;>rfl
theorem getK_getN{α:Type}:∀(t:Tr α) (f n:Nat),n<=f->getK t n=Tr.getN f t n
 | .nil,f,n,_=>by rw[Tr.getN_nil];rfl
 | .node o l r,0,n,h=>by
  obtain rfl:n=0:=by omega
  rfl
 | .node o l r,f+1,n,h=>by
  show (@Bool.rec (fun _=>Option α) (@Bool.rec (fun _=>Option α) (getK r ((n.div 2).sub 1)) (getK l (n.div 2)) ((n.mod 2).beq 1)) o (n.beq 0))=_
  unfold Tr.getN
  have e2:n.div 2=n / 2:=rfl
  cases hb:n.beq 0
  ·have hn:n≠0:=fun e=>by subst e;simp at hb
   cases ho:(n.mod 2).beq 1
   ·exact getK_getN r f _ (by show (n.div 2) - 1<=f;rw[e2];omega)
   ·exact getK_getN l f _ (by rw[e2];omega)
  ·rfl
theorem getK_eq{α:Type}(t:Tr α)(n:Nat):getK t n=t.get n:=getK_getN t n n (Qw _)
theorem setN_more{α:Type}:∀(f g n:Nat) (t:Tr α) (v:Option α),n<=f->n<=g->Tr.setN f t n v=Tr.setN g t n v
 | 0,0,n,t,v,_,_=>rfl
 | 0,g+1,n,t,v,h,_=>by
  obtain rfl:n=0:=by omega
  simp[Tr.setN,Nat.beq]
 | f+1,0,n,t,v,_,h=>by
  obtain rfl:n=0:=by omega
  simp[Tr.setN,Nat.beq]
 | f+1,g+1,n,t,v,h1,h2=>by
  have e2:n.div 2=n / 2:=rfl
  simp only[Tr.setN]
  cases hb:n.beq 0
  ·have hn:n≠0:=fun e=>by subst e;simp at hb
   simp only[Qq]
   rw[setN_more f g (n.div 2) t.left v (by rw[e2];omega) (by rw[e2];omega),setN_more f g ((n.div 2).pred) t.right v (by rw[e2,Zh];omega) (by rw[e2,Zh];omega)]
  ·rfl
theorem setK_setN{α:Type}:∀(t:Tr α) (f n:Nat) (v:Option α),n<=f->setK t n v=Tr.setN f t n v
 | .nil,f,n,v,h=>setN_more n f n .nil v (Qw _) h
 | .node o l r,0,n,v,h=>by
  obtain rfl:n=0:=by omega
  rfl
 | .node o l r,f+1,n,v,h=>by
  show (@Bool.rec (fun _=>Tr α) (@Bool.rec (fun _=>Tr α) (.node o l (setK r ((n.div 2).sub 1) v)) (.node o (setK l (n.div 2) v) r) ((n.mod 2).beq 1)) (.node v l r) (n.beq 0))=_
  unfold Tr.setN
  have e2:n.div 2=n / 2:=rfl
  cases hb:n.beq 0
  ·have hn:n≠0:=fun e=>by subst e;simp at hb
   cases ho:(n.mod 2).beq 1
   ·rw[setK_setN r f _ v (by show (n.div 2) - 1<=f;rw[e2];omega)];rfl
   ·rw[setK_setN l f _ v (by rw[e2];omega)];rfl
  ·rfl
theorem setK_eq{α:Type}(t:Tr α)(n:Nat)(v:Option α):setK t n v=t.set n v:=setK_setN t n n v (Qw _)
theorem dropK_eq{α:Type}:∀(l:List α) (n:Nat),dropK l n=l.drop n
 | [],n=>by simp[dropK]
 | a::l,0=>rfl
 | a::l,n+1=>dropK_eq l n
theorem takeK_eq{α:Type}:∀(l:List α) (n:Nat),takeK l n=l.take n
 | [],n=>by simp[takeK]
 | a::l,0=>rfl
 | a::l,n+1=>by
  show a::takeK l n=_
  rw[takeK_eq l n];rfl
theorem lenK_eq{α:Type}:∀(l:List α) (n:Nat),lenK l n=l.length.beq n
 | [],0=>rfl
 | [],n+1=>rfl
 | a::l,0=>rfl
 | a::l,n+1=>lenK_eq l n
theorem nthK_eq{α:Type}:∀(l:List α) (n:Nat),nthK l n=l[n]?
 | [],n=>by simp[nthK]
 | a::l,0=>rfl
 | a::l,n+1=>by
  show nthK l n=_
  rw[nthK_eq l n];simp
theorem getB_nil{α:Type}:∀ p:List Bool,(getB p).f (.nil:Tr α)=none
 | []=>rfl
 | true::_=>rfl
 | false::_=>rfl
theorem getB_eq{α:Type}:∀(f n:Nat) (t:Tr α),(getB (Ur f n)).f t=Tr.getN f t n
 | 0,n,t=>by cases t<;>rfl
 | f+1,n,t=>by
  show (getB (@Bool.rec (fun _=>List Bool) (@Bool.rec (fun _=>List Bool) (false::Ur f (n.div 2).pred) (true::Ur f (n.div 2)) ((n.mod 2).beq 1)) [] (n.beq 0))).f t=_
  unfold Tr.getN
  cases n.beq 0
  ·cases (n.mod 2).beq 1
   ·cases t with
    | nil=>show none=Tr.getN f .nil _;rw[Tr.getN_nil]
    | node o l r=>exact getB_eq f _ r
   ·cases t with
    | nil=>show none=Tr.getN f .nil _;rw[Tr.getN_nil]
    | node o l r=>exact getB_eq f _ l
  ·cases t<;>rfl
theorem setB_eq{α:Type}:∀(f n:Nat) (t:Tr α) (v:Option α),(setB (Ur f n)).f t v=Tr.setN f t n v
 | 0,n,t,v=>by cases t<;>rfl
 | f+1,n,t,v=>by
  show (setB (@Bool.rec (fun _=>List Bool) (@Bool.rec (fun _=>List Bool) (false::Ur f (n.div 2).pred) (true::Ur f (n.div 2)) ((n.mod 2).beq 1)) [] (n.beq 0))).f t v=_
  unfold Tr.setN
  cases n.beq 0
  ·cases (n.mod 2).beq 1
   ·cases t with
    | nil=>show Tr.node none .nil ((setB _).f .nil v)=Tr.node none .nil (Tr.setN f .nil _ v);rw[setB_eq f]
    | node o l r=>show Tr.node o l ((setB _).f r v)=Tr.node o l (Tr.setN f r _ v);rw[setB_eq f]
   ·cases t with
    | nil=>show Tr.node none ((setB _).f .nil v) .nil=Tr.node none (Tr.setN f .nil _ v) .nil;rw[setB_eq f]
    | node o l r=>show Tr.node o ((setB _).f l v) r=Tr.node o (Tr.setN f l _ v) r;rw[setB_eq f]
  ·cases t<;>rfl
def evK(x:X)(fr:Fr):AV:=(evB x).f fr
theorem VM(x:X)(fr:Fr):evK x fr=ev fr x:=by
 cases x with
 | t n=>
  show (@Option.rec AV (fun _=>AV) .undef (fun v=>v) ((getB (Ur n n)).f fr.t))=((fr.t.get n).getD .undef)
  rw[getB_eq]
  show @Option.rec AV (fun _=>AV) .undef (fun v=>v) (fr.t.get n)=_
  cases fr.t.get n<;>rfl
 | c v=>rfl
theorem Jq(st:St)(o:Option AV):ofK st o=OpR.of st o:=by cases o<;>rfl
theorem ofStK_eq(o:Option St):ofStK o=OpR.ofSt o:=by cases o<;>rfl
theorem getO_eq(st:St)(id:Nat):getO st id=st.get id:=getK_eq _ _
theorem putO_eq(st:St)(id:Nat)(o:AO):putO st id o=st.put id o:=by show St.mk st.next (setK st.tr id (some o)) st.bt=_;rw[setK_eq];rfl
theorem newO_eq(st:St)(o:AO):newO st o=st.new o:=by show St.mk st.next.succ (setK st.tr st.next (some o)) st.bt=_;rw[setK_eq];rfl
theorem S3(agg:Bool)(n:Nat)(l:List AV):Kw agg n l=Ja agg n l:=by
 cases agg
 ·cases l with
  | nil=>rfl
  | cons c l=>cases l<;>rfl
 ·show (@Bool.rec (fun _=>Option AV) none (some (.agg l)) (lenK l n))=bif l.length.beq n then some (.agg l) else none
  rw[lenK_eq];cases l.length.beq n<;>rfl
theorem loadK_eq(agg:Bool)(n:Nat)(st:St)(v:AV):loadK agg n st v=Vf agg n st v:=by
 unfold loadK Vf
 cases v<;>try rfl
 ·rename_i id off
  show (@Option.rec (List AV) (fun _=>Option AV) none (fun cs=>Kw agg n (takeK (dropK cs off) n)) (rowK (getO st id)))=_
  rw[getO_eq]
  simp only[Wy]
  generalize st.get id=q
  cases q with
  | none=>rfl
  | some o=>
   cases o<;>try rfl
   ·show Kw agg n (takeK (dropK _ off) n)=_
    rw[S3,takeK_eq,dropK_eq];rfl
   ·show Kw agg n (takeK (dropK _ off) n)=_
    rw[S3,takeK_eq,dropK_eq];rfl
 ·show Kw agg n (takeK (dropK _ _) n)=_
  rw[S3,takeK_eq,dropK_eq];rfl
theorem layK_eq:∀(xs cs:List AV),layK xs cs=xs++cs.drop xs.length
 | [],cs=>rfl
 | x::xs,cs=>by
  show x::layK xs (@List.rec AV (fun _=>List AV) [] (fun _ l _=>l) cs)=_
  rw[layK_eq xs]
  cases cs with
  | nil=>simp
  | cons c cs=>simp
theorem setCK_eq:∀(cs:List AV) (off:Nat) (xs:List AV),off<=cs.length->setCK cs off xs=setCells cs off xs
 | [],off,xs,h=>by
  simp only[X2,Nat.le_zero_eq] at h
  subst h
  show layK xs []=_
  rw[layK_eq];simp[setCells]
 | c::cs,0,xs,h=>by
  show layK xs (c::cs)=_
  rw[layK_eq];simp[setCells]
 | c::cs,n+1,xs,h=>by
  show c::setCK cs n xs=_
  rw[setCK_eq cs n xs (by simpa using h)]
  simp only[setCells,Xf,QP]
  congr 3
  rw[show n+1+xs.length=(n+xs.length)+1 by omega,XH]
theorem storeK_eq(n:Nat)(st:St)(a x:AV):storeK n st a x=Vt n st a x:=by
 unfold storeK Vt
 cases a<;>try rfl
 rename_i id off
 show (@Option.rec (List AV) (fun _=>Option St) none (fun cs=>kif (lenK x.cells n&&(off.add n).ble cs.length&&x.cells.all AV.one) (some (putO st id (.row (setCK cs off x.cells)))) none) (rowWK (getO st id)))=_
 rw[getO_eq]
 simp only[]
 generalize st.get id=q
 cases q with
 | none=>rfl
 | some o=>
  cases o<;>try rfl
  rename_i cs
  show kif (lenK x.cells n&&(off.add n).ble cs.length&&x.cells.all AV.one) (some (putO st id (.row (setCK cs off x.cells)))) none=_
  rw[kif_eq,lenK_eq]
  simp only[]
  have e1:off.add n=off+n:=rfl
  rw[e1]
  cases hc:(x.cells.length.beq n&&(off+n).ble cs.length&&x.cells.all AV.one)
  ·rfl
  ·simp only[Qd] at hc
   have:=Qk hc.1.2
   simp only[Qi]
   rw[putO_eq,setCK_eq cs off _ (by omega)]
theorem partsB_eq(fr:Fr):∀(l:List (Nat × Nat × X)),(partsB l).f fr=WT fr l
 | []=>rfl
 | p::l=>by
  show (p.1,p.2.1,evK p.2.2 fr)::(partsB l).f fr=_
  rw[partsB_eq fr l,VM];rfl
theorem stK_eq{α:Type}(st:St)(k:St->α):stK st k=k st:=by
 cases st with
 | mk n t b=>cases b<;>rfl
def aopK(m:MOp)(fr:Fr)(st:St):OpR:=(aopB m).f fr st
theorem aopK_eq(m:MOp)(fr:Fr)(st:St):aopK m fr st=aop fr st m:=by
 cases m<;>try first | rfl | exact stK_eq st fun st=>aop fr st _
 case eqnil c pz op x y=>show OpR.of st (match eqNilA c op (evK x fr) (evK y fr) with | some v=>some v | none=>bif pz then eqPtrA c op (evK x fr) (evK y fr) else none)=_;rw[VM,VM];rfl
 case append bytes sz tg x y=>
  show (stK st fun st=>match Wd sz st (evK y fr) with
  | some (n,ys)=>match VX bytes sz st (evK x fr) n ys with
   | some (v,st')=>OpR.val v (tagA tg (evK x fr) v st')
   | none=>.stuck
  | none=>.stuck)=_
  rw[stK_eq,VM,VM];rfl
 case build zs ps=>show OpR.of st ((VN zs ((partsB ps).f fr)).map .agg)=_;rw[partsB_eq];rfl
 case bslice n zs ps=>show OpR.of st ((VN zs ((partsB ps).f fr)).map fun cs=>.lst n cs true)=_;rw[partsB_eq];rfl
 case mv x=>show OpR.val (evK x fr) st=_;rw[VM];rfl
 case pick c a b=>
  show pickK (evK c fr) (evK a fr) (evK b fr) st=_
  rw[VM,VM,VM]
  simp only[aop,pickK]
  cases ev fr c<;>try rfl
  simp only[kif_eq]
 case alloc zs=>show OpR.val (.ptr st.next 0) (newO st (.row zs))=_;rw[newO_eq];rfl
 case box fz x=>
  show @Bool.rec (fun _=>OpR) (.val (.ptr st.next 0) (newO st (.row (evK x fr).cells))) (.val (.fptr (evK x fr).cells 0) st) fz=_
  rw[VM,newO_eq]
  cases fz<;>rfl
 case load agg n x=>show ofK st (loadK agg n st (evK x fr))=_;rw[Jq,loadK_eq,VM];rfl
 case store n a x=>show ofStK (storeK n st (evK a fr) (evK x fr))=_;rw[ofStK_eq,storeK_eq,VM,VM];rfl
 case nilchk x=>show ofK st (Jd (evK x fr))=_;rw[Jq,VM];rfl
 case bin b op x y=>show ofK st (Vr b op (evK x fr) (evK y fr))=_;rw[Jq,VM,VM];rfl
 case un op x=>show ofK st (unA op (evK x fr))=_;rw[Jq,VM];rfl
 case conv k x=>show ofK st (convA k (evK x fr))=_;rw[Jq,VM];rfl
 case mkif t x=>show OpR.val (.iface t (evK x fr)) st=_;rw[VM];rfl
 case faddr off x=>show ofK st (WG off (evK x fr))=_;rw[Jq,VM];rfl
 case field agg off n x=>show ofK st (TN agg off n (evK x fr))=_;rw[Jq,VM];rfl
 case iaddr sz x i=>show ofK st (VC sz (evK x fr) (evK i fr))=_;rw[Jq,VM,VM];rfl
 case aaddr n sz x i=>show ofK st (UC n sz (evK x fr) (evK i fr))=_;rw[Jq,VM,VM];rfl
 case sidx x i=>show ofK st (sindexA (evK x fr) (evK i fr))=_;rw[Jq,VM,VM];rfl
 case extract i x=>show ofK st (WJ i (evK x fr))=_;rw[Jq,VM];rfl
 case len c x=>show ofK st (lenOpK c (evK x fr) st)=_;rw[Jq,VM];unfold lenOpK;rw[kif_eq];rfl
end
end Go.AM
namespace Go.AM
noncomputable section
theorem argsB_eq(fr:Fr):∀(l:List X),(argsB l).f fr=l.map (ev fr)
 | []=>rfl
 | a::l=>by
  show evK a fr::(argsB l).f fr=_
  rw[argsB_eq fr l,VM];rfl
theorem oprB_eq(Γ:Cg)(m:MOp)(fr:Fr)(st:St):(oprB m).f Γ fr st=opr Γ fr st m:=by
 have key:=aopK_eq m fr st
 cases m
 case call f xs=>
  show YJ Γ (evK f fr) ((argsB xs).f fr) st=_
  rw[argsB_eq,VM];rfl
 all_goals exact key
theorem putB_eq(fr:Fr)(d:Option Nat)(v:AV):(putB d).f fr v=Fr.put fr d v:=by
 cases d with
 | none=>rfl
 | some d=>
  show Fr.mk ((setB (Ur d d)).f fr.t (some v)) fr.ds=_
  rw[setB_eq];rfl
theorem wantB_eq(fr:Fr)(g:Option (Nat × Bool)):(wantB g).f fr=Vv fr g:=by
 cases g with
 | none=>rfl
 | some p=>
  obtain⟨t,want⟩:=p
  show (match evK (.t t) fr with
  | .bool b=>some (bif want then b else !b)
  | .undef=>some false
  | _=>none)=_
  rw[VM];rfl
theorem arunB_eq(Γ:Cg):∀(ms:List Vc) (fr:Fr) (st:St),(arunB ms).f Γ fr st=Vj Γ ms fr st
 | [],fr,st=>rfl
 | ⟨d,op,gd⟩::ms,fr,st=>by
  have ih:=arunB_eq Γ ms
  have core:(@OpR.rec (fun _=>RR) (fun v st'=>(arunB ms).f Γ ((putB d).f fr v) st') (fun v st'=>.pan fr v st')
     (@Option.rec Fr (fun _=>RR) .stuck (fun fr'=>(arunB ms).f Γ ((putB d).f fr' .undef) st) (Jr fr op)) ((oprB op).f Γ fr st)) =
    bif op.isDefer then (match Jr fr op with | some fr'=>Vj Γ ms (fr'.put d .undef) st | none=>.stuck) else match opr Γ fr st op with
     | .val v st'=>Vj Γ ms (fr.put d v) st'
     | .pan v st'=>.pan fr v st'
     | .stuck=>.stuck:=by
   rw[oprB_eq]
   simp only[putB_eq,ih]
   cases hd:op.isDefer with
   | true=>
    have:opr Γ fr st op=.stuck:=by cases op<;>first | rfl | cases hd
    rw[this]
    simp only[Qi]
    cases Jr fr op<;>rfl
   | false=>
    have hn:Jr fr op=none:=by cases op<;>first | rfl | cases hd
    rw[hn]
    simp only[Qq]
    cases opr Γ fr st op<;>rfl
  cases gd with
  | none=>
   refine core.trans ?_
   simp only[Vj,Vv]
   cases op.isDefer
   ·cases opr Γ fr st op<;>rfl
   ·cases Jr fr op<;>rfl
  | some g=>
   show (@Option.rec Bool (fun _=>RR) .stuck
    (fun b=>@Bool.rec (fun _=>RR) ((arunB ms).f Γ ((putB d).f fr .undef) st)
     (@OpR.rec (fun _=>RR) (fun v st'=>(arunB ms).f Γ ((putB d).f fr v) st') (fun v st'=>.pan fr v st')
      (@Option.rec Fr (fun _=>RR) .stuck (fun fr'=>(arunB ms).f Γ ((putB d).f fr' .undef) st) (Jr fr op)) ((oprB op).f Γ fr st)) b)
    ((wantB (some g)).f fr))=_
   rw[core]
   simp only[putB_eq,ih,Vj,wantB_eq]
   cases Vv fr (some g) with
   | none=>rfl
   | some b=>cases b<;>rfl
theorem oprDB_eq(Γ:Cg)(id:Nat)(m:MOp)(fr:Fr)(st:St):(oprDB m).f Γ id fr st=V5 Γ id fr st m:=by
 have key:=oprB_eq Γ m fr st
 cases m
 case alloc zs=>
  show allocD id st zs=_
  unfold allocD
  rw[getO_eq];rfl
 case mksl bytes sz zs l c=>rfl
 all_goals exact key
theorem nextB_eq(id:Nat)(m:MOp):(nextB m).f id=VJ id m:=by cases m<;>rfl
theorem preB_eq:∀(zs:List (Vc × Nat)) (ns:List Nat) (st:St),(preB zs).f ns st=VT zs ns st
 | [],_,_=>rfl
 | ⟨⟨d,op,gd⟩,a⟩::zs,ns,st=>by
  have ih:=preB_eq zs
  cases op
  case alloc cs=>show (preB zs).f ns (newO st _)=_;rw[newO_eq];exact ih _ _
  case mksl b s cs l c=>show (preB zs).f ns.tail (newO st _)=_;rw[newO_eq];exact ih _ _
  all_goals exact ih ns st
theorem drunB_eq(Γ:Cg):∀(zs:List (Vc × Nat)) (i id:Nat) (fr:Fr) (st:St) (pan:Option Nat),(drunB zs).f Γ i id fr st pan=Wq Γ zs i id fr st pan
 | [],_,_,_,_,_=>rfl
 | z::zs,i,id,fr,st,pan=>by
  have ih:=drunB_eq Γ zs
  show (@Bool.rec (fun _=>Option DR)
   (@Option.rec Bool (fun _=>Option DR) none
    (fun b=>@Bool.rec (fun _=>Option DR) (DR.cons (.val fr st .undef st) ((drunB zs).f Γ i.succ ((nextB z.1.op).f id) ((putB z.1.dst).f fr .undef) st pan))
     (@OpR.rec (fun _=>Option DR) (fun v st'=>DR.cons (.val fr st v st') ((drunB zs).f Γ i.succ ((nextB z.1.op).f id) ((putB z.1.dst).f fr v) st' pan))
      (fun v st'=>@Option.rec Nat (fun _=>Option DR) (DR.cons (.pan fr st v st') ((drunB zs).f Γ i.succ ((nextB z.1.op).f id) fr st (some i))) (fun _=>none) pan)
      none ((oprDB z.1.op).f Γ id fr st)) b)
    ((wantB z.1.guard).f fr))
   (DR.cons .dead ((drunB zs).f Γ i.succ ((nextB z.1.op).f id) fr st pan)) (Ku pan z.2))=_
  simp only[wantB_eq,oprDB_eq,nextB_eq,putB_eq,ih,Wq]
  cases Ku pan z.2 with
  | true=>rfl
  | false=>
   simp only[Qq]
   cases Vv fr z.1.guard with
   | none=>rfl
   | some b=>
    cases b with
    | false=>rfl
    | true=>
     simp only[]
     cases V5 Γ id fr st z.1.op with
     | val v st'=>rfl
     | pan v st'=>cases pan<;>rfl
     | stuck=>rfl
theorem sameK_eq(Γ:Cg)(id:Nat)(m:MOp)(fr:Fr)(st:St)(v:AV):sameK Γ id m fr st v=YF Γ id fr st m v:=by
 unfold sameK YF
 rw[oprDB_eq]
 cases V5 Γ id fr st m<;>rfl
theorem frzB_eq(m:MOp)(fr:Fr):(frzB m).f fr=W0 m fr:=by
 cases m<;>try rfl
 rename_i agg n x
 show @PV.rec (fun _=>Bool) (fun _ _=>false) (fun _ _=>true) false (pvK (evK x fr))=frzX fr x
 rw[VM]
 unfold frzX
 cases ev fr x<;>rfl
theorem chkK_eq(Γ:Cg)(zs:List (Vc × Nat))(its:List DIt)(id:Nat)(stE:St)(q:Nat × Option Nat):chkK Γ zs its id stE q=KE Γ zs its id stE q:=by
 unfold chkK KE
 have hb:∀(a b:Bool),@Bool.rec (fun _=>Bool) b true a=(a||b):=fun a b=>by cases a<;>rfl
 simp only[nthK_eq,wantB_eq,sameK_eq,frzB_eq,hb]<;>rfl
theorem adrawK_eq(Γ:Cg)(zs:List (Vc × Nat))(chk:List (Nat × Option Nat))(fr:Fr)(st:St):adrawK Γ zs chk fr st=VK Γ zs chk fr st:=by
 unfold adrawK VK
 rw[drunB_eq,preB_eq]
 have:∀ its stE,chkK Γ zs its st.next stE=KE Γ zs its st.next stE:=fun its stE=>by funext q;exact chkK_eq Γ zs its st.next stE q
 simp only[this]<;>rfl
theorem aloopK_eq(body:Fr->St->CR):∀(n:Nat) (fr:Fr) (st:St),aloopK body n fr st=Vx body n fr st
 | 0,_,_=>rfl
 | n+1,fr,st=>by
  show (@CR.rec (fun _=>CR) (fun fr st=>aloopK body n fr st) (fun i fr st=>.exit i fr st) (fun fr st=>.ret fr st) (fun fr v st=>.pan fr v st) .stuck (body fr st))=_
  unfold Vx
  cases body fr st<;>first | rfl | exact aloopK_eq body n _ _
theorem TU(Γ:Gam)(Y:Vi)(n:Nat)(mc:Vn):∀(ro:Option Nat) (fr:Fr) (st:St),WP Γ Y n mc ro fr st=Vh Γ Y n mc ro fr st:=by
 induction mc with
 | skip=>intro ro fr st;rfl
 | region ms=>
  intro ro fr st
  show rrK ((arunB ms).f (Γ.cg Y) fr st)=_
  rw[arunB_eq]
  unfold Vh
  cases Vj (Γ.cg Y) ms fr st<;>rfl
 | draw zs chk=>
  intro ro fr st
  show rrK (adrawK (Γ.cg Y) zs chk fr st)=_
  rw[adrawK_eq]
  unfold Vh
  cases VK (Γ.cg Y) zs chk fr st<;>rfl
 | seq a b iha ihb=>
  intro ro fr st
  show (@CR.rec (fun _=>CR) (fun fr st=>WP Γ Y n b ro fr st) (fun i fr st=>.exit i fr st) (fun fr st=>.ret fr st) (fun fr v st=>.pan fr v st) .stuck (WP Γ Y n a ro fr st))=_
  rw[iha]
  simp only[Vh]
  cases Vh Γ Y n a ro fr st<;>first | rfl | exact ihb ro _ _
 | cond c a b iha ihb=>
  intro ro fr st
  show condK (evK c fr) (WP Γ Y n a ro fr st) (WP Γ Y n b ro fr st)=_
  rw[iha,ihb,VM]
  simp only[Vh]
  unfold condK
  cases ev fr c<;>rfl
 | block id c ih=>
  intro ro fr st
  show (@CR.rec (fun _=>CR) (fun fr st=>.norm fr st) (fun i fr st=>@Bool.rec (fun _=>CR) (.exit i fr st) (.norm fr st) (i.beq id)) (fun fr st=>.ret fr st) (fun fr v st=>.pan fr v st) .stuck (WP Γ Y n c ro fr st))=_
  rw[ih]
  simp only[Vh]
  cases Vh Γ Y n c ro fr st<;>try rfl
  rename_i i _ _
  simp only[]
  cases i.beq id<;>rfl
 | loop c ih=>
  intro ro fr st
  show aloopK (WP Γ Y n c ro) n fr st=_
  rw[aloopK_eq]
  have:WP Γ Y n c ro=Vh Γ Y n c ro:=by funext fr st;exact ih ro fr st
  rw[this,Vh]
 | exit id=>intro ro fr st;rfl
 | ret=>intro ro fr st;rfl
 | rfun x ps a b iha ihb=>
  intro ro fr st
  have e1:∀ r,WP Γ Y n a r=Vh Γ Y n a r:=fun r=>by funext fr st;exact iha r fr st
  have e2:∀ r,WP Γ Y n b r=Vh Γ Y n b r:=fun r=>by funext fr st;exact ihb r fr st
  show (match evK x fr with
   | .func (.func g) first captured=>bif Γ.ent g&&roOk ro st then
     match Γ.call (Vi.set Y st.next (YZ (WP Γ Y n a (some st.next)) (WP Γ Y n b (some st.next)) st.next fr ps)) g (first++[AV.yld st.next]++captured) (st.new (.loop .ready)) with
     | .ret _ st2=>K8 st.next (Ko ro fr) st2
     | .pan v st2=>.pan (Ko ro fr) v st2
     | .stuck=>.stuck
    else .stuck
   | _=>.stuck)=_
  rw[VM,e1,e2];rfl
 | mrange it nx more out cl c ih=>
  intro ro fr st
  have e1:WP Γ Y n c ro=Vh Γ Y n c ro:=by funext fr st;exact ih ro fr st
  show Te (WP Γ Y n c ro) it nx more out cl fr st=_
  rw[e1];rfl
 | bad=>intro ro fr st;rfl
theorem abodyK_eq(Γ:Gam)(Y:Vi)(n:Nat)(DF:Nat->List AV->St->DM->Option (DM × St))(mf:Vm)(args:List AV)(st:St):abodyK Γ Y n DF mf args st=WK Γ Y n DF mf args st:=by
 unfold abodyK WK
 rw[kif_eq,TU]
 cases args.length.ble mf.N
 ·rfl
 ·simp only[Qi]
  cases Vh Γ Y n mf.code none (Vo 0 args Fr.nil) st<;>rfl
theorem arunCK_eq(tbl:Nat->Option Vm)(hand:Gam->Nat->Vi->Nat->List AV->St->FR):∀ n,arunCK tbl hand n=Ji tbl hand n
 | 0=>rfl
 | n+1=>by
  have ih:=arunCK_eq tbl hand n
  funext Y f args st
  show (@Option.rec Vm (fun _=>FR) (hand ⟨arunCK tbl hand n,Kz tbl⟩ n Y f args st) (fun mf=>abodyK ⟨arunCK tbl hand n,Kz tbl⟩ Y n (defT tbl ⟨arunCK tbl hand n,Kz tbl⟩ Y n) mf args st) (tbl f))=_
  rw[ih]
  unfold Ji
  cases tbl f with
  | none=>rfl
  | some mf=>exact abodyK_eq _ _ _ _ _ _ _
theorem gamK_eq(tbl:Nat->Option Vm)(hand:Gam->Nat->Vi->Nat->List AV->St->FR)(n:Nat):KD tbl hand n=Yt tbl hand n:=by
 unfold KD Yt;rw[arunCK_eq]
theorem runSegK_eq(Γ:Gam)(n:Nat):∀(j:Nat) (mc:Vn) (fr:Fr) (st:St),runSegK Γ n j mc fr st=U5 Γ n j mc fr st
 | 0,_,_,_=>by simp only[runSegK,U5]
 | j+1,mc,fr,st=>by
  cases mc<;>simp only[runSegK,U5,TU]
  cases Vh Γ Y0 n _ none fr st<;>first | rfl | exact runSegK_eq Γ n j _ _ _
theorem Wl{tbl:Nat->Option Vm}{hand:Gam->Nat->Vi->Nat->List AV->St->FR}{k n j:Nat}{mc:Vn}{F:Fr}{L:St}{F':Fr}{L':St}(h:Kn (KD tbl hand k) n j mc F L F' L'=true):pieceB (Yt tbl hand k) n j mc F L F' L'=true:=by
 unfold Kn at h
 unfold pieceB
 rw[runSegK_eq,gamK_eq] at h
 exact h
theorem lastK_of{tbl:Nat->Option Vm}{hand:Gam->Nat->Vi->Nat->List AV->St->FR}{k n:Nat}{mc:Vn}{F:Fr}{L:St}{res:List JV}{v:AV}(h:lastK (KD tbl hand k) n mc F L res v=true):lastB (Yt tbl hand k) n mc F L res v=true:=by
 unfold lastK at h
 unfold lastB
 rw[TU,gamK_eq] at h
 exact h
theorem lastRK_of{tbl:Nat->Option Vm}{hand:Gam->Nat->Vi->Nat->List AV->St->FR}{k n:Nat}{mc:Vn}{F:Fr}{L L':St}{res:List JV}{v:AV}(h:lastRK (KD tbl hand k) n mc F L res v L'=true):lastRB (Yt tbl hand k) n mc F L res v L'=true:=by
 unfold lastRK at h
 unfold lastRB
 rw[TU,gamK_eq] at h
 exact h
end
end Go.AM
