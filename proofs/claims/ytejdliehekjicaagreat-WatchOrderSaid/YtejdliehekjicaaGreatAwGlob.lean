import Derived.Test.YtejdliehekjicaaGreatAwComp
import Derived.RangeFuncRecord
import Derived.LoopNIn
import Derived.OrdersIn
import Derived.RangeFuncNested
set_option linter.unusedSimpArgs false
namespace Go.AM
@[simp] theorem Fr.put_ds (fr:Fr) (d:Option Nat) (v:AV):(Fr.put fr d v).ds=fr.ds:=by cases d<;>rfl
def FR0(b0:Option Nat):Fence:={ Fence.wide with round:=b0 }
def Yh(P:Program)(f:Nat):Prop:=∀ args w,(callFunc f args).run P w=.ok (.enter f args) w
def Ya(P:Program)(f:Nat)(vs:Array Value)(w:World)(R:Ending->World->Prop):Prop:=
 (Yh P f/\Calls P f vs w R)\/∃ v w',(callFunc f vs).run P w=.ok (.value v) w'/\R (.returned v) w'
def YCall(P:Program)(b:Nat)(vs:Array Value)(w:World)(R:Ending->World->Prop):Prop:=
 ∃ f tmps assign body,(Instr.yield b vs).run P w=.ok (.round b f tmps assign body) w/\RoundIn Fence.wide 0 P b f tmps assign body w R
def YO(E:Env)(w:World)(v:AV)(st':St):Ending->World->Prop:=fun e w'=>∃ u E',e=.returned u/\Ext E w E' w'/\Sat E' st' w'/\Rv E' w' v u
def PanR(E:Env)(w:World)(v:AV)(st':St):Ending->World->Prop:=fun e w'=>∃ u E',e=.panicked [{ v:=u,recovered:=false }]/\Ext E w E' w'/\Sat E' st' w'/\Rv E' w' v u
def FnOk(P:Program)(g:Nat->List AV->St->FR)(E:Env)(w:World):Prop:=∀(f:Nat) (args:List AV) (st:St) (vs:Array Value),RvL E w args vs.toList->Sat E st w ->
 (∀ v st',g f args st=.ret v st'->Ya P f vs w (YO E w v st'))/\(∀ v st',g f args st=.pan v st'->Ya P f vs w (PanR E w v st'))
def YldOk(P:Program)(y:Nat->List AV->St->FR)(E:Env)(w:World):Prop:=∀(id b:Nat) (args:List AV) (st:St) (vs:Array Value),E.β id=some b->RvL E w args vs.toList->Sat E st w ->
 ∀ v st',y id args st=.ret v st'->YCall P b vs w (YO E w v st')
structure U6(P:Program)(Γ:Cg)(E:Env)(w:World):Prop where
 fn:∀ E' w',Ext E w E' w'->FnOk P Γ.fn E' w'
 yld:∀ E' w',Ext E w E' w'->YldOk P Γ.yld E' w'
theorem U6.mono{P:Program}{Γ:Cg}{E E':Env}{w w':World}(h:U6 P Γ E w)(hx:Ext E w E' w'):U6 P Γ E' w':=
 ⟨fun _ _ h2=>h.fn _ _ (hx.trans h2),fun _ _ h2=>h.yld _ _ (hx.trans h2)⟩
def RvD(P:Program)(E:Env)(w:World)(B:Nat):Nat->List DA->List Deferred->Prop
 | _,[],l=>l=[]
 | U,.call n args::ds,l=>∃ d l' vs,l=d::l'/\(∃ fv cap,d.target=.fn fv cap)/\(∀ w,(invoke d.target d.args).run P w=(callFunc n vs).run P w)/\RvL E w args vs.toList/\RvD P E w B U ds l'
 | U,.coll::ds,l=>∃ d l' D,l=d::l'/\d.target=.collected D/\B<=D/\D < U/\E.Dz D=some (.deferred (some []))/\RvD P E w B D ds l'
theorem RvD.mono{P:Program}{E E':Env}{w w':World}{B:Nat}(hx:Ext E w E' w'):∀{ds:List DA} {l:List Deferred} {U U':Nat},U<=U'->RvD P E w B U ds l->RvD P E' w' B U' ds l
 | [],_,_,_,_,h=>h
 | .call n args::ds,_,_,_,hU,⟨d,l',vs,h1,h2,h3,h4,h5⟩=>⟨d,l',vs,h1,h2,h3,RvL.mono hx _ _ h4,RvD.mono hx hU h5⟩
 | .coll::ds,_,_,_,hU,⟨d,l',D,h1,h2,h3,h4,h5,h6⟩=>⟨d,l',D,h1,h2,h3,by omega,hx.Dz _ _ h5,RvD.mono hx (Qw _) h6⟩
structure RvA(P:Program)(E:Env)(w:World)(N B:Nat)(fr:Fr)(a:Act):Prop where
 f:RvF E w fr a
 n:a.tmps.size=N
 d:RvD P E w B w.heap.size fr.ds a.defers
 b:B<=w.heap.size
structure RvP(P:Program)(E:Env)(w:World)(B:Nat)(fr:Fr)(a:Act):Prop where
 f:∀ n v,fr.get n=some v->Rv E w v (a.tmps.getD n undef)
 d:RvD P E w B w.heap.size fr.ds a.defers
section
variable {P:Program} {Γ:Cg}
theorem RvF.put{E:Env}{w:World}{fr:Fr}{a:Act}{v:AV}{u:Value}{d:Option Nat}(hf:RvF E w fr a)(hv:Rv E w v u)(hd:Un a.tmps.size d=true):RvF E w (Fr.put fr d v) (a.put d u):=by
 cases d with
 | none=>exact hf
 | some d=>
  have hd:=Qk hd
  intro n
  simp only[Fr.put,Act.put,Fr.get_set]
  by_cases hn:n=d
  ·subst hn
   simp only[Xj,Q9]
   have:(a.tmps.setIfInBounds n u).getD n undef=u:=by
    simp[QA,(show n < a.tmps.size by omega)]
   rw[this];exact hv
  ·simp only[Qe hn]
   have:(a.tmps.setIfInBounds d u).getD n undef=a.tmps.getD n undef:=by
    simp[QA,Zv (show d≠n by omega)]
   rw[this];exact hf n
theorem RvF.mono{E E':Env}{w w':World}{fr:Fr}{a:Act}(h:Ext E w E' w')(hf:RvF E w fr a):RvF E' w' fr a:=fun n=>Rv.mono h _ _ (hf n)
theorem put_size(a:Act)(d:Option Nat)(u:Value):(a.put d u).tmps.size=a.tmps.size:=by cases d<;>simp[Act.put]
theorem put_defers'(a:Act)(d:Option Nat)(u:Value):(a.put d u).defers=a.defers:=by cases d<;>rfl
theorem JG{E:Env}{w:World}{fr:Fr}{a:Act}{ops:Array Oper}{o:Oper}{g:Option (Nat × Bool)}{b:Bool}(hf:RvF E w fr a)(hg:cguard ops o=some g)(hw:Vv fr g=some b):
  Region.wanted o (yielded ops a.tmps)=b:=by
 unfold cguard at hg
 unfold Region.wanted
 cases ho:o.guard with
 | none=>simp only[ho,Qa] at hg;subst hg;simp[Vv] at hw;simp[hw]
 | some q=>
  obtain⟨j,want⟩:=q
  simp only[ho,Qf] at hg
  obtain⟨t,ht,rfl⟩:=hg
  simp only[Vv] at hw
  have hr:=hf t
  have hy:∀ v,a.tmps.getD t undef=v->yielded ops a.tmps j=match v with | .bool b=>(if t < a.tmps.size then some b else none) | _=>none:=fun v hv=>by
   unfold yielded
   rw[ht]
   simp only[Qg]
   by_cases hlt:t < a.tmps.size
   ·have:a.tmps[t]?=some v:=by
     rw[QA] at hv
     rw[QM hlt] at hv ⊢
     simpa using hv
    rw[this];simp only[hlt,Xj];cases v<;>rfl
   ·rw[Zp (by omega)]
    rw[QA,Zp (by omega)] at hv
    simp only[X5] at hv
    subst hv;rfl
  cases hv:(fr.get t).getD .undef<;>simp only[hv,Qa,reduceCtorEq] at hw
  ·rw[hv] at hr
   have hr:a.tmps.getD t undef=.tuple #[]:=hr
   simp only[hy _ hr];subst hw;simp
  ·rw[hv] at hr
   rename_i c
   have hr:a.tmps.getD t undef=.bool c:=hr
   have hlt:t < a.tmps.size:=by
    by_cases hlt:t < a.tmps.size
    ·exact hlt
    ·rw[QA,Zp (by omega)] at hr;simp[undef] at hr
   simp only[hy _ hr,hlt,Xj]
   subst hw
   cases want<;>cases c<;>rfl
theorem RvA.mono{E E':Env}{w w':World}{N B:Nat}{fr:Fr}{a:Act}(h:Ext E w E' w')(ha:RvA P E w N B fr a):RvA P E' w' N B fr a:=⟨ha.f.mono h,ha.n,ha.d.mono h h.size,QY ha.b h.size⟩
theorem RvP.mono{E E':Env}{w w':World}{B:Nat}{fr:Fr}{a:Act}(h:Ext E w E' w')(ha:RvP P E w B fr a):RvP P E' w' B fr a:=⟨fun n v hn=>Rv.mono h _ _ (ha.f n v hn),ha.d.mono h h.size⟩
theorem RvF.part{E:Env}{w:World}{fr:Fr}{a:Act}(h:RvF E w fr a):∀ n v,fr.get n=some v->Rv E w v (a.tmps.getD n undef):=fun n v hn=>by
 have:=h n
 rw[hn] at this
 exact this
theorem RvA.toP{E:Env}{w:World}{N B:Nat}{fr:Fr}{a:Act}(h:RvA P E w N B fr a):RvP P E w B fr a:=⟨h.f.part,h.d⟩
theorem RvA.put{E:Env}{w:World}{N B:Nat}{fr:Fr}{a:Act}{v:AV}{u:Value}{d:Option Nat}(h:RvA P E w N B fr a)(hv:Rv E w v u)(hd:Un N d=true):RvA P E w N B (Fr.put fr d v) (a.put d u):=
 ⟨h.f.put hv (by rw[h.n];exact hd),by rw[put_size];exact h.n,by rw[put_defers',Fr.put_ds];exact h.d,h.b⟩
theorem cop_noDefer{fz:Bool}{o:Oper}{m:MOp}(h:cop P fz o=some m):∀ c,o.op≠.defer c:=by
 intro c hc
 unfold cop U3 cop1 at h
 simp[hc] at h
theorem UX(b0:Option Nat):(FR0 b0).depth.isSome=true->1<=0:=fun h=>by cases h
theorem UN{E:Env}{w:World}{fr:Fr}{a:Act}{st:St}{o:Oper}{fz:Bool}{b0:Option Nat}{K:Act->World->Prop}{Q:Exit->Act->World->Prop}(hΓ:U6 P Γ E w)(hf:RvF E w fr a)(hs:Sat E st w)
  (r:OpR) (hr:opr Γ fr st ((cop P fz o).getD .bad)=r)
  (hval:∀ v st',r=.val v st'->∀ E' w' u,Ext E w E' w'->Sat E' st' w'->Rv E' w' v u->K (a.put o.dst u) w')
  (hpan:∀ v st',r=.pan v st'->∀ E' w' u,Ext E w E' w'->Sat E' st' w'->Rv E' w' v u->Q (.panic [{ v:=u,recovered:=false }]) a w') (hst:r≠.stuck):o.wpIn (FR0 b0) 0 P a w K Q:=by
 cases hc:cop P fz o with
 | none=>simp[hc,opr,aop] at hr;exact absurd hr.symm hst
 | some m=>
  simp only[hc,Q9] at hr
  refine⟨fun _ _=>trivial,?_⟩
  rw[Oper.semAt_eq _ _ _ (cop_noDefer hc)]
  by_cases hcall:m.isCall=true
  ·
   cases m<;>simp[MOp.isCall] at hcall
   rename_i f xs
   simp only[opr] at hr
   obtain⟨fo,args,ts,ho,hfo,hxs⟩:=cop_call hc
   have hfv:=Vl hf hfo
   have hav:=JF hf hxs
   unfold YJ at hr
   split at hr
   ·rename_i n first captured hfe
    rw[hfe] at hfv
    obtain⟨v1,v2,e1,h1,h2⟩:=hfv
    have hargs:RvL E w (first++xs.map (ev fr)++captured) (v1++args.map a.eval++v2).toList:=by
     simp only[Zi,ZT]
     exact(h1.append hav).append h2
    have hS:=hΓ.fn E w (Ext.refl _ _) n _ st _ hargs hs
    have hrun:(execOp a.eval o).run P w=(callFunc n (v1++args.map a.eval++v2)).run P w:=by
     simp only[execOp,ho,resolve,e1,Deferred.ofValue,Sem.run_bind,Sem.run_pure,Result.andThen,invoke]
    rw[hrun]
    cases hg:Γ.fn n (first++xs.map (ev fr)++captured) st with
    | ret v st'=>
     rw[hg] at hr
     rcases hS.1 v st' hg with⟨hen,hcall⟩|⟨u,w',hv,u',E',h3,h4,h5,h6⟩
     ·rw[hen]
      refine⟨UX b0,(callsIn_wide (n:=0)).2 (hcall.mono fun e w' ⟨u,E',h3,h4,h5,h6⟩=>?_)⟩
      subst h3
      exact hval v st' hr.symm E' w' u h4 h5 h6
     ·rw[hv]
      injection h3 with h3;subst h3
      exact hval v st' hr.symm E' w' u h4 h5 h6
    | pan v st'=>
     rw[hg] at hr
     rcases hS.2 v st' hg with⟨hen,hcall⟩|⟨u,w',hv,u',E',h3,h4,h5,h6⟩
     ·rw[hen]
      refine⟨UX b0,(callsIn_wide (n:=0)).2 (hcall.mono fun e w' ⟨u,E',h3,h4,h5,h6⟩=>?_)⟩
      subst h3
      exact hpan v st' hr.symm E' w' u h4 h5 h6
     ·cases h3
    | stuck=>rw[hg] at hr;exact absurd hr.symm hst
   ·rename_i id hfe
    rw[hfe] at hfv
    obtain⟨b,hb,e1⟩:=hfv
    have hargs:RvL E w (xs.map (ev fr)) (args.map a.eval).toList:=by simpa using hav
    split at hr
    ·rename_i v st' hg
     obtain⟨f',tmps,assign,body,hy,hround⟩:=hΓ.yld E w (Ext.refl _ _) id b _ st _ hb hargs hs v st' hg
     have hrun:(execOp a.eval o).run P w=(Instr.yield b (args.map a.eval)).run P w:=by
      simp only[execOp,ho,resolve,e1,Deferred.ofValue,Sem.run_bind,Sem.run_pure,Result.andThen,invoke]
      simp
     rw[hrun,hy]
     have hR:RoundIn (FR0 b0) 0 P b f' tmps assign body w (YO E w v st'):=hround
     refine⟨UX b0,hR.mono fun e w' ⟨u,E',h3,h4,h5,h6⟩=>?_⟩
     subst h3
     exact hval v st' hr.symm E' w' u h4 h5 h6
    ·exact absurd hr.symm hst
   ·exact absurd hr.symm hst
  ·have hcall:m.isCall=false:=by simpa using hcall
   have hr':aop fr st m=r:=by cases m<;>simp[MOp.isCall] at hcall<;>exact hr
   have:=cop_sound hf hs hc hcall
   rw[hr'] at this
   cases r with
   | val v st'=>
    obtain⟨u,w',E',h1,h2,h3,h4⟩:=this
    rcases h1 with h1|⟨h1,h5⟩
    ·rw[h1];exact hval v st' rfl E' w' u h2 h3 h4
    ·rw[h1];subst h5;exact hval v st' rfl E' w' _ h2 h3 h4
   | pan v st'=>
    obtain⟨u,w',E',h1,h2,h3,h4⟩:=this
    rw[h1];exact hpan v st' rfl E' w' u h2 h3 h4
   | stuck=>exact absurd rfl hst
def U9(P:Program)(E:Env)(w:World)(N B:Nat)(r:RR):Exit->Act->World->Prop:=fun e a' w'=>
 match r with
 | .ok fr st=>e=.normal/\∃ E',Ext E w E' w'/\Sat E' st w'/\RvA P E' w' N B fr a'
 | .pan fr v st=>∃ u E',e=.panic [{ v:=u,recovered:=false }]/\Ext E w E' w'/\Sat E' st w'/\Rv E' w' v u/\RvP P E' w' B fr a'
 | .stuck=>False
theorem U9.mono{E E1:Env}{w w1:World}{N B:Nat}{r:RR}(h:Ext E w E1 w1){e:Exit}{a:Act}{w':World}(hr:U9 P E1 w1 N B r e a w'):U9 P E w N B r e a w':=by
 cases r with
 | ok fr st=>obtain⟨h1,E',h2,h3⟩:=hr;exact⟨h1,E',h.trans h2,h3⟩
 | pan fr v st=>obtain⟨u,E',h1,h2,h3⟩:=hr;exact⟨u,E',h1,h.trans h2,h3⟩
 | stuck=>exact hr.elim
def WI(F:Fence)(n:Nat)(P:Program)(ops:Array Oper)(Q:Exit->Act->World->Prop):List Oper->Act->World->Prop
 | [],a,w=>Q .normal a w
 | o::l,a,w=>if Region.wanted o (yielded ops a.tmps) then o.wpIn F n P a w (WI F n P ops Q l) Q
  else (∀ f,o.about P w a.eval=some f->F.fn f)/\WI F n P ops Q l (a.put o.dst undef) w
theorem uponIn_mono{F:Fence}{n:Nat}{o:Oper}{a:Act}{K K':Act->World->Prop}{Q Q':Exit->Act->World->Prop}(hk:∀ a w,K a w->K' a w)(hq:∀ e a w,Q e a w->Q' e a w){r:Result Next}(h:o.uponIn F n P a K Q r):o.uponIn F n P a K' Q' r:=by
 have hl:LetsOut Q->LetsOut Q':=fun⟨a0,w0,h0⟩=>⟨a0,w0,hq _ _ _ h0⟩
 cases r with
 | ok x w'=>
  cases x with
  | row row args=>exact⟨h.1,h.2.mono fun v w'' he=>hk _ _ he⟩
  | enter f args=>
   exact⟨h.1,h.2.mono fun e w'' he=>by
    cases e
    ·exact hk _ _ he
    ·exact hq _ _ _ he
    ·exact hl he⟩
  | round l f tmps assign body=>
   exact⟨h.1,h.2.mono fun e w'' he=>by
    cases e
    ·exact hk _ _ he
    ·exact hq _ _ _ he
    ·exact hl he⟩
  | value v=>exact hk _ _ h
  | skip=>exact hk _ _ h
  | defer d=>exact hk _ _ h
  | _=>exact h.elim
 | halt x w'=>cases x<;>simp only[Oper.uponIn] at h ⊢<;>exact hq _ _ _ h
theorem Jo{F:Fence}{n:Nat}{ops:Array Oper}{Q Q':Exit->Act->World->Prop}(hq:∀ e a w,Q e a w->Q' e a w):∀(l:List Oper) (a:Act) (w:World),WI F n P ops Q l a w->WI F n P ops Q' l a w
 | [],_,_,h=>hq _ _ _ h
 | o::l,a,w,h=>by
  unfold WI at *
  split
  ·rename_i hw;simp only[hw,Xj] at h
   exact⟨h.1,uponIn_mono (fun a w=>Jo hq l a w) hq h.2⟩
  ·rename_i hw;simp only[hw] at h;exact⟨h.1,Jo hq l _ _ h.2⟩
theorem UJ{F:Fence}{n:Nat}{ops:Array Oper}{Q:Exit->Act->World->Prop}:∀(os:List Oper) (i:Nat) (a:Act) (w:World),(∀ k,k < os.length->ops[i+k]?=os[k]?)->WI F n P ops Q os a w->wpOpsIn F n P ops Q (List.range' i os.length) a w
 | [],_,_,_,_,h=>h
 | o::os,i,a,w,hk,h=>by
  have h0:=hk 0 (by simp)
  simp only[XA,Q0] at h0
  have hr:∀ k,k < os.length->ops[i+1+k]?=os[k]?:=fun k hlt=>by
   have:=hk (k+1) (by simp;omega)
   rw[show i+1+k=i+(k+1) by omega,this];simp
  simp only[QC,ZU,wpOpsIn,h0]
  unfold WI at h
  split
  ·rename_i hw;simp only[hw,Xj] at h
   exact⟨h.1,uponIn_mono (fun a w=>UJ os (i+1) a w hr) (fun _ _ _ h=>h) h.2⟩
  ·rename_i hw;simp only[hw] at h
   exact⟨h.1,UJ os (i+1) _ w hr h.2⟩
theorem Ty{F:Fence}{n id:Nat}{ops:Array Oper}{Q:Exit->Act->World->Prop}{a:Act}{w:World}(h:WI F n P ops Q ops.toList a w):(Code.region id ops false).wpIn F n P Q a w:=by
 refine wpIn_region ?_
 have:=UJ (n:=n) (F:=F) (Q:=Q) (ops:=ops) ops.toList 0 a w (fun k _=>by simp) h
 rw[Zy]
 simpa using this
theorem cspec_defer{rd:Bool}{o:Oper}{m:MOp}(h:YD rd o=some m)(hd:m.isDefer=true):rd=false/\∃ fo args ts f xs,m=.defer f xs/\o.op=.defer { callee:=.value fo,args,argTypes:=ts }/\cx fo=some f/\cxs args.toList=some xs:=by
 unfold YD at h
 split at h
 ·rename_i fo args ts ho
  cases rd with
  | true=>cases h
  | false=>
   simp only[Qq,Qh,Qf] at h
   obtain⟨f,h1,xs,h2,rfl⟩:=h
   exact⟨rfl,fo,args,ts,f,xs,rfl,ho,h1,h2⟩
 ·injection h with h;subst h;cases hd
 ·cases h
theorem KN{ops:Array Oper}{N B:Nat}{rd:Bool}{pol:Nat->Bool}{b0:Option Nat}(hrd:rd=false->b0=none):∀(os:List Oper) (i:Nat) (ms:List Vc) (E:Env) (w:World) (fr:Fr) (a:Act) (st:St) (r:RR),
  U6 P Γ E w->Yx P ops N rd pol i os=some ms->Vj Γ ms fr st=r->r≠.stuck->RvA P E w N B fr a->Sat E st w->WI (FR0 b0) 0 P ops (U9 P E w N B r) os a w
 | [],i,ms,E,w,fr,a,st,r,hΓ,hc,hr,hst,hf,hs=>by
  simp only[Yx,Qa] at hc;subst hc
  simp only[Vj] at hr;subst hr
  exact⟨rfl,E,Ext.refl _ _,hs,hf⟩
 | o::os,i,ms,E,w,fr,a,st,r,hΓ,hc,hr,hst,hf,hs=>by
  simp only[Yx,Qh,Qf] at hc
  obtain⟨m,hm,ms',hms,rfl⟩:=hc
  simp only[coper,Qh] at hm
  obtain⟨g,hg,hm⟩:=hm
  cases hd:Un N o.dst
  ·simp[hd] at hm
  ·simp only[hd,Qi,Qa] at hm
   unfold WI
   have hmg:m.guard=g:=by rw[<-hm]
   have hmd:m.dst=o.dst:=by rw[<-hm]
   have hmo:m.op=match YD rd o with | some m=>m | none=>(cop P (pol i) o).getD .bad:=by subst hm;rfl
   simp only[Vj,hmg,hmd] at hr
   cases hw:Vv fr g with
   | none=>simp only[hw] at hr;exact absurd hr.symm hst
   | some b=>
    have hwant:=JG hf.f hg hw
    cases b with
    | false=>
     simp only[hw] at hr
     simp only[hwant,Q1,Xz]
     exact⟨fun _ _=>trivial,KN hrd os (i+1) ms' E w _ _ st r hΓ hms hr hst (hf.put rfl hd) hs⟩
    | true=>
     simp only[hw] at hr
     simp only[hwant,Xj]
     cases hisd:m.op.isDefer with
     | true=>
      simp only[hisd,Qi] at hr
      cases hsp:YD rd o with
      | none=>
       rw[hsp] at hmo
       simp only at hmo
       cases hc:cop P (pol i) o with
       | none=>rw[hc] at hmo;rw[hmo] at hisd;cases hisd
       | some m'=>
        rw[hc] at hmo
        have:=cop_special hc
        rw[hmo] at hisd
        simp only[Q9] at hisd
        cases m'<;>simp[MOp.isDefer,MOp.special] at hisd this
      | some m'=>
       rw[hsp] at hmo
       simp only at hmo
       rw[hmo] at hisd hr
       obtain⟨hrd',fo,args,ts,f,xs,rfl,ho,h1,h2⟩:=cspec_defer hsp hisd
       have hb0:=hrd hrd'
       subst hb0
       simp only[Jr] at hr
       have hfv:=Vl hf.f h1
       have hav:=JF hf.f h2
       cases hfe:ev fr f with
       | func fn first captured=>
        cases fn with
        | func n=>
         rw[hfe] at hr hfv
         simp only at hr
         obtain⟨v1,v2,e1,h3,h4⟩:=hfv
         have hrun:(execOp a.eval o).run P w=.ok (.defer { target:=.fn (.func n) v2,args:=v1++args.map a.eval }) w:=by
          simp only[execOp,ho,resolve,e1,Deferred.ofValue,Sem.run_bind,Sem.run_pure,Result.andThen]
         refine⟨fun _ _=>trivial,?_⟩
         have hsem:(o.semAt (FR0 none).round a.eval).run P w=(execOp a.eval o).run P w:=rfl
         rw[hsem,hrun]
         have hargs:RvL E w (first++xs.map (ev fr)++captured) (v1++args.map a.eval++v2).toList:=by
          simp only[Zi,ZT]
          exact(h3.append hav).append h4
         refine KN hrd os (i+1) ms' E w _ _ st r hΓ hms hr hst (RvA.put (fr:={ fr with ds:=_ }) (a:={ a with defers:=_ }) ⟨hf.f,hf.n,?_,hf.b⟩ rfl hd) hs
         exact⟨_,_,v1++args.map a.eval++v2,rfl,⟨_,_,rfl⟩,fun _=>rfl,hargs,hf.d⟩
        | _=>rw[hfe] at hr;exact absurd hr.symm hst
       | _=>rw[hfe] at hr;exact absurd hr.symm hst
     | false=>
      simp only[hisd,Qq] at hr
      cases hsp:YD rd o with
      | some m'=>
       rw[hsp] at hmo
       simp only at hmo
       exfalso
       unfold YD at hsp
       split at hsp
       ·cases rd with
        | true=>cases hsp
        | false=>
         simp only[Qq,Qh,Qf] at hsp
         obtain⟨f,_,xs,_,rfl⟩:=hsp
         rw[hmo] at hisd;cases hisd
       ·injection hsp with hsp
        rw[hmo,<-hsp] at hr
        exact hst hr.symm
       ·cases hsp
      | none=>
       rw[hsp] at hmo
       simp only at hmo
       rw[hmo] at hr
       cases ho:opr Γ fr st ((cop P (pol i) o).getD .bad) with
       | stuck=>simp only[ho] at hr;exact absurd hr.symm hst
       | pan v st'=>
        simp only[ho] at hr
        refine UN hΓ hf.f hs _ ho (fun v' st'' h=>by cases h) (fun v' st'' h E' w' u h1 h2 h3=>?_) (by simp)
        cases h
        subst hr
        exact⟨u,E',rfl,h1,h2,h3,(hf.mono h1).toP⟩
       | val v st'=>
        simp only[ho] at hr
        refine UN hΓ hf.f hs _ ho (fun v' st'' h E' w' u h1 h2 h3=>?_) (fun v' st'' h=>by cases h) (by simp)
        cases h
        exact Jo (fun _ _ _ hq=>U9.mono h1 hq) _ _ _ (KN hrd os (i+1) ms' E' w' _ _ st' r (hΓ.mono h1) hms hr hst ((hf.mono h1).put h3 hd) h2)
end
end Go.AM
namespace Go.AM
theorem UI{fr fr':Fr}{ps:List (Nat × Nat × X)}(h:∀ x∈ps.map (fun p=>p.2.2),ev fr x=ev fr' x):WT fr ps=WT fr' ps:=by
 unfold WT
 exact QX fun p hp=>by rw[h p.2.2 (Q6.2 ⟨p,hp,rfl⟩)]
theorem KZ{fr fr':Fr}{o:Option X}(h:∀ x∈o.toList,ev fr x=ev fr' x):o.map (ev fr)=o.map (ev fr'):=by
 cases o with
 | none=>rfl
 | some x=>simp[h x (by simp)]
theorem opr_congr{Γ:Cg}{fr fr':Fr}{st:St}{m:MOp}(h:∀ x∈m.xs,ev fr x=ev fr' x):opr Γ fr st m=opr Γ fr' st m:=by
 cases m<;>simp only[MOp.xs] at h
 case build zs ps=>simp only[opr,aop,UI h]
 case bslice n zs ps=>simp only[opr,aop,UI h]
 case bsliceO e n sz zs ps=>simp only[opr,aop,UI h]
 case mkfn f xs ys=>
  have h1:xs.map (ev fr)=xs.map (ev fr'):=QX fun x hx=>h x (by simp[hx])
  have h2:ys.map (ev fr)=ys.map (ev fr'):=QX fun x hx=>h x (by simp[hx])
  simp only[opr,aop,h1,h2]
 case slice sz x lo hi mx=>
  simp only[opr,aop,h x (by simp),KZ (fr:=fr) (fr':=fr') (o:=lo) (fun y hy=>h y (by simp[XZ.1 hy])),KZ (fr:=fr) (fr':=fr') (o:=hi) (fun y hy=>h y (by simp[XZ.1 hy])),
   KZ (fr:=fr) (fr':=fr') (o:=mx) (fun y hy=>h y (by simp[XZ.1 hy]))]
 case sliceS x lo hi=>
  simp only[opr,aop,h x (by simp),KZ (fr:=fr) (fr':=fr') (o:=lo) (fun y hy=>h y (by simp[XZ.1 hy])),KZ (fr:=fr) (fr':=fr') (o:=hi) (fun y hy=>h y (by simp[XZ.1 hy]))]
 case max x xs=>
  have h1:xs.map (ev fr)=xs.map (ev fr'):=QX fun y hy=>h y (by simp[hy])
  simp only[opr,aop,h x (by simp),h1]
 case min x xs=>
  have h1:xs.map (ev fr)=xs.map (ev fr'):=QX fun y hy=>h y (by simp[hy])
  simp only[opr,aop,h x (by simp),h1]
 case call f xs=>
  have h1:xs.map (ev fr)=xs.map (ev fr'):=QX fun y hy=>h y (by simp[hy])
  simp only[opr,h f (by simp),h1]
 case defer f xs=>rfl
 all_goals simp only[Qx,QI,Xh,forall_eq_or_imp,forall_eq,false_imp_iff,implies_true] at h
 all_goals first
  | (simp only[opr,aop,h];done)
  | (obtain⟨h1,h2⟩:=h;simp only[opr,aop,h1,h2];done)
  | (obtain⟨h1,h2,h3⟩:=h;simp only[opr,aop,h1,h2,h3];done)
  | rfl
def MOp.ahead:MOp->Bool
 | .alloc _=>true
 | .mksl _ _ _ _ _=>true
 | _=>false
theorem oprD_congr{Γ:Cg}{id:Nat}{fr fr':Fr}{st:St}{m:MOp}(h:∀ x∈m.xs,ev fr x=ev fr' x):V5 Γ id fr st m=V5 Γ id fr' st m:=by
 have:=opr_congr (Γ:=Γ) (st:=st) h
 cases m
 case mksl bytes sz zs l c=>
  simp only[V5]
  rw[h l (by simp[MOp.xs]),h c (by simp[MOp.xs])]
 all_goals simp only[V5]<;>exact this
theorem of_still{st:St}{r:Option AV}:OpR.of st r=.stuck\/∃ v,OpR.of st r=.val v st:=by
 cases r with
 | none=>exact .inl rfl
 | some v=>exact .inr ⟨v,rfl⟩
theorem SH{Γ:Cg}{id:Nat}{fr:Fr}{st:St}{m:MOp}(he:m.effect=false):V5 Γ id fr st m=.stuck\/∃ v,V5 Γ id fr st m=.val v st:=by
 cases m<;>simp only[MOp.effect,reduceCtorEq,Z5] at he
 case alloc zs=>
  unfold V5
  simp only
  split
  ·cases h:VG _ zs
   ·exact .inl rfl
   ·exact .inr ⟨_,rfl⟩
  ·exact .inl rfl
 case box fz x=>subst he;exact .inr ⟨_,rfl⟩
 case pick c a b=>
  simp only[V5,opr,aop]
  split
  ·exact .inr ⟨_,rfl⟩
  ·exact .inl rfl
 all_goals first
  | exact of_still
  | exact .inr ⟨_,rfl⟩
  | exact .inl rfl
theorem of_pure{st st1 st':St}{r:Option AV}{v:AV}(h:OpR.of st r=.val v st1):OpR.of st' r=.val v st':=by
 cases r with
 | none=>cases h
 | some u=>simp only[OpR.of,OpR.val.injEq,ZW] at h ⊢;exact h.1
theorem oprD_pure{Γ:Cg}{id:Nat}{fr:Fr}{st st1 st':St}{m:MOp}{v:AV}(he:m.effect=false)(hr:m.reads=false)(h:V5 Γ id fr st m=.val v st1):V5 Γ id fr st' m=.val v st':=by
 cases m<;>simp only[MOp.effect,MOp.reads,reduceCtorEq,Z5] at he hr
 case box fz x=>subst he;simp only[V5,opr,aop,Qi,OpR.val.injEq,ZW] at h ⊢;exact h.1
 case pick c a b=>
  simp only[V5,opr,aop] at h ⊢
  split at h
  ·simp only[OpR.val.injEq] at h;simp only[OpR.val.injEq,ZW];exact h.1
  ·cases h
 case bad=>cases h
 case defer f xs=>cases h
 case recov=>cases h
 all_goals first
  | exact of_pure h
  | (simp only[V5,opr,aop,OpR.val.injEq,ZW] at h ⊢;exact h.1)
def frL:List (Vc × Nat)->List DIt->(Nat->Bool)->Nat->Fr->Fr
 | z::zs,.val _ _ v _::its,L,i,fr=>frL zs its L (i+1) (bif L i then Fr.put fr z.1.dst v else fr)
 | _::zs,_::its,L,i,fr=>frL zs its L (i+1) fr
 | _,_,_,_,fr=>fr
def stL:List (Vc × Nat)->List DIt->(Nat->Bool)->Nat->St->St
 | z::zs,.val _ _ _ st'::its,L,i,st=>stL zs its L (i+1) (bif L i&&z.1.op.effect then st' else st)
 | _::zs,_::its,L,i,st=>stL zs its L (i+1) st
 | _,_,_,_,st=>st
theorem YE:∀(zs:List (Vc × Nat)) (its:List DIt) (L L':Nat->Bool) (i:Nat) (st:St),(∀ k z,zs[k]?=some z->z.1.op.effect=true->(∃ a b c d,its[k]?=some (.val a b c d))->L (i+k)=L' (i+k))->stL zs its L i st=stL zs its L' i st
 | [],_,_,_,_,_,_=>by unfold stL;rfl
 | z::zs,[],_,_,_,_,_=>by unfold stL;rfl
 | z::zs,it::its,L,L',i,st,h=>by
  have hr:∀ k z',zs[k]?=some z'->z'.1.op.effect=true->(∃ a b c d,its[k]?=some (.val a b c d))->L (i+1+k)=L' (i+1+k):=fun k z' h1 h2 h3=>by
   rw[show i+1+k=i+(k+1) by omega];exact h (k+1) z' (by simpa using h1) h2 (by simpa using h3)
  cases it<;>simp only[stL]
  ·exact YE zs its L L' _ _ hr
  ·rename_i a b c d
   cases he:z.1.op.effect
   ·simp only[QK];exact YE zs its L L' _ _ hr
   ·have:=h 0 z rfl he ⟨_,_,_,_,rfl⟩
    simp only[XA] at this
    rw[this];exact YE zs its L L' _ _ hr
  ·exact YE zs its L L' _ _ hr
theorem Ts:∀(zs:List (Vc × Nat)) (its:List DIt) (L:Nat->Bool) (i:Nat) (fr:Fr),(∀ k,i<=k->L k=false)->frL zs its L i fr=fr
 | [],_,_,_,_,_=>by unfold frL;rfl
 | z::zs,[],_,_,_,_=>by unfold frL;rfl
 | z::zs,it::its,L,i,fr,h=>by
  cases it<;>simp only[frL,h i (Qw _),Qq]<;>exact Ts zs its L _ _ fun k hk=>h k (by omega)
theorem Tj:∀(zs:List (Vc × Nat)) (its:List DIt) (L:Nat->Bool) (i:Nat) (st:St),(∀ k,i<=k->L k=false)->stL zs its L i st=st
 | [],_,_,_,_,_=>by unfold stL;rfl
 | z::zs,[],_,_,_,_=>by unfold stL;rfl
 | z::zs,it::its,L,i,st,h=>by
  cases it<;>simp only[stL,h i (Qw _),Q8,Qq]<;>exact Tj zs its L _ _ fun k hk=>h k (by omega)
def ItOk(Γ:Cg)(zs:List (Vc × Nat))(its:List DIt)(i id:Nat)(fr:Fr)(st:St)(pan:Option Nat)(j:Nat)(z:Vc × Nat):DIt->Prop
 | .dead=>(∃ p,pan=some p/\z.2.testBit p=true)\/∃ j' a b c d,its[j']?=some (.pan a b c d)/\z.2.testBit (i+j')=true
 | .val fr' st' v st''=>fr'=frL zs its (fun k=>decide (k < i+j)) i fr/\st'=stL zs its (fun k=>decide (k < i+j)) i st ∧
  ((Vv fr' z.1.guard=some true/\V5 Γ (Wf zs j id) fr' st' z.1.op=.val v st'')\/(Vv fr' z.1.guard=some false/\v=.undef/\st''=st'))
 | .pan fr' st' v st''=>fr'=frL zs its (fun k=>decide (k < i+j)) i fr/\st'=stL zs its (fun k=>decide (k < i+j)) i st ∧
  Vv fr' z.1.guard=some true/\V5 Γ (Wf zs j id) fr' st' z.1.op=.pan v st''
theorem DR.cons_some{it:DIt}{o:Option DR}{its:List DIt}{fr:Fr}{st:St}(h:DR.cons it o=some (its,fr,st)):∃ its',its=it::its'/\o=some (its',fr,st):=by
 cases o with
 | none=>cases h
 | some d=>
  obtain⟨a,b,c⟩:=d
  simp only[DR.cons,Qa,Q2] at h
  exact⟨a,h.1.symm,by rw[h.2.1,h.2.2]⟩
theorem still_st{Γ:Cg}{id:Nat}{fr:Fr}{st st':St}{m:MOp}{v:AV}(he:m.effect=false)(h:V5 Γ id fr st m=.val v st'):st'=st:=by
 rcases SH (Γ:=Γ) (id:=id) (fr:=fr) (st:=st) he with h'|⟨u,h'⟩
 ·rw[h'] at h;cases h
 ·rw[h'] at h;injection h with _ h;exact h.symm
theorem Jf{Γ:Cg}:∀(zs:List (Vc × Nat)) (i id:Nat) (fr:Fr) (st:St) (pan:Option Nat) (its:List DIt) (frE:Fr) (stE:St),Wq Γ zs i id fr st pan=some (its,frE,stE) ->
  its.length=zs.length/\frE=frL zs its (fun _=>true) i fr/\stE=stL zs its (fun _=>true) i st ∧
  ∀ j z it,zs[j]?=some z->its[j]?=some it->ItOk Γ zs its i id fr st pan j z it
 | [],i,id,fr,st,pan,its,frE,stE,h=>by
  simp only[Wq,Qa,Q2] at h
  obtain⟨rfl,rfl,rfl⟩:=h
  exact⟨rfl,rfl,rfl,fun j z it hz=>by simp at hz⟩
 | z::zs,i,id,fr,st,pan,its,frE,stE,h=>by
  have nf:∀ k,i<=k->decide (k < i+0)=false:=fun k hk=>by simp;omega
  have nf1:∀ k,i+1<=k->decide (k < i+0)=false:=fun k hk=>by simp;omega
  have sh:∀ j,(fun k=>decide (k < i+(j+1)))=fun k=>decide (k < i+1+j):=fun j=>by funext k;congr 1;rw[show i+(j+1)=i+1+j by omega]
  simp only[Wq] at h
  cases hd:Ku pan z.2
  ·simp only[hd,Qq] at h
   cases hw:Vv fr z.1.guard with
   | none=>simp[hw] at h
   | some b=>
    cases b with
    | false=>
     simp only[hw] at h
     obtain⟨its',rfl,h'⟩:=DR.cons_some h
     obtain⟨h1,h2,h3,h4⟩:=Jf zs _ _ _ _ _ _ _ _ h'
     refine⟨by simp[h1],by simpa [frL] using h2,?_,fun j z' it hz hit=>?_⟩
     ·simp only[stL,Q3];cases z.1.op.effect<;>exact h3
     ·cases j with
      | zero=>
       simp only[Q0,Qa] at hz hit
       subst hz;subst hit
       exact⟨(Ts _ _ _ _ _ nf).symm,(Tj _ _ _ _ _ nf).symm,.inr ⟨hw,rfl,rfl⟩⟩
      | succ j=>
       simp only[QE] at hz hit
       have h5:=h4 j z' it hz hit
       cases it with
       | dead=>
        rcases h5 with⟨p,h6,h7⟩|⟨j',a,b,c,d,h6,h7⟩
        ·exact .inl ⟨p,h6,h7⟩
        ·exact .inr ⟨j'+1,a,b,c,d,by simpa using h6,by rw[show i+(j'+1)=i+1+j' by omega];exact h7⟩
       | val a b c d=>
        obtain⟨h6,h7,h8⟩:=h5
        refine⟨?_,?_,h8⟩
        ·rw[h6,sh j];simp only[frL,show decide (i < i+1+j)=true by simp;omega,Qi]
        ·rw[h7,sh j];simp only[stL];cases decide (i < i+1+j)&&z.1.op.effect<;>rfl
       | pan a b c d=>
        obtain⟨h6,h7,h8⟩:=h5
        refine⟨?_,?_,h8⟩
        ·rw[h6,sh j];simp only[frL,show decide (i < i+1+j)=true by simp;omega,Qi]
        ·rw[h7,sh j];simp only[stL];cases decide (i < i+1+j)&&z.1.op.effect<;>rfl
    | true=>
     simp only[hw] at h
     cases ho:V5 Γ id fr st z.1.op with
     | stuck=>simp[ho] at h
     | val v st'=>
      simp only[ho] at h
      obtain⟨its',rfl,h'⟩:=DR.cons_some h
      obtain⟨h1,h2,h3,h4⟩:=Jf zs _ _ _ _ _ _ _ _ h'
      have hst:(bif z.1.op.effect then st' else st)=st':=by
       cases he:z.1.op.effect
       ·exact(still_st he ho).symm
       ·rfl
      refine⟨by simp[h1],by simpa [frL] using h2,?_,fun j z' it hz hit=>?_⟩
      ·simp only[stL,Q3,hst];exact h3
      ·cases j with
       | zero=>
        simp only[Q0,Qa] at hz hit
        subst hz;subst hit
        exact⟨(Ts _ _ _ _ _ nf).symm,(Tj _ _ _ _ _ nf).symm,.inl ⟨hw,ho⟩⟩
       | succ j=>
        simp only[QE] at hz hit
        have h5:=h4 j z' it hz hit
        cases it with
        | dead=>
         rcases h5 with⟨p,h6,h7⟩|⟨j',a,b,c,d,h6,h7⟩
         ·exact .inl ⟨p,h6,h7⟩
         ·exact .inr ⟨j'+1,a,b,c,d,by simpa using h6,by rw[show i+(j'+1)=i+1+j' by omega];exact h7⟩
        | val a b c d=>
         obtain⟨h6,h7,h8⟩:=h5
         refine⟨?_,?_,h8⟩
         ·rw[h6,sh j];simp only[frL,show decide (i < i+1+j)=true by simp;omega,Qi]
         ·rw[h7,sh j];simp only[stL,show decide (i < i+1+j)=true by simp;omega,Q3,hst]
        | pan a b c d=>
         obtain⟨h6,h7,h8⟩:=h5
         refine⟨?_,?_,h8⟩
         ·rw[h6,sh j];simp only[frL,show decide (i < i+1+j)=true by simp;omega,Qi]
         ·rw[h7,sh j];simp only[stL,show decide (i < i+1+j)=true by simp;omega,Q3,hst]
     | pan v st'=>
      simp only[ho] at h
      cases pan with
      | some p=>simp at h
      | none=>
       simp only at h
       obtain⟨its',rfl,h'⟩:=DR.cons_some h
       obtain⟨h1,h2,h3,h4⟩:=Jf zs _ _ _ _ _ _ _ _ h'
       refine⟨by simp[h1],by simpa [frL] using h2,by simpa [stL] using h3,fun j z' it hz hit=>?_⟩
       cases j with
       | zero=>
        simp only[Q0,Qa] at hz hit
        subst hz;subst hit
        exact⟨(Ts _ _ _ _ _ nf).symm,(Tj _ _ _ _ _ nf).symm,hw,ho⟩
       | succ j=>
        simp only[QE] at hz hit
        have h5:=h4 j z' it hz hit
        cases it with
        | dead=>
         rcases h5 with⟨p,h6,h7⟩|⟨j',a,b,c,d,h6,h7⟩
         ·injection h6 with h6;subst h6
          exact .inr ⟨0,fr,st,v,st',rfl,h7⟩
         ·exact .inr ⟨j'+1,a,b,c,d,by simpa using h6,by rw[show i+(j'+1)=i+1+j' by omega];exact h7⟩
        | val a b c d=>
         obtain⟨h6,h7,h8⟩:=h5
         exact⟨by rw[h6,sh j];simp only[frL],by rw[h7,sh j];simp only[stL],h8⟩
        | pan a b c d=>
         obtain⟨h6,h7,h8⟩:=h5
         exact⟨by rw[h6,sh j];simp only[frL],by rw[h7,sh j];simp only[stL],h8⟩
  ·simp only[hd,Qi] at h
   obtain⟨its',rfl,h'⟩:=DR.cons_some h
   obtain⟨h1,h2,h3,h4⟩:=Jf zs _ _ _ _ _ _ _ _ h'
   refine⟨by simp[h1],by simpa [frL] using h2,by simpa [stL] using h3,fun j z' it hz hit=>?_⟩
   cases j with
   | zero=>
    simp only[Q0,Qa] at hz hit
    subst hz;subst hit
    cases pan with
    | none=>simp[Ku] at hd
    | some p=>exact .inl ⟨p,rfl,hd⟩
   | succ j=>
    simp only[QE] at hz hit
    have h5:=h4 j z' it hz hit
    cases it with
    | dead=>
     rcases h5 with⟨p,h6,h7⟩|⟨j',a,b,c,d,h6,h7⟩
     ·exact .inl ⟨p,h6,h7⟩
     ·exact .inr ⟨j'+1,a,b,c,d,by simpa using h6,by rw[show i+(j'+1)=i+1+j' by omega];exact h7⟩
    | val a b c d=>
     obtain⟨h6,h7,h8⟩:=h5
     exact⟨by rw[h6,sh j];simp only[frL],by rw[h7,sh j];simp only[stL],h8⟩
    | pan a b c d=>
     obtain⟨h6,h7,h8⟩:=h5
     exact⟨by rw[h6,sh j];simp only[frL],by rw[h7,sh j];simp only[stL],h8⟩
theorem T6{Γ:Cg}:∀(zs:List (Vc × Nat)) (i id:Nat) (fr:Fr) (st:St) (pan:Option Nat) (its:List DIt) (frE:Fr) (stE:St),Wq Γ zs i id fr st pan=some (its,frE,stE) ->
  (∀ p,pan=some p->∀(j:Nat) (a:Fr) (b:St) (c:AV) (d:St),its[j]?≠some (DIt.pan a b c d))/\∀(j:Nat) (a:Fr) (b:St) (c:AV) (d:St),its[j]?=some (DIt.pan a b c d)->JE its=some (c,d)
 | [],i,id,fr,st,pan,its,frE,stE,h=>by
  simp only[Wq,Qa,Q2] at h
  obtain⟨rfl,rfl,rfl⟩:=h
  exact⟨fun _ _ _ _ _ _ _=>by simp,fun _ _ _ _ _ h=>by simp at h⟩
 | z::zs,i,id,fr,st,pan,its,frE,stE,h=>by
  simp only[Wq] at h
  have go:∀ it its' pan',(∀ a b c d,it≠DIt.pan a b c d)->(pan'=pan)->its=it::its'->(∀ p,pan'=some p->∀(j:Nat) (a:Fr) (b:St) (c:AV) (d:St),its'[j]?≠some (DIt.pan a b c d))->(∀(j:Nat) (a:Fr) (b:St) (c:AV) (d:St),its'[j]?=some (DIt.pan a b c d)->JE its'=some (c,d)) ->
    (∀ p,pan=some p->∀(j:Nat) (a:Fr) (b:St) (c:AV) (d:St),its[j]?≠some (DIt.pan a b c d))/\∀(j:Nat) (a:Fr) (b:St) (c:AV) (d:St),its[j]?=some (DIt.pan a b c d)->JE its=some (c,d):=fun it its' pan' hne hp he h1 h2=>by
   subst he;subst hp
   refine⟨fun p hp j a b c d hj=>?_,fun j a b c d hj=>?_⟩
   ·cases j with
    | zero=>simp at hj;exact hne _ _ _ _ hj
    | succ j=>exact h1 p hp j a b c d (by simpa using hj)
   ·cases j with
    | zero=>simp at hj;exact absurd hj (hne _ _ _ _)
    | succ j=>
     have:=h2 j a b c d (by simpa using hj)
     cases it with
     | dead=>exact this
     | val _ _ _ _=>exact this
     | pan a b c d=>exact absurd rfl (hne a b c d)
  cases hd:Ku pan z.2
  ·simp only[hd,Qq] at h
   cases hw:Vv fr z.1.guard with
   | none=>simp[hw] at h
   | some b=>
    cases b with
    | false=>
     simp only[hw] at h
     obtain⟨its',he,h'⟩:=DR.cons_some h
     obtain⟨h1,h2⟩:=T6 zs _ _ _ _ _ _ _ _ h'
     exact go _ its' pan (by simp) rfl he h1 h2
    | true=>
     simp only[hw] at h
     cases ho:V5 Γ id fr st z.1.op with
     | stuck=>simp[ho] at h
     | val v st'=>
      simp only[ho] at h
      obtain⟨its',he,h'⟩:=DR.cons_some h
      obtain⟨h1,h2⟩:=T6 zs _ _ _ _ _ _ _ _ h'
      exact go _ its' pan (by simp) rfl he h1 h2
     | pan v st'=>
      simp only[ho] at h
      cases pan with
      | some p=>simp at h
      | none=>
       simp only at h
       obtain⟨its',rfl,h'⟩:=DR.cons_some h
       obtain⟨h1,h2⟩:=T6 zs _ _ _ _ _ _ _ _ h'
       refine⟨fun p hp=>(by cases hp),fun j a b c d hj=>?_⟩
       cases j with
       | zero=>simp only[Q0,Qa,DIt.pan.injEq] at hj;simp[JE,hj]
       | succ j=>exact absurd (by simpa using hj) (h1 i rfl j a b c d)
  ·simp only[hd,Qi] at h
   obtain⟨its',he,h'⟩:=DR.cons_some h
   obtain⟨h1,h2⟩:=T6 zs _ _ _ _ _ _ _ _ h'
   exact go _ its' pan (by simp) rfl he h1 h2
section
variable {md:Region.Mode} {ops:Array Oper} {listed:Array Bool}
def Back(md:Region.Mode)(ops:Array Oper):Prop:=∀(i:Nat) (o:Oper),ops[i]?=some o->∀ e∈o.after,Region.binds md e=true->e.on < i
theorem all_listed(hb:Back md ops)(hs:listed.size=ops.size)(hr:Region.ready md ops listed=[]):∀ i,i < ops.size->listed.getD i false=true:=by
 intro i
 induction i using Nat.strongRecOn with
 | _ i ih=>
  intro hi
  cases h:listed.getD i false with
  | true=>rfl
  | false=>
   exfalso
   have h':listed.getD i true=false:=by
    rw[QA,QM (by omega)] at h ⊢
    simpa using h
   have ho:ops[i]?=some ops[i]:=QM hi
   have:i∈Region.ready md ops listed:=mem_ready.2 ⟨h',ops[i],ho,fun e he hbd=>by
    have hlt:=hb i _ ho e he hbd
    exact ih e.on hlt (by omega)⟩
   rw[hr] at this
   simp at this
def JN(listed:Array Bool)(n:Nat):Nat:=(List.range n).countP fun i=>listed.getD i false
theorem nlisted_set{i n:Nat}(hi:i < n)(hs:i < listed.size)(h:listed.getD i false=false):JN (listed.setIfInBounds i true) n=JN listed n+1:=by
 unfold JN
 induction n with
 | zero=>omega
 | succ n ih=>
  rw[List.range_succ,List.countP_append,List.countP_append]
  by_cases hn:i=n
  ·subst hn
   have e1:∀ l:List Nat,(∀ j∈l,j < i)->l.countP (fun j=>(listed.setIfInBounds i true).getD j false)=l.countP (fun j=>listed.getD j false):=fun l hl=>
    List.countP_congr fun j hj=>by rw[getD_set_ne false (by have:=hl j hj;omega)]
   rw[e1 _ fun j hj=>Xo.1 hj]
   have e2:(listed.setIfInBounds i true).getD i false=true:=by
    rw[QA];simp[hs]
   simp only[List.countP_cons,List.countP_nil,e2,h,Xj,Q1,Xz]
  ·rw[ih (by omega)]
   have:(listed.setIfInBounds i true).getD n false=listed.getD n false:=getD_set_ne false (by omega)
   simp only[List.countP_cons,List.countP_nil,this]
   omega
theorem nlisted_all{n:Nat}(h:JN listed n=n):∀ i,i < n->listed.getD i false=true:=by
 intro i hi
 unfold JN at h
 have hl:(List.range n).length=n:=Zo
 have:=(List.countP_eq_length (p:=fun i=>listed.getD i false) (l:=List.range n)).1 (by rw[h,hl])
 exact this i (Xo.2 hi)
end
def AncOk(ops:Array Oper)(anc:Nat->Nat):Prop:=∀(i:Nat) (o:Oper),ops[i]?=some o->anc i=ancFold anc o.after.toList 0
theorem Ux(f:Nat->Nat)(j:Nat):∀(l:List Edge) (s:Nat),(ancFold f l s).testBit j=true->s.testBit j=true\/∃ e∈l,Region.binds .any e=true/\(e.on=j\/(f e.on).testBit j=true)
 | [],s,h=>.inl h
 | e::l,s,h=>by
  simp only[ancFold,Xt] at h
  rcases Ux f j l _ h with h|⟨e',he,hb⟩
  ·split at h
   ·rename_i hb
    simp only[Nat.testBit_or,XB] at h
    rcases h with (h | h) | h
    ·exact .inl h
    ·refine .inr ⟨e,by simp,hb,.inl ?_⟩
     rw[Nat.testBit_two_pow] at h
     simpa using h
    ·exact .inr ⟨e,by simp,hb,.inr h⟩
   ·exact .inl h
  ·exact .inr ⟨e',by simp[he],hb⟩
def Closed(ops:Array Oper)(listed:Array Bool):Prop:=∀(i:Nat) (o:Oper),ops[i]?=some o->listed.getD i false=true->∀ e∈o.after,Region.binds .any e=true->listed.getD e.on false=true
theorem anc_listed{ops:Array Oper}{listed:Array Bool}{anc:Nat->Nat}(hb:Back .any ops)(ha:AncOk ops anc)(hc:Closed ops listed):∀(i j:Nat) (o:Oper),ops[i]?=some o->listed.getD i false=true->(anc i).testBit j=true->listed.getD j false=true:=by
 intro i
 induction i using Nat.strongRecOn with
 | _ i ih=>
  intro j o ho hl hj
  rw[ha i o ho] at hj
  rcases Ux anc j _ _ hj with h|⟨e,he,hbd,h⟩
  ·simp at h
  ·have he':e∈o.after:=by simpa using he
   have hlt:=hb i o ho e he' hbd
   have hle:=hc i o ho hl e he' hbd
   rcases h with rfl | h
   ·exact hle
   ·have hi:i < ops.size:=(Qv.1 ho).1
    exact ih e.on hlt j ops[e.on] (QM (by omega)) hle h
theorem anc_of_ready{ops:Array Oper}{listed:Array Bool}{anc:Nat->Nat}(hb:Back .any ops)(ha:AncOk ops anc)(hc:Closed ops listed){i j:Nat}{o:Oper}(ho:ops[i]?=some o)
  (hr:∀ e∈o.after,Region.binds .any e=true->listed.getD e.on false=true) (hj:(anc i).testBit j=true):listed.getD j false=true:=by
 rw[ha i o ho] at hj
 rcases Ux anc j _ _ hj with h|⟨e,he,hbd,h⟩
 ·simp at h
 ·have he':e∈o.after:=by simpa using he
  have hlt:=hb i o ho e he' hbd
  have hle:=hr e he' hbd
  rcases h with rfl | h
  ·exact hle
  ·have hi:i < ops.size:=(Qv.1 ho).1
   exact anc_listed hb ha hc e.on j ops[e.on] (QM (by omega)) hle h
theorem Closed.set{ops:Array Oper}{listed:Array Bool}(hc:Closed ops listed){i:Nat}{o:Oper}(ho:ops[i]?=some o)
  (hr:∀ e∈o.after,Region.binds .any e=true->listed.getD e.on false=true):Closed ops (listed.setIfInBounds i true):=by
 intro k o' ho' hk e he hbd
 by_cases hki:i=k
 ·subst hki
  rw[ho] at ho';injection ho' with ho';subst ho'
  exact getD_set_true (hr e he hbd)
 ·rw[getD_set_ne false hki] at hk
  exact getD_set_true (hc k o' ho' hk e he hbd)
end Go.AM
namespace Go.AM
structure YG(ops:Array Oper)(zs:List (Vc × Nat)):Prop where
 len:zs.length=ops.size
 back:Back .any ops
 bits:AncOk ops (YN zs)
 dst:∀(i j:Nat) (z z':Vc × Nat) (d:Nat),zs[i]?=some z->zs[j]?=some z'->z.1.dst=some d->z'.1.dst=some d->i=j
 use:∀(i j:Nat) (z z':Vc × Nat) (d:Nat),zs[i]?=some z->zs[j]?=some z'->z'.1.dst=some d->d∈z.1.uses->i=j\/z.2.testBit j=true\/z'.2.testBit i=true
 effs:∀(i j:Nat) (z z':Vc × Nat),i < j->zs[i]?=some z->zs[j]?=some z'->z.1.op.effect=true->z'.1.op.effect=true->z'.2.testBit i=true
theorem drawOk_of{ops:Array Oper}{zs:List (Vc × Nat)}(h:drawB ops zs=true):YG ops zs:=by
 unfold drawB at h
 simp only[Qd] at h
 obtain⟨hlen,h⟩:=h
 have hlen:=Qj hlen
 have key:∀(i:Nat) (o:Oper) (z:Vc × Nat),ops[i]?=some o->zs[i]?=some z->edgeB zs i o z=true/\∀(j:Nat) (z':Vc × Nat),zs[j]?=some z'->pairB i j z z'=true:=fun i o z ho hz=>by
  have hi:i < ops.size:=(Qv.1 ho).1
  have:=QB.1 h i (Xo.2 hi)
  simp only[ho,hz,Qd] at this
  refine⟨this.1,fun j z' hz'=>?_⟩
  have hj:j < ops.size:=by rw[<-hlen];exact(Qt.1 hz').1
  have:=QB.1 this.2 j (Xo.2 hj)
  simpa only [hz'] using this
 have zof:∀(i:Nat) (o:Oper),ops[i]?=some o->∃ z,zs[i]?=some z:=fun i o ho=>by
  have hi:i < ops.size:=(Qv.1 ho).1
  exact⟨zs[i]'(by omega),Qn (by omega)⟩
 have oof:∀(i:Nat) (z:Vc × Nat),zs[i]?=some z->∃ o,ops[i]?=some o:=fun i z hz=>by
  have hi:i < zs.length:=(Qt.1 hz).1
  exact⟨ops[i]'(by omega),QM (by omega)⟩
 have pr:∀(i j:Nat) (z z':Vc × Nat),zs[i]?=some z->zs[j]?=some z'->pairB i j z z'=true:=fun i j z z' hz hz'=>by
  obtain⟨o,ho⟩:=oof i z hz
  exact(key i o z ho hz).2 j z' hz'
 refine⟨hlen,fun i o ho e he hb=>?_,fun i o ho=>?_,fun i j z z' d hi hj h1 h2=>?_,fun i j z z' d hi hj h1 h2=>?_,fun i j z z' hij hi hj h1 h2=>?_⟩
 ·obtain⟨z,hz⟩:=zof i o ho
  have hk:=(key i o z ho hz).1
  unfold edgeB at hk
  simp only[Qd] at hk
  have:=QB.1 hk.1 e (by simpa using he)
  simp only[hb,Qc,QL] at this
  have:=Qk this
  omega
 ·obtain⟨z,hz⟩:=zof i o ho
  have hk:=(key i o z ho hz).1
  unfold edgeB at hk
  simp only[Qd] at hk
  have:=Qj hk.2
  simp only[YN,hz] at this ⊢
  exact this
 ·have:=pr i j z z' hi hj
  unfold pairB at this
  simp only[h2,h1,XB,Qd,Xy] at this
  rcases this.1 with this|⟨this,_⟩
  ·exact Qj this
  ·simp at this
 ·have:=pr i j z z' hi hj
  unfold pairB at this
  simp only[h1,XB,Qd] at this
  rcases this.1 with this|⟨_,(this | this) | this⟩
  ·exact .inl (Qj this)
  ·exact .inr (.inl this)
  ·exact .inr (.inr this)
  ·have:=QB.1 this d h2
   simp at this
 ·have:=pr i j z z' hi hj
  unfold pairB at this
  simp only[Qd] at this
  have this:=this.2
  have hle:(i+1).ble j=true:=Qo (by omega)
  simp only[hle,h1,h2,Qc,QL] at this
  exact this
theorem anc_lt{ops:Array Oper}{anc:Nat->Nat}(hb:Back .any ops)(ha:AncOk ops anc):∀(i j:Nat) (o:Oper),ops[i]?=some o->(anc i).testBit j=true->j < i:=by
 intro i
 induction i using Nat.strongRecOn with
 | _ i ih=>
  intro j o ho hj
  rw[ha i o ho] at hj
  rcases Ux anc j _ _ hj with h|⟨e,he,hbd,h⟩
  ·simp at h
  ·have he':e∈o.after:=by simpa using he
   have hlt:=hb i o ho e he' hbd
   have hi:i < ops.size:=(Qv.1 ho).1
   rcases h with rfl | h
   ·exact hlt
   ·have:=ih e.on hlt j ops[e.on] (QM (by omega)) h;omega
theorem UR{t:Nat}:∀(zs:List (Vc × Nat)) (its:List DIt) (L L':Nat->Bool) (i:Nat) (fr fr':Fr),fr.get t=fr'.get t ->
  (∀(k:Nat) (z:Vc × Nat),zs[k]?=some z->z.1.dst=some t->(∃ a b c d,its[k]?=some (.val a b c d))->L (i+k)=L' (i+k))->(frL zs its L i fr).get t=(frL zs its L' i fr').get t
 | [],_,_,_,_,_,_,h0,_=>by unfold frL;exact h0
 | z::zs,[],_,_,_,_,_,h0,_=>by unfold frL;exact h0
 | z::zs,it::its,L,L',i,fr,fr',h0,h=>by
  have hr:∀(k:Nat) (z':Vc × Nat),zs[k]?=some z'->z'.1.dst=some t->(∃ a b c d,its[k]?=some (.val a b c d))->L (i+1+k)=L' (i+1+k):=fun k z' h1 h2 h3=>by
   rw[show i+1+k=i+(k+1) by omega];exact h (k+1) z' (by simpa using h1) h2 (by simpa using h3)
  cases it<;>simp only[frL]
  ·exact UR zs its L L' _ _ _ h0 hr
  ·rename_i a b c d
   refine UR zs its L L' _ _ _ ?_ hr
   cases hd:z.1.dst with
   | none=>cases L i<;>cases L' i<;>simp only[Qi,Qq,Fr.put]<;>exact h0
   | some d'=>
    by_cases hdt:d'=t
    ·subst hdt
     have:=h 0 z rfl hd ⟨_,_,_,_,rfl⟩
     simp only[XA] at this
     rw[this]
     cases L' i
     ·exact h0
     ·simp only[Qi,Fr.put,Fr.get_set,Xj]
    ·have hne:¬ t=d':=fun e=>hdt e.symm
     cases L i<;>cases L' i<;>simp only[Qi,Qq,Fr.put,Fr.get_set,Qe hne]<;>exact h0
  ·exact UR zs its L L' _ _ _ h0 hr
theorem frL_off{t:Nat}:∀(zs:List (Vc × Nat)) (its:List DIt) (L:Nat->Bool) (i:Nat) (fr:Fr),(∀(k:Nat) (z:Vc × Nat),zs[k]?=some z->z.1.dst≠some t)->(frL zs its L i fr).get t=fr.get t
 | [],_,_,_,_,_=>by unfold frL;rfl
 | z::zs,[],_,_,_,_=>by unfold frL;rfl
 | z::zs,it::its,L,i,fr,h=>by
  have hr:∀(k:Nat) (z':Vc × Nat),zs[k]?=some z'->z'.1.dst≠some t:=fun k z' h1=>h (k+1) z' (by simpa using h1)
  cases it<;>simp only[frL]<;>rw[frL_off zs its L _ _ hr]
  have:=h 0 z rfl
  cases L i
  ·rfl
  ·cases hd:z.1.dst with
   | none=>rfl
   | some d=>
    rw[hd] at this
    simp only[Qi,Fr.put,Fr.get_set]
    rw[Qe (by rintro rfl;exact this rfl)]
theorem frL_at{t:Nat}:∀(zs:List (Vc × Nat)) (its:List DIt) (L:Nat->Bool) (i:Nat) (fr:Fr) (k:Nat) (z:Vc × Nat) (a:Fr) (b:St) (v:AV) (d:St),zs[k]?=some z->its[k]?=some (.val a b v d)->z.1.dst=some t->L (i+k)=true ->
  (∀(k':Nat) (z':Vc × Nat),zs[k']?=some z'->z'.1.dst=some t->k'=k)->(frL zs its L i fr).get t=some v
 | [],_,_,_,_,_,_,_,_,_,_,hz,_,_,_,_=>by simp at hz
 | z::zs,[],_,_,_,_,_,_,_,_,_,_,hit,_,_,_=>by simp at hit
 | z::zs,it::its,L,i,fr,k,zk,a,b,v,d,hz,hit,hd,hL,hu=>by
  cases k with
  | zero=>
   simp only[Q0,Qa] at hz hit
   subst hz;subst hit
   simp only[XA] at hL
   simp only[frL,hL,Qi]
   rw[frL_off zs its L _ _ fun k' z' h1 h2=>by have:=hu (k'+1) z' (by simpa using h1) h2;omega]
   simp[Fr.put,hd,Fr.get_set]
  | succ k=>
   simp only[QE] at hz hit
   have:=fun fr=>frL_at (t:=t) zs its L (i+1) fr k zk a b v d hz hit hd (by rw[show i+1+k=i+(k+1) by omega];exact hL) fun k' z' h1 h2=>by
    have:=hu (k'+1) z' (by simpa using h1) h2;omega
   cases it<;>simp only[frL]<;>exact this _
theorem stL_off:∀(zs:List (Vc × Nat)) (its:List DIt) (L:Nat->Bool) (i:Nat) (st:St),(∀(k:Nat) (z:Vc × Nat),zs[k]?=some z->z.1.op.effect=true->L (i+k)=false)->stL zs its L i st=st
 | [],_,_,_,_,_=>by unfold stL;rfl
 | z::zs,[],_,_,_,_=>by unfold stL;rfl
 | z::zs,it::its,L,i,st,h=>by
  have hr:∀(k:Nat) (z':Vc × Nat),zs[k]?=some z'->z'.1.op.effect=true->L (i+1+k)=false:=fun k z' h1 h2=>by
   rw[show i+1+k=i+(k+1) by omega];exact h (k+1) z' (by simpa using h1) h2
  cases it<;>simp only[stL]
  ·exact stL_off zs its L _ _ hr
  ·cases he:z.1.op.effect
   ·simp only[QK,Qq];exact stL_off zs its L _ _ hr
   ·have:=h 0 z rfl he
    simp only[XA] at this
    simp only[this,Q8,Qq];exact stL_off zs its L _ _ hr
  ·exact stL_off zs its L _ _ hr
theorem stL_at:∀(zs:List (Vc × Nat)) (its:List DIt) (L:Nat->Bool) (i:Nat) (st:St) (k:Nat) (z:Vc × Nat) (a:Fr) (b:St) (v:AV) (s:St),zs[k]?=some z->its[k]?=some (.val a b v s)->z.1.op.effect=true->L (i+k)=true ->
  (∀(k':Nat) (z':Vc × Nat),k < k'->zs[k']?=some z'->z'.1.op.effect=true->L (i+k')=false)->stL zs its L i st=s
 | [],_,_,_,_,_,_,_,_,_,_,hz,_,_,_,_=>by simp at hz
 | z::zs,[],_,_,_,_,_,_,_,_,_,_,hit,_,_,_=>by simp at hit
 | z::zs,it::its,L,i,st,k,zk,a,b,v,s,hz,hit,hd,hL,hu=>by
  cases k with
  | zero=>
   simp only[Q0,Qa] at hz hit
   subst hz;subst hit
   simp only[XA] at hL
   simp only[stL,hL,hd,Bool.and_self,Qi]
   exact stL_off zs its L _ _ fun k' z' h1 h2=>by
    rw[show i+1+k'=i+(k'+1) by omega];exact hu (k'+1) z' (by omega) (by simpa using h1) h2
  | succ k=>
   simp only[QE] at hz hit
   have:=fun st=>stL_at zs its L (i+1) st k zk a b v s hz hit hd (by rw[show i+1+k=i+(k+1) by omega];exact hL) fun k' z' h0 h1 h2=>by
    rw[show i+1+k'=i+(k'+1) by omega];exact hu (k'+1) z' (by omega) (by simpa using h1) h2
   cases it<;>simp only[stL]<;>exact this _
theorem UB(z:Vc × Nat)(zs:List (Vc × Nat))(ns:List Nat)(st:St):(z.1.op.ahead=true/\∃ ns' o,VT (z::zs) ns st=VT zs ns' (st.new (.row o)))\/(z.1.op.ahead=false/\VT (z::zs) ns st=VT zs ns st):=by
 cases hz:z.1.op
 case alloc cs=>exact .inl ⟨rfl,ns,cs,by simp only[VT,hz]⟩
 case mksl b s cs l c=>exact .inl ⟨rfl,ns.tail,Yl cs (ns.headD 0),by simp only[VT,hz]⟩
 all_goals exact .inr ⟨rfl,by simp only[VT,hz]⟩
theorem So(id:Nat)(m:MOp):VJ id m=if m.ahead=true then id+1 else id:=by
 cases m<;>rfl
theorem Sl:∀(zs:List (Vc × Nat)) (ns:List Nat) (st:St),st.next<=(VT zs ns st).next
 | [],_,_=>Qw _
 | z::zs,ns,st=>by
  rcases UB z zs ns st with⟨_,ns',o,h⟩|⟨_,h⟩
  ·rw[h];have:=Sl zs ns' (st.new (.row o));exact QY (by simp) this
  ·rw[h];exact Sl zs ns st
theorem idAt_le:∀(zs:List (Vc × Nat)) (j id:Nat),id<=Wf zs j id
 | [],_,_=>by simp[Wf]
 | z::zs,0,id=>by simp[Wf]
 | z::zs,j+1,id=>by
  have:=idAt_le zs j (VJ id z.1.op)
  have h2:id<=VJ id z.1.op:=by rw[So];split<;>omega
  simp only[Wf];omega
theorem idAt_lt:∀(zs:List (Vc × Nat)) (i j id:Nat) (z:Vc × Nat),i < j->zs[i]?=some z->z.1.op.ahead=true->Wf zs i id < Wf zs j id
 | [],_,_,_,_,_,hz,_=>by simp at hz
 | z::zs,0,0,_,_,hij,_,_=>by omega
 | z::zs,i+1,0,_,_,hij,_,_=>by omega
 | z::zs,0,j+1,id,z',hij,hz,ho=>by
  simp only[Q0,Qa] at hz;subst hz
  have:=idAt_le zs j (VJ id z.1.op)
  simp only[Wf]
  have h2:VJ id z.1.op=id+1:=by rw[So,Qm ho]
  omega
 | z::zs,i+1,j+1,id,z',hij,hz,ho=>by
  simp only[QE] at hz
  simp only[Wf]
  exact idAt_lt zs i j _ z' (by omega) hz ho
theorem idAt_next:∀(zs:List (Vc × Nat)) (ns:List Nat) (i:Nat) (st:St) (z:Vc × Nat),zs[i]?=some z->z.1.op.ahead=true->Wf zs i st.next < (VT zs ns st).next
 | [],_,_,_,_,hz,_=>by simp at hz
 | z::zs,ns,0,st,z',hz,ho=>by
  simp only[Q0,Qa] at hz;subst hz
  rcases UB z zs ns st with⟨_,ns',o,h⟩|⟨h0,_⟩
  ·rw[h]
   simp only[Wf]
   have:=Sl zs ns' (st.new (.row o))
   simp at this;omega
  ·rw[ho] at h0;cases h0
 | z::zs,ns,i+1,st,z',hz,ho=>by
  simp only[QE] at hz
  simp only[Wf]
  rcases UB z zs ns st with⟨h0,ns',o,h⟩|⟨h0,h⟩
  ·rw[h,So,Qm h0]
   have:=idAt_next zs ns' i (st.new (.row o)) z' hz ho
   simpa using this
  ·rw[h,So,Qe (by rw[h0];simp)]
   exact idAt_next zs ns i st z' hz ho
theorem preA_sat{E:Env}{w:World}:∀(zs:List (Vc × Nat)) (ns:List Nat) (st:St),Sat E st w->Sat E (VT zs ns st) w
 | [],_,_,h=>h
 | z::zs,ns,st,h=>by
  rcases UB z zs ns st with⟨_,ns',o,h1⟩|⟨_,h1⟩
  ·rw[h1];exact preA_sat zs ns' _ (h.ahead _)
  ·rw[h1];exact preA_sat zs ns st h
theorem frz_still{Γ:Cg}{id:Nat}{fr:Fr}{st st1 st':St}{m:MOp}{v:AV}(hf:W0 m fr=true)(h:V5 Γ id fr st m=.val v st1):V5 Γ id fr st' m=.val v st':=by
 unfold W0 at hf
 split at hf
 ·rename_i agg n x
  unfold frzX at hf
  split at hf
  ·rename_i cs off he
   simp only[V5,opr,aop,he] at h ⊢
   exact of_pure (st:=st) h
  ·cases hf
 ·cases hf
def lst(listed:Array Bool)(j:Nat):Bool:=listed.getD j false
section
variable {P:Program} {Γ:Cg} {ops:Array Oper} {zs:List (Vc × Nat)} {ns:List Nat} {its:List DIt} {E0:Env} {w0:World} {N:Nat} {D:List Deferred} {B:Nat} {fr0 frE:Fr} {st0 stE:St}
structure Inv(ops:Array Oper)(zs:List (Vc × Nat))(ns:List Nat)(its:List DIt)(E0:Env)(w0:World)(N:Nat)(D:List Deferred)(fr0:Fr)(st0:St)(listed:Array Bool)(E:Env)(a:Act)(w:World):Prop where
 ext:Ext E0 w0 E w
 sat:Sat E (stL zs its (lst listed) 0 (VT zs ns st0)) w
 rvf:RvF E w (frL zs its (lst listed) 0 fr0) a
 sz:a.tmps.size=N
 df:a.defers=D
 rs:∀(j:Nat) (z:Vc × Nat),zs[j]?=some z->z.1.op.ahead=true->lst listed j=false->E.Rs (Wf zs j st0.next)
 cl:Closed ops listed
 ls:listed.size=ops.size
 pn:∀(j:Nat) (a:Fr) (b:St) (c:AV) (d:St),its[j]?=some (.pan a b c d)->lst listed j=false
variable {listed:Array Bool} {E:Env} {a:Act} {w:World}
theorem Inv.up(hI:Inv ops zs ns its E0 w0 N D fr0 st0 listed E a w)(hd:YG ops zs){i j:Nat}{z:Vc × Nat}(hz:zs[i]?=some z)(hr:i∈Region.ready .any ops listed)(hj:z.2.testBit j=true):lst listed j=true:=by
 obtain⟨_,o,ho,he⟩:=mem_ready.1 hr
 have:YN zs i=z.2:=by simp[YN,hz]
 exact anc_of_ready hd.back hd.bits hI.cl ho he (by rw[this];exact hj)
theorem Inv.down(hI:Inv ops zs ns its E0 w0 N D fr0 st0 listed E a w)(hd:YG ops zs){i j:Nat}{z:Vc × Nat}(hz:zs[j]?=some z)(hr:lst listed i=false)(hj:z.2.testBit i=true):lst listed j=false:=by
 cases hl:lst listed j with
 | false=>rfl
 | true=>
  have hj':j < ops.size:=by rw[<-hd.len];exact(Qt.1 hz).1
  have:YN zs j=z.2:=by simp[YN,hz]
  have:=anc_listed hd.back hd.bits hI.cl j i ops[j] (QM hj') hl (by rw[this];exact hj)
  unfold lst at hr;rw[this] at hr;cases hr
theorem Inv.not(hI:Inv ops zs ns its E0 w0 N D fr0 st0 listed E a w){i:Nat}(hr:i∈Region.ready .any ops listed):lst listed i=false:=by
 obtain⟨h0,o,ho,_⟩:=mem_ready.1 hr
 have hi:i < listed.size:=by rw[hI.ls];exact(Qv.1 ho).1
 unfold lst
 rw[QA,QM hi] at h0 ⊢
 simpa using h0
theorem ltAnc(hd:YG ops zs){i j:Nat}{z:Vc × Nat}(hz:zs[i]?=some z)(hj:z.2.testBit j=true):j < i:=by
 have hi:i < ops.size:=by rw[<-hd.len];exact(Qt.1 hz).1
 have:YN zs i=z.2:=by simp[YN,hz]
 exact anc_lt hd.back hd.bits i j _ (QM hi) (by rw[this];exact hj)
theorem Inv.slots(hI:Inv ops zs ns its E0 w0 N D fr0 st0 listed E a w)(hd:YG ops zs){i:Nat}{z:Vc × Nat}(hz:zs[i]?=some z)(hr:i∈Region.ready .any ops listed):
  ∀ t∈z.1.uses,(frL zs its (lst listed) 0 fr0).get t=(frL zs its (fun k=>decide (k < 0+i)) 0 fr0).get t:=by
 intro t ht
 refine UR zs its _ _ 0 _ _ rfl fun k z' hz' hdst _=>?_
 simp only[Q7]
 rcases hd.use i k z z' t hz hz' hdst ht with rfl | h | h
 ·rw[hI.not hr];simp
 ·rw[hI.up hd hz hr h];have:=ltAnc hd hz h;simp[this]
 ·rw[hI.down hd hz' (hI.not hr) h];have:=ltAnc hd hz' h;simp;omega
theorem Inv.heap(hI:Inv ops zs ns its E0 w0 N D fr0 st0 listed E a w)(hd:YG ops zs){i:Nat}{z:Vc × Nat}(hz:zs[i]?=some z)(hr:i∈Region.ready .any ops listed)
  (ha:∀(j:Nat) (z':Vc × Nat),zs[j]?=some z'->z'.1.op.effect=true->i=j\/z.2.testBit j=true\/z'.2.testBit i=true):
  stL zs its (lst listed) 0 (VT zs ns st0)=stL zs its (fun k=>decide (k < 0+i)) 0 (VT zs ns st0):=by
 refine YE zs its _ _ 0 _ fun k z' hz' he _=>?_
 simp only[Q7]
 rcases ha k z' hz' he with rfl | h | h
 ·rw[hI.not hr];simp
 ·rw[hI.up hd hz hr h];have:=ltAnc hd hz h;simp[this]
 ·rw[hI.down hd hz' (hI.not hr) h];have:=ltAnc hd hz' h;simp;omega
theorem X.ev_eq{fr fr':Fr}{x:X}(h:∀ t,x.tm=some t->fr.get t=fr'.get t):ev fr x=ev fr' x:=by
 cases x with
 | t n=>simp only[ev,h n rfl]
 | c v=>rfl
theorem uses_xs{m:Vc}{fr fr':Fr}(h:∀ t∈m.uses,fr.get t=fr'.get t):∀ x∈m.op.xs,ev fr x=ev fr' x:=fun x hx=>
 X.ev_eq fun t ht=>h t (by unfold Vc.uses;exact Zs _ (Z6.2 ⟨x,hx,ht⟩))
theorem uses_guard{m:Vc}{fr fr':Fr}(h:∀ t∈m.uses,fr.get t=fr'.get t):Vv fr m.guard=Vv fr' m.guard:=by
 unfold Vv
 cases hg:m.guard with
 | none=>rfl
 | some q=>
  obtain⟨t,b⟩:=q
  have:=h t (by unfold Vc.uses;simp[hg])
  simp only[this]
structure Run(Γ:Cg)(n:Nat)(zs:List (Vc × Nat))(ns:List Nat)(its:List DIt)(fr0 frE:Fr)(st0 stE:St):Prop where
 run:Wq Γ zs 0 st0.next fr0 (VT zs ns st0) none=some (its,frE,stE)
 chk:∀ q∈chkOf n zs,KE Γ zs its st0.next stE q=true
theorem Run.len(hR:Run Γ ops.size zs ns its fr0 frE st0 stE):its.length=zs.length:=(Jf _ _ _ _ _ _ _ _ _ hR.run).1
theorem Run.it(hR:Run Γ ops.size zs ns its fr0 frE st0 stE){j:Nat}{z:Vc × Nat}{it:DIt}(hz:zs[j]?=some z)(hi:its[j]?=some it):ItOk Γ zs its 0 st0.next fr0 (VT zs ns st0) none j z it:=
 (Jf _ _ _ _ _ _ _ _ _ hR.run).2.2.2 j z it hz hi
theorem Run.get(hR:Run Γ ops.size zs ns its fr0 frE st0 stE){j:Nat}{z:Vc × Nat}(hz:zs[j]?=some z):∃ it,its[j]?=some it:=by
 have:=(Qt.1 hz).1
 exact⟨its[j]'(by rw[hR.len];exact this),Qn _⟩
theorem Run.pan_eff(hR:Run Γ ops.size zs ns its fr0 frE st0 stE){j:Nat}{z:Vc × Nat}{f:Fr}{b:St}{v:AV}{d:St}(hz:zs[j]?=some z)(hi:its[j]?=some (.pan f b v d)):z.1.op.effect=true:=by
 obtain⟨_,_,_,h⟩:=hR.it hz hi
 cases he:z.1.op.effect with
 | true=>rfl
 | false=>
  rcases SH (Γ:=Γ) (id:=Wf zs j st0.next) (fr:=f) (st:=b) he with h'|⟨u,h'⟩<;>rw[h'] at h<;>cases h
theorem Inv.alive(hI:Inv ops zs ns its E0 w0 N D fr0 st0 listed E a w)(hd:YG ops zs)(hR:Run Γ ops.size zs ns its fr0 frE st0 stE){i:Nat}{z:Vc × Nat}(hz:zs[i]?=some z)(hr:i∈Region.ready .any ops listed):its[i]?≠some .dead:=by
 intro h
 rcases hR.it hz h with⟨p,h1,_⟩|⟨j',f,b,c,d,h1,h2⟩
 ·cases h1
 ·rw[Q7] at h2
  have:=hI.up hd hz hr h2
  rw[hI.pn _ _ _ _ _ h1] at this;cases this
theorem anch_of{i:Nat}{z:Vc × Nat}(hd:YG ops zs)(hz:zs[i]?=some z)(h:anchB ops.size zs i=true):∀(j:Nat) (z':Vc × Nat),zs[j]?=some z'->z'.1.op.effect=true->i=j\/z.2.testBit j=true\/z'.2.testBit i=true:=by
 intro j z' hz' he
 have hj:j < ops.size:=by rw[<-hd.len];exact(Qt.1 hz').1
 have:=QB.1 h j (Xo.2 hj)
 simp only[effAt,YN,hz,hz',he,Qc,Bool.or_false,XB] at this
 rcases this with (h | h) | h
 ·exact .inl (Qj h)
 ·exact .inr (.inl h)
 ·exact .inr (.inr h)
theorem noDesc_of{m i:Nat}(h:∀(j:Nat) (z':Vc × Nat),j < m->zs[j]?=some z'->z'.1.op.effect=true->z'.2.testBit i=false):noDesc m zs i=true:=by
 unfold noDesc
 refine QB.2 fun j hj=>?_
 have hj:=Xo.1 hj
 cases hz:zs[j]? with
 | none=>simp[effAt,hz]
 | some z'=>
  simp only[effAt,YN,hz,Xy]
  cases he:z'.1.op.effect
  ·rfl
  ·rw[h j z' hj hz he];rfl
theorem sameAt_of{id:Nat}{fr:Fr}{st:St}{m:MOp}{v:AV}(he:m.effect=false)(h:YF Γ id fr st m v=true):V5 Γ id fr st m=.val v st:=by
 unfold YF at h
 rcases SH (Γ:=Γ) (id:=id) (fr:=fr) (st:=st) he with h'|⟨u,h'⟩
 ·rw[h'] at h;cases h
 ·rw[h'] at h ⊢
  rw[JJ _ _ h]
theorem same_of{id:Nat}{fr:Fr}{st st1 st2:St}{m:MOp}{v:AV}(ho:V5 Γ id fr st1 m=.val v st2)(he:m.effect=false)(h:(W0 m fr||YF Γ id fr st m v)=true):V5 Γ id fr st m=.val v st:=by
 cases hf:W0 m fr with
 | true=>exact frz_still hf ho
 | false=>rw[hf,QL] at h;exact sameAt_of he h
theorem eff_anch(hd:YG ops zs){i:Nat}{z:Vc × Nat}(hz:zs[i]?=some z)(he:z.1.op.effect=true):∀(j:Nat) (z':Vc × Nat),zs[j]?=some z'->z'.1.op.effect=true->i=j\/z.2.testBit j=true\/z'.2.testBit i=true:=by
 intro j z' hz' he'
 rcases Nat.lt_trichotomy i j with h | h | h
 ·exact .inr (.inr (hd.effs i j z z' h hz hz' he he'))
 ·exact .inl h
 ·exact .inr (.inl (hd.effs j i z' z h hz' hz he' he))
theorem least{p:Nat->Prop}(h:∃ k,p k):∃ k,p k/\∀ j,j < k->¬ p j:=by
 obtain⟨k,hk⟩:=h
 induction k using Nat.strongRecOn with
 | _ k ih=>
  by_cases hj:∃ j,j < k/\p j
  ·obtain⟨j,h1,h2⟩:=hj;exact ih j h1 h2
  ·exact⟨k,hk,fun j h1 h2=>hj ⟨j,h1,h2⟩⟩
theorem Inv.now(hI:Inv ops zs ns its E0 w0 N D fr0 st0 listed E a w)(hd:YG ops zs)(hR:Run Γ ops.size zs ns its fr0 frE st0 stE){i:Nat}{z:Vc × Nat}{fr':Fr}{st' st'':St}{v:AV}(hz:zs[i]?=some z)(hr:i∈Region.ready .any ops listed)
  (hit:its[i]?=some (.val fr' st' v st'')) (hw:Vv fr' z.1.guard=some true) (ho:V5 Γ (Wf zs i st0.next) fr' st' z.1.op=.val v st''):
  V5 Γ (Wf zs i st0.next) (frL zs its (lst listed) 0 fr0) (stL zs its (lst listed) 0 (VT zs ns st0)) z.1.op=.val v (bif z.1.op.effect then st'' else stL zs its (lst listed) 0 (VT zs ns st0)):=by
 have hs:=hI.slots hd hz hr
 obtain⟨hfr,hst,_⟩:=hR.it hz hit
 rw[oprD_congr (uses_xs hs),<-hfr]
 cases he:z.1.op.effect with
 | true=>
  rw[hI.heap hd hz hr (eff_anch hd hz he),<-hst];exact ho
 | false=>
  simp only[Qq]
  have heq:=still_st he ho
  cases hrd:z.1.op.reads with
  | false=>exact oprD_pure he hrd ho
  | true=>
   cases ha:anchB ops.size zs i with
   | true=>rw[hI.heap hd hz hr (anch_of hd hz ha),<-hst,ho,heq]
   | false=>
    have hi:i < ops.size:=by rw[<-hd.len];exact(Qt.1 hz).1
    have hmem:∀ q,q∈(List.range ops.size).filterMap (fun k=>bif effAt zs k&&!(YN zs i).testBit k&&noDesc k zs i then some (i,some k) else none)++(bif noDesc ops.size zs i then [(i,none)] else [])->q∈chkOf ops.size zs:=fun q hq=>by
     unfold chkOf
     refine QO.2 ⟨i,Xo.2 hi,?_⟩
     simp only[rdAt,hz,hrd,ha,Qb,Bool.and_self,Qi]
     exact hq
    have hnd:∀(j:Nat) (z':Vc × Nat),zs[j]?=some z'->lst listed j=true->z'.2.testBit i=false:=fun j z' hz' hl=>by
     cases hb:z'.2.testBit i with
     | false=>rfl
     | true=>rw[hI.down hd hz' (hI.not hr) hb] at hl;cases hl
    by_cases hall:∀(k:Nat) (z':Vc × Nat),zs[k]?=some z'->z'.1.op.effect=true->lst listed k=true
    ·have hc:=hR.chk (i,none) (hmem _ (Zs _ (by
      rw[noDesc_of fun j z' _ hz' he'=>hnd j z' hz' (hall j z' hz' he')];simp)))
     simp only[KE,hz,hit,hw] at hc
     have hE:stL zs its (lst listed) 0 (VT zs ns st0)=stE:=by
      rw[(Jf _ _ _ _ _ _ _ _ _ hR.run).2.2.1]
      exact YE zs its _ _ 0 _ fun k z' hz' he' _=>by rw[Q7];exact hall k z' hz' he'
     rw[hE];exact same_of ho he hc
    ·have hex:∃ k,(∃ z':Vc × Nat,zs[k]?=some z'/\z'.1.op.effect=true/\lst listed k=false)/\∀ j,j < k->¬ ∃ z':Vc × Nat,zs[j]?=some z'/\z'.1.op.effect=true/\lst listed j=false:=by
      have h0:∃ k,∃ z':Vc × Nat,zs[k]?=some z'/\z'.1.op.effect=true/\lst listed k=false:=Classical.byContradiction fun hn=>hall fun k z' h1 h2=>by
       cases hl:lst listed k with
       | true=>rfl
       | false=>exact absurd ⟨k,z',h1,h2,hl⟩ hn
      exact least h0
     obtain⟨k,⟨zk,hzk,hek,hlk⟩,hmin⟩:=hex
     have hbefore:∀(j:Nat) (z':Vc × Nat),j < k->zs[j]?=some z'->z'.1.op.effect=true->lst listed j=true:=fun j z' hj h1 h2=>by
      cases hl:lst listed j with
      | true=>rfl
      | false=>exact absurd ⟨z',h1,h2,hl⟩ (hmin j hj)
     have hk:k < ops.size:=by rw[<-hd.len];exact(Qt.1 hzk).1
     have hnb:z.2.testBit k=false:=by
      cases hb:z.2.testBit k with
      | false=>rfl
      | true=>rw[hI.up hd hz hr hb] at hlk;cases hlk
     have hc:=hR.chk (i,some k) (hmem _ (XC _ (Z6.2 ⟨k,Xo.2 hk,by
      rw[noDesc_of fun j z' hj hz' he'=>hnd j z' hz' (hbefore j z' hj hz' he')]
      simp[effAt,YN,hzk,hek,hz,hnb]⟩)))
     have hsk:stL zs its (lst listed) 0 (VT zs ns st0)=stL zs its (fun j=>decide (j < 0+k)) 0 (VT zs ns st0):=by
      refine YE zs its _ _ 0 _ fun j z' hz' he' _=>?_
      simp only[Q7]
      rcases Nat.lt_trichotomy j k with h | h | h
      ·rw[hbefore j z' h hz' he'];simp[h]
      ·subst h;rw[hlk];simp
      ·rw[hI.down hd hz' hlk (hd.effs k j zk z' h hzk hz' hek he')];simp;omega
     obtain⟨itk,hik⟩:=hR.get hzk
     have hok:=hR.it hzk hik
     simp only[KE,hz,hit,hw,hik] at hc
     cases itk with
     | dead=>
      rcases hok with⟨p,h1,_⟩|⟨j',f,b,c,d,h1,h2⟩
      ·cases h1
      ·rw[Q7] at h2
       have hj:=ltAnc hd hzk h2
       have hjz:j' < zs.length:=by have:=(Qt.1 hzk).1;omega
       have hzj:zs[j']?=some zs[j']:=Qn hjz
       have:=hbefore j' _ hj hzj (hR.pan_eff hzj h1)
       rw[hI.pn _ _ _ _ _ h1] at this;cases this
     | val f s c d=>
      obtain⟨_,h2,_⟩:=hok
      rw[hsk,<-h2];exact same_of ho he hc
     | pan f s c d=>
      obtain⟨_,h2,_⟩:=hok
      rw[hsk,<-h2];exact same_of ho he hc
theorem lst_set{i j:Nat}(h:i≠j):lst (listed.setIfInBounds i true) j=lst listed j:=getD_set_ne false h
theorem TD{i:Nat}(h:i < listed.size):lst (listed.setIfInBounds i true) i=true:=by
 unfold lst;rw[QA];simp[h]
theorem Inv.next(hI:Inv ops zs ns its E0 w0 N D fr0 st0 listed E a w)(hd:YG ops zs)(hR:Run Γ ops.size zs ns its fr0 frE st0 stE){i:Nat}{z:Vc × Nat}{o:Oper}{fr':Fr}{st' st'':St}{v:AV}{E':Env}{w':World}{u:Value}
  (hz:zs[i]?=some z) (ho:ops[i]?=some o) (hdst:z.1.dst=o.dst) (hN:Un N o.dst=true) (hr:i∈Region.ready .any ops listed) (hit:its[i]?=some (.val fr' st' v st''))
  (hx:Ext E0 w0 E' w') (hx0:Ext0 E w E' w') (hs:Sat E' (bif z.1.op.effect then st'' else stL zs its (lst listed) 0 (VT zs ns st0)) w') (hv:Rv E' w' v u)
  (hrs:∀(j:Nat) (z:Vc × Nat),zs[j]?=some z->z.1.op.ahead=true->lst listed j=false->j≠i->E'.Rs (Wf zs j st0.next)):
  Inv ops zs ns its E0 w0 N D fr0 st0 (listed.setIfInBounds i true) E' (a.put o.dst u) w':=by
 have hi:i < listed.size:=by rw[hI.ls];exact(Qv.1 ho).1
 refine⟨hx,?_,?_,by rw[put_size];exact hI.sz,by rw[put_defers'];exact hI.df,fun j zj h1 h2 h3=>?_,?_,by rw[Array.size_setIfInBounds];exact hI.ls,fun j b c d e hj=>?_⟩
 ·cases he:z.1.op.effect with
  | true=>
   simp only[he,Qi] at hs
   rw[stL_at zs its _ 0 _ i z _ _ _ _ hz hit he (by rw[Q7];exact TD hi) fun k z' hk hz' he'=>?_]
   ·exact hs
   ·rw[Q7,lst_set (by omega)]
    exact hI.down hd hz' (hI.not hr) (hd.effs i k z z' hk hz hz' he he')
  | false=>
   simp only[he,Qq] at hs
   rw[YE zs its _ (lst listed) 0 _ fun k z' hz' he' _=>?_]
   ·exact hs
   ·rw[Q7]
    refine lst_set ?_
    rintro rfl
    rw[hz] at hz';injection hz' with hz';subst hz'
    rw[he] at he';cases he'
 ·have hput:RvF E' w' (Fr.put (frL zs its (lst listed) 0 fr0) o.dst v) (a.put o.dst u):=RvF.put (fun n=>Rv.mono0 hx0 _ _ (hI.rvf n)) hv (by rw[hI.sz];exact hN)
  intro t
  have:=hput t
  have he:(frL zs its (lst (listed.setIfInBounds i true)) 0 fr0).get t=(Fr.put (frL zs its (lst listed) 0 fr0) o.dst v).get t:=by
   by_cases ht:z.1.dst=some t
   ·rw[frL_at zs its _ 0 _ i z _ _ _ _ hz hit ht (by rw[Q7];exact TD hi) fun k z' h1 h2=>hd.dst k i z' z t h1 hz h2 ht]
    rw[<-hdst,ht]
    simp[Fr.put,Fr.get_set]
   ·have h1:(Fr.put (frL zs its (lst listed) 0 fr0) o.dst v).get t=(frL zs its (lst listed) 0 fr0).get t:=by
     rw[hdst] at ht
     cases hod:o.dst with
     | none=>rfl
     | some d=>
      rw[hod] at ht
      simp only[Fr.put,Fr.get_set]
      rw[Qe (by rintro rfl;exact ht rfl)]
    rw[h1]
    refine UR zs its _ _ 0 _ _ rfl fun k z' hz' hk _=>?_
    rw[Q7]
    refine lst_set ?_
    rintro rfl
    rw[hz] at hz';injection hz' with hz';subst hz'
    exact ht hk
  rw[he];exact this
 ·have hne:i≠j:=by
   rintro rfl
   rw[TD hi] at h3;cases h3
  rw[lst_set hne] at h3
  exact hrs j zj h1 h2 h3 (Ne.symm hne)
 ·obtain⟨_,o',ho',he⟩:=mem_ready.1 hr
  rw[ho] at ho';injection ho' with ho';subst ho'
  exact hI.cl.set ho he
 ·have hne:i≠j:=by
   rintro rfl
   rw[hit] at hj;cases hj
  rw[lst_set hne];exact hI.pn _ _ _ _ _ hj
def OpsOk(P:Program)(ops:Array Oper)(N:Nat)(zs:List (Vc × Nat)):Prop:=∀(i:Nat) (o:Oper),ops[i]?=some o->∃ z fz,zs[i]?=some z/\z.1.dst=o.dst/\z.1.op=(cop P fz o).getD .bad ∧
 cguard ops o=some z.1.guard/\Un N o.dst=true/\(∀ cs,z.1.op=.alloc cs->∃ t,o.op=.alloc t)/\∀ b s zz l c,z.1.op=.mksl b s zz l c->∃ t l' c',o.op=.makeSlice t l' c'
def rOf(zs:List (Vc × Nat))(fr0:Fr)(its:List DIt)(frE:Fr)(stE:St):RR:=match JE its with | some (v,st')=>.pan (frCut zs fr0) v st' | none=>.ok frE stE
theorem frL_ds:∀(zs:List (Vc × Nat)) (its:List DIt) (L:Nat->Bool) (i:Nat) (fr:Fr),(frL zs its L i fr).ds=fr.ds
 | [],_,_,_,_=>by unfold frL;rfl
 | z::zs,[],_,_,_=>by unfold frL;rfl
 | z::zs,it::its,L,i,fr=>by
  cases it<;>simp only[frL]<;>rw[frL_ds zs its L]
  cases L i<;>simp
theorem frCut_ds:∀(zs:List (Vc × Nat)) (fr:Fr),(frCut zs fr).ds=fr.ds
 | [],_=>rfl
 | z::zs,fr=>by
  unfold frCut
  rw[frCut_ds zs]
  cases z.1.dst<;>rfl
theorem frCut_get:∀(zs:List (Vc × Nat)) (fr:Fr) (n:Nat) (v:AV),(frCut zs fr).get n=some v->fr.get n=some v/\∀(k:Nat) (z:Vc × Nat),zs[k]?=some z->z.1.dst≠some n
 | [],_,_,_,h=>⟨h,fun k z hz=>by simp at hz⟩
 | z::zs,fr,n,v,h=>by
  unfold frCut at h
  obtain⟨h1,h2⟩:=frCut_get zs _ n v h
  cases hd:z.1.dst with
  | none=>
   rw[hd] at h1
   refine⟨h1,fun k z' hz=>?_⟩
   cases k with
   | zero=>simp only[Q0,Qa] at hz;subst hz;rw[hd];simp
   | succ k=>exact h2 k z' (by simpa using hz)
  | some d=>
   rw[hd] at h1
   simp only[Fr.get_set] at h1
   by_cases hn:n=d
   ·rw[Qm hn] at h1;cases h1
   ·rw[Qe hn] at h1
    refine⟨h1,fun k z' hz=>?_⟩
    cases k with
    | zero=>
     simp only[Q0,Qa] at hz;subst hz
     rw[hd];intro e;injection e with e;exact hn e.symm
    | succ k=>exact h2 k z' (by simpa using hz)
theorem panOf_none:∀(its:List DIt),(∀(j:Nat) (a:Fr) (b:St) (c:AV) (d:St),its[j]?≠some (.pan a b c d))->JE its=none
 | [],_=>rfl
 | it::its,h=>by
  have:=panOf_none its fun j a b c d hj=>h (j+1) a b c d (by simpa using hj)
  cases it with
  | dead=>exact this
  | val _ _ _ _=>exact this
  | pan a b c d=>exact absurd rfl (h 0 a b c d)
theorem Inv.fin(hI:Inv ops zs ns its E0 w0 N D fr0 st0 listed E a w)(hd:YG ops zs)(hR:Run Γ ops.size zs ns its fr0 frE st0 stE)(hall:∀ i,i < ops.size->lst listed i=true)(hD0:RvD P E0 w0 B w0.heap.size fr0.ds D)(hB0:B<=w0.heap.size):U9 P E0 w0 N B (rOf zs fr0 its frE stE) .normal a w:=by
 have hspec:=Jf _ _ _ _ _ _ _ _ _ hR.run
 have hlen:its.length=ops.size:=by rw[hspec.1,hd.len]
 have hnone:=panOf_none its fun j f b c d hj=>by
  have h1:j < ops.size:=by rw[<-hlen];exact(Qt.1 hj).1
  have:=hI.pn _ _ _ _ _ hj
  rw[hall j h1] at this;cases this
 unfold rOf
 rw[hnone]
 have hz:∀(k:Nat) (z:Vc × Nat),zs[k]?=some z->lst listed k=true:=fun k z hz=>hall k (by rw[<-hd.len];exact(Qt.1 hz).1)
 refine⟨rfl,E,hI.ext,?_,⟨fun t=>?_,hI.sz,by rw[hspec.2.1,frL_ds,hI.df];exact hD0.mono hI.ext hI.ext.size,QY hB0 hI.ext.size⟩⟩
 ·rw[hspec.2.2.1]
  rw[YE zs its _ (lst listed) 0 _ fun k z h1 _ _=>by rw[Q7,hz k z h1]]
  exact hI.sat
 ·have:=hI.rvf t
  rw[hspec.2.1,UR zs its (fun _=>true) (lst listed) 0 fr0 fr0 rfl fun k z h1 _ _=>by rw[Q7,hz k z h1]]
  exact this
theorem KW{b0:Option Nat}(hΓ:U6 P Γ E0 w0)(hD0:RvD P E0 w0 B w0.heap.size fr0.ds D)(hB0:B<=w0.heap.size)(hd:YG ops zs)(hops:OpsOk P ops N zs)(hR:Run Γ ops.size zs ns its fr0 frE st0 stE)(hE0:∀ j,E0.Rs j->j < st0.next):
  ∀(fuel:Nat) (listed:Array Bool) (E:Env) (a:Act) (w:World),Inv ops zs ns its E0 w0 N D fr0 st0 listed E a w->JN listed ops.size+fuel=ops.size->wpAnyIn (FR0 b0) 0 P .any ops (U9 P E0 w0 N B (rOf zs fr0 its frE stE)) fuel listed a w
 | 0,listed,E,a,w,hI,hn=>by
  have hall:∀ i,i < ops.size->lst listed i=true:=nlisted_all (by omega)
  refine⟨?_,hI.fin hd hR hall hD0 hB0⟩
  cases hr:Region.ready .any ops listed with
  | nil=>rfl
  | cons i l=>
   have hm:i∈Region.ready .any ops listed:=by rw[hr];simp
   obtain⟨_,o,ho,_⟩:=mem_ready.1 hm
   have:=hall i (Qv.1 ho).1
   rw[hI.not hm] at this;cases this
 | fuel+1,listed,E,a,w,hI,hn=>by
  refine⟨fun hr=>hI.fin hd hR (all_listed hd.back hI.ls hr) hD0 hB0,fun i hr=>?_⟩
  have hnot:=hI.not hr
  obtain⟨_,o,ho,_⟩:=mem_ready.1 hr
  have hi:i < ops.size:=(Qv.1 ho).1
  have hn':JN (listed.setIfInBounds i true) ops.size+fuel=ops.size:=by
   rw[nlisted_set hi (by rw[hI.ls];exact hi) hnot];omega
  obtain⟨z,fz,hz,hdst,hop,hg,hN,hal,hmk⟩:=hops i o ho
  obtain⟨it,hit⟩:=hR.get hz
  have hok:=hR.it hz hit
  have hs:=hI.slots hd hz hr
  have hwg:=uses_guard hs
  unfold wpOpIn
  simp only[ho]
  cases it with
  | dead=>exact absurd hit (hI.alive hd hR hz hr)
  | val fr' st' v st''=>
   obtain⟨hfr,hst,hok⟩:=hok
   rw[<-hfr] at hwg
   rcases hok with⟨hw,hop'⟩|⟨hw,rfl,rfl⟩
   ·rw[hw] at hwg
    rw[JG hI.rvf hg hwg]
    simp only[Xj]
    have hnow:=hI.now hd hR hz hr hit hw hop'
    by_cases hall:∃ cs,z.1.op=.alloc cs
    ·obtain⟨cs,hcs⟩:=hall
     obtain⟨t,hot⟩:=hal cs hcs
     have hcop:cop P fz o=(P.info? t).bind fun i=>(KP i).map fun zs=>bif fz then .allocT t zs else .alloc zs:=by
      unfold cop U3 cop1
      simp only[hot]
      cases P.info? t with
      | none=>rfl
      | some i=>cases h2:KP i<;>cases fz<;>simp[h2,MOp.isCall,MOp.special]
     rw[hcs] at hop
     have hc2:cop P fz o=some (.alloc cs):=by
      cases hc:cop P fz o with
      | none=>rw[hc] at hop;cases hop
      | some m=>rw[hc] at hop;simp only[Q9] at hop;rw[hop]
     rw[hcop] at hc2
     simp only[Qh,Qf] at hc2
     obtain⟨ti,hti,zz,hzz,hzc⟩:=hc2
     cases fz with
     | true=>cases hzc
     | false=>
     simp only[Qq,MOp.alloc.injEq] at hzc;subst hzc
     obtain⟨zv,hz0,hzs⟩:=Yu hzz
     have heff:z.1.op.effect=false:=by rw[hcs];rfl
     rw[heff] at hnow
     simp only[Qq,hcs,V5] at hnow
     have hrsI:=hI.rs i z hz (by rw[hcs];rfl) hnot
     have hsr:=hI.sat.rs _ hrsI
     split at hnow
     ·rename_i cs' hget
      cases hb:VG cs' zz
      ·simp[hb] at hnow
      ·simp only[hb,Qi,OpR.val.injEq,ZW] at hnow
       have:=WL _ _ hb
       subst this
       have hs2:=hI.sat.setRs (fun j=>j≠Wf zs i st0.next/\E.Rs j) fun j hj=>hI.sat.rs j hj.2
       obtain⟨w',h1,h2,h3,h4⟩:=alloc_link_sound (P:=P) (t:=t) hti hz0 hzs hs2 hsr.2 hsr.1 (fun h=>h.1 rfl) hget
       have hrun:(execOp a.eval o).run P w=.ok (.value (.pointer (some ⟨w.heap.size,0,none⟩))) w':=by simp[execOp,hot,h1]
       refine⟨fun _ _=>trivial,?_⟩
       rw[Oper.semAt_eq _ _ _ (fun c hc=>by rw[hot] at hc;cases hc),hrun]
       have hE2:Ext0 E w { E with Rs:=fun j=>j≠Wf zs i st0.next/\E.Rs j } w:=⟨fun _ _ h=>h,fun _ h=>h,fun _ _=>rfl,Qw _,fun _ _ h=>h,rfl,rfl,rfl,fun _ _=>rfl⟩
       have hx0:=hE2.trans h2.toExt0
       refine KW hΓ hD0 hB0 hd hops hR hE0 fuel _ _ _ _ (hI.next hd hR hz ho hdst hN hr hit ⟨hI.ext.toExt0.trans hx0,fun j hj=>?_,fun b o hb=>h2.Dz b o (hI.ext.Dz b o hb)⟩ hx0 (by rw[heff];exact h3) (by rw[<-hnow];exact h4) fun j zj hzj hcj hlj hne=>?_) hn'
       ·have h5:=hE0 j hj
        have h6:=idAt_le zs i st0.next
        exact h2.Rs j ⟨by omega,hI.ext.Rs j hj⟩
       ·refine h2.Rs _ ⟨?_,hI.rs j zj hzj hcj hlj⟩
        rcases Nat.lt_or_gt_of_ne hne with h | h
        ·have:=idAt_lt zs j i st0.next zj h hzj hcj;omega
        ·have:=idAt_lt zs i j st0.next z h hz (by rw[hcs];rfl);omega
     ·cases hnow
    ·by_cases hmks:∃ b s zz l c,z.1.op=.mksl b s zz l c
     ·obtain⟨b,s,zz,l,c,hcs⟩:=hmks
      obtain⟨t,l',c',hot⟩:=hmk b s zz l c hcs
      rw[hcs] at hop
      have hc2:cop P fz o=some (.mksl b s zz l c):=by
       cases hc:cop P fz o with
       | none=>rw[hc] at hop;cases hop
       | some m=>rw[hc] at hop;simp only[Q9] at hop;rw[hop]
      have hc3:cop1 P fz o=some (.mksl b s zz l c):=by
       unfold cop U3 at hc2
       simp only[hot] at hc2
       cases h1:cop1 P fz o with
       | none=>rw[h1] at hc2;cases hc2
       | some m=>
        rw[h1] at hc2
        simp only[Qg,cond_eq_ite,Option.ite_none_left_eq_some,Qa] at hc2
        rw[hc2.2]
      unfold cop1 at hc3
      simp only[hot] at hc3
      split at hc3<;>try (simp only[reduceCtorEq] at hc3;done)
      rename_i e hund
      simp only[Qh,Qf,MOp.mksl.injEq] at hc3
      obtain⟨ti,hti,zz',hzz,l0,hl0,c0,hc0,rfl,rfl,rfl,rfl,rfl⟩:=hc3
      obtain⟨zv,hz0,hzs⟩:=Yu hzz
      have heff:z.1.op.effect=false:=by rw[hcs];rfl
      rw[heff] at hnow
      simp only[Qq,hcs,V5] at hnow
      have hrsI:=hI.rs i z hz (by rw[hcs];rfl) hnot
      have hsr:=hI.sat.rs _ hrsI
      have hlv:=Vl hI.rvf hl0
      have hcv:=Vl hI.rvf hc0
      unfold msliceD at hnow
      split at hnow<;>try (simp only[OpR.of,reduceCtorEq] at hnow;done)
      rename_i kl nl kc nc cs' el ec hget
      rw[el] at hlv;rw[ec] at hcv
      have hlv:a.eval l'=.int kl (nl:Int):=hlv
      have hcv:a.eval c'=.int kc (nc:Int):=hcv
      cases hcd:(nl.ble nc&&(ti.bytes*nc).ble 140737488355328&&nc.ble 140737488355328&&zz'.length.beq ti.size&&VG cs' (Yl zz' nc))
      ·rw[hcd] at hnow;simp only[Qq,OpR.of,reduceCtorEq] at hnow
      ·rw[hcd] at hnow
       simp only[Qi,OpR.of,OpR.val.injEq,ZW] at hnow
       rw[Qd] at hcd
       have:=WL _ _ hcd.2
       subst this
       have hs2:=hI.sat.setRs (fun j=>j≠Wf zs i st0.next/\E.Rs j) fun j hj=>hI.sat.rs j hj.2
       obtain⟨q,w',h1,h2,h3,h4⟩:=mslice_link_sound (P:=P) (kl:=kl) (kc:=kc) hund hti hz0 hzs hs2 hsr.2 hsr.1 (fun h=>h.1 rfl) hget hcd.1
       have hrun:(execOp a.eval o).run P w=.ok (.value q) w':=by simp[execOp,hot,hlv,hcv,h1]
       refine⟨fun _ _=>trivial,?_⟩
       rw[Oper.semAt_eq _ _ _ (fun c hc=>by rw[hot] at hc;cases hc),hrun]
       have hE2:Ext0 E w { E with Rs:=fun j=>j≠Wf zs i st0.next/\E.Rs j } w:=⟨fun _ _ h=>h,fun _ h=>h,fun _ _=>rfl,Qw _,fun _ _ h=>h,rfl,rfl,rfl,fun _ _=>rfl⟩
       have hx0:=hE2.trans h2.toExt0
       refine KW hΓ hD0 hB0 hd hops hR hE0 fuel _ _ _ _ (hI.next hd hR hz ho hdst hN hr hit ⟨hI.ext.toExt0.trans hx0,fun j hj=>?_,fun b o hb=>h2.Dz b o (hI.ext.Dz b o hb)⟩ hx0 (by rw[heff];exact h3) (by rw[<-hnow];exact h4) fun j zj hzj hcj hlj hne=>?_) hn'
       ·have h5:=hE0 j hj
        have h6:=idAt_le zs i st0.next
        exact h2.Rs j ⟨by omega,hI.ext.Rs j hj⟩
       ·refine h2.Rs _ ⟨?_,hI.rs j zj hzj hcj hlj⟩
        rcases Nat.lt_or_gt_of_ne hne with h | h
        ·have:=idAt_lt zs j i st0.next zj h hzj hcj;omega
        ·have:=idAt_lt zs i j st0.next z h hz (by rw[hcs];rfl);omega
     have hopr:V5 Γ (Wf zs i st0.next) (frL zs its (lst listed) 0 fr0) (stL zs its (lst listed) 0 (VT zs ns st0)) z.1.op=opr Γ (frL zs its (lst listed) 0 fr0) (stL zs its (lst listed) 0 (VT zs ns st0)) z.1.op:=by
      unfold V5
      split
      ·rename_i cs hcs;exact absurd ⟨cs,hcs⟩ hall
      ·rename_i b s zz l c hcs;exact absurd ⟨b,s,zz,l,c,hcs⟩ hmks
      ·rfl
     rw[hopr] at hnow
     refine UN (hΓ.mono hI.ext) hI.rvf hI.sat (.val v (bif z.1.op.effect then st'' else stL zs its (lst listed) 0 (VT zs ns st0))) (by rw[<-hop];exact hnow) (fun v1 s1 heq E' w' u h1 h2 h3=>?_) (fun v1 s1 heq=>by cases heq) (by simp)
     injection heq with e1 e2
     subst e1;subst e2
     exact KW hΓ hD0 hB0 hd hops hR hE0 fuel _ E' _ w' (hI.next hd hR hz ho hdst hN hr hit (hI.ext.trans h1) h1.toExt0 h2 h3 fun j zj hzj hcj hlj _=>h1.Rs _ (hI.rs j zj hzj hcj hlj)) hn'
   ·rw[hw] at hwg
    rw[JG hI.rvf hg hwg]
    simp only[Q1,Xz]
    refine⟨fun _ _=>trivial,KW hΓ hD0 hB0 hd hops hR hE0 fuel _ E _ w (hI.next hd hR hz ho hdst hN hr hit hI.ext (Ext.refl E w).toExt0 ?_ rfl fun j zj hzj hcj hlj _=>hI.rs j zj hzj hcj hlj) hn'⟩
    cases he:z.1.op.effect with
    | false=>exact hI.sat
    | true=>
     simp only[Qi]
     rw[hst,<-hI.heap hd hz hr (eff_anch hd hz he)]
     exact hI.sat
  | pan fr' st' v st''=>
   have heff:=hR.pan_eff hz hit
   obtain⟨hfr,hst,hw,hop'⟩:=hok
   rw[<-hfr,hw] at hwg
   rw[JG hI.rvf hg hwg]
   simp only[Xj]
   have hopr:opr Γ (frL zs its (lst listed) 0 fr0) (stL zs its (lst listed) 0 (VT zs ns st0)) z.1.op=.pan v st'':=by
    rw[opr_congr (uses_xs hs),<-hfr,hI.heap hd hz hr (eff_anch hd hz heff),<-hst,<-hop']
    unfold V5
    split
    ·rename_i cs hcs;rw[hcs] at heff;cases heff
    ·rename_i b s zz l c hcs;rw[hcs] at heff;cases heff
    ·rfl
   refine UN (hΓ.mono hI.ext) hI.rvf hI.sat (.pan v st'') (by rw[<-hop];exact hopr) (fun v1 s1 heq=>by cases heq) (fun v1 s1 heq E' w' u h1 h2 h3=>?_) (by simp)
   injection heq with e1 e2
   subst e1;subst e2
   have:=(T6 _ _ _ _ _ _ _ _ _ hR.run).2 i _ _ _ _ hit
   unfold rOf
   rw[this]
   refine⟨u,E',rfl,hI.ext.trans h1,h2,h3,⟨fun n v hn=>?_,by rw[frCut_ds,hI.df];exact hD0.mono (hI.ext.trans h1) (hI.ext.trans h1).size⟩⟩
   obtain⟨h4,h5⟩:=frCut_get zs fr0 n v hn
   refine Rv.mono h1 _ _ (hI.rvf.part n v ?_)
   rw[frL_off zs its _ 0 fr0 h5];exact h4
theorem adraw_sound{id:Nat}{r:RR}{fr:Fr}{st:St}{b0:Option Nat}(hm:P.follows .mixedOrders=true)(hΓ:U6 P Γ E w)(hd:YG ops zs)(hops:OpsOk P ops N zs)(hr:VK Γ zs (chkOf ops.size zs) fr st=r)(hst:r≠.stuck)
  (hf:RvA P E w N B fr a) (hs:Sat E st w):(Code.region id ops true).wpIn (FR0 b0) 0 P (U9 P E w N B r) a w:=by
 unfold VK at hr
 generalize lens Γ zs fr st=ns at hr
 cases hrun:Wq Γ zs 0 st.next fr (VT zs ns st) none with
 | none=>rw[hrun] at hr;exact absurd hr.symm hst
 | some d=>
  obtain⟨its,frE,stE⟩:=d
  rw[hrun] at hr
  simp only at hr
  cases hc:(chkOf ops.size zs).all (KE Γ zs its st.next stE)
  ·rw[hc] at hr;exact absurd hr.symm hst
  ·rw[hc] at hr
   simp only[Qi] at hr
   have hR:Run Γ ops.size zs ns its fr frE st stE:=⟨hrun,fun q hq=>QB.1 hc q hq⟩
   have hr':rOf zs fr its frE stE=r:=hr
   rw[<-hr']
   refine wpIn_region_any hm ?_
   have hx:Ext E w E { w with drawn:=w.drawn+1 }:=hs.drew.2
   have hs1:Sat E st { w with drawn:=w.drawn+1 }:=hs.drew.1
   have hne:∀ k,lst (Array.replicate ops.size false) k=false:=fun k=>by
    unfold lst
    rw[QA]
    cases h:(Array.replicate ops.size false)[k]? with
    | none=>rfl
    | some b=>
     obtain⟨_,h⟩:=Qv.1 h
     simp at h;simp[h]
   have hn0:JN (Array.replicate ops.size false) ops.size=0:=by
    unfold JN
    refine List.countP_eq_zero.2 fun k _=>?_
    have:=hne k
    unfold lst at this
    simp[this]
   refine KW (D:=a.defers) hΓ hf.d hf.b hd hops hR (fun j hj=>(hs.rs j hj).2) ops.size _ { E with Rs:=fun j=>E.Rs j\/(st.next<=j/\j < (VT zs ns st).next) } a _ ⟨?_,?_,?_,hf.n,rfl,fun j z hz hcs _=>?_,fun i o _ h=>?_,by simp,fun j _ _ _ _ _=>hne j⟩ (by omega)
   ·exact⟨⟨fun _ _ h=>h,fun _ h=>h,hx.mem,hx.size,hx.shape,hx.os,hx.tape,hx.output,fun _ _=>rfl⟩,fun _ h=>.inl h,fun _ _ h=>h⟩
   ·rw[Tj zs its _ 0 _ fun k _=>hne k]
    refine (preA_sat zs ns st hs1).setRs _ fun j hj=>?_
    rcases hj with hj|⟨h1,h2⟩
    ·have:=hs.rs j hj
     have h3:=Sl zs ns st
     exact⟨this.1,by omega⟩
    ·refine⟨?_,h2⟩
     cases hb:E.β j with
     | none=>rfl
     | some b=>have:=(hs.dom j b hb).1;omega
   ·rw[Ts zs its _ 0 _ fun k _=>hne k]
    have hE2:Ext0 E w { E with Rs:=fun j=>E.Rs j\/(st.next<=j/\j < (VT zs ns st).next) } { w with drawn:=w.drawn+1 }:=⟨fun _ _ h=>h,fun _ h=>h,hx.mem,hx.size,hx.shape,hx.os,hx.tape,hx.output,fun _ _=>rfl⟩
    exact fun n=>Rv.mono0 hE2 _ _ (hf.f n)
   ·exact .inr ⟨idAt_le zs j st.next,idAt_next zs ns j st z hz hcs⟩
   ·have:=hne i
    unfold lst at this
    rw[this] at h;cases h
end
end Go.AM
namespace Go.AM
def Env.pin(E:Env)(D:Nat)(q:Option Obj):Env:={ E with Dz:=fun b=>if b=D then q else E.Dz b }
theorem Sat.allocPin{E:Env}{st:St}{w:World}(h:Sat E st w)(q:Obj)(hq:PinOk q):Sat (E.pin w.heap.size (some q)) st (w.alloc q) ∧
  Ext E w (E.pin w.heap.size (some q)) (w.alloc q):=by
 have hx:Ext E w (E.pin w.heap.size (some q)) (w.alloc q):=Ext.alloc _ (fun _ _ h=>h) (fun _ h=>h) (fun _ h=>h) (fun _ _=>rfl) (fun b o hb=>by
  have:=(Qv.1 (h.dz b o hb).1).1
  show (if b=w.heap.size then some q else E.Dz b)=_
  rw[Qe (by omega)];exact hb) h.fz
 refine⟨⟨fun id b hb=>?_,fun b hb=>?_,fun id o' b h1 h2=>?_,h.sep,h.lv,h.rs,fun b o hb=>?_,JW.mono h.bt hx.toExt0 rfl⟩,hx⟩
 ·have:=h.dom id b hb;simp;omega
 ·have:=h.fz b hb;simp;omega
 ·exact Wv.mono hx (Ww w _ b (h.dom id b h2).2) (h.obj id o' b h1 h2)
 ·have hb:(if b=w.heap.size then some q else E.Dz b)=some o:=hb
  split at hb
  ·rename_i e;injection hb with hb;subst hb;subst e
   exact⟨Vz w _,fun hf=>by have:=h.fz _ hf;omega,hq⟩
  ·obtain⟨h1,h2⟩:=h.dz b o hb
   exact⟨by rw[Ww w _ b (Qv.1 h1).1];exact h1,h2⟩
theorem Sat.rePin{E:Env}{st:St}{w:World}(h:Sat E st w){D:Nat}{o:Obj}(hD:E.Dz D=some o)(o':Obj)(q:Option Obj)(hq:∀ x,q=some x->x=o'/\PinOk x):
  Sat (E.pin D q) st (w.putObj D o')/\Ext0 E w (E.pin D q) (w.putObj D o'):=by
 obtain⟨h1,h2,h0⟩:=h.dz D o hD
 have hlt:=(Qv.1 h1).1
 have hne:∀ k,k≠D->(w.putObj D o').heap[k]?=w.heap[k]?:=fun k hk=>World.putObj_heap_other hk
 have hx:Ext0 E w (E.pin D q) (w.putObj D o'):=⟨fun _ _ h=>h,fun _ h=>h,fun b hb=>hne b (by rintro rfl;exact h2 hb),by simp,fun b s hs=>by
  by_cases hb:b=D
  ·subst hb;unfold World.shape? at hs;rw[h1] at hs;cases o<;>first | exact h0.elim | cases hs
  ·rw[YA (hne b hb)];exact hs,rfl,rfl,rfl,fun _ _=>rfl⟩
 refine⟨⟨fun id b hb=>?_,fun b hb=>?_,fun id o b g1 g2=>?_,h.sep,h.lv,h.rs,fun b x hb=>?_,JW.mono h.bt hx rfl⟩,hx⟩
 ·have:=h.dom id b hb;simp;exact this
 ·have:=h.fz b hb;simp;exact this
 ·have g3:=h.obj id o b g1 g2
  refine Wv.mono0 hx (hne b ?_) g3
  rintro rfl
  cases o with
  | fro cs=>exact h2 g3.1
  | fmap cs=>exact h2 g3.1
  | row cs=>obtain⟨⟨_,_,_,h4,_⟩,_⟩:=g3;rw[h1] at h4;injection h4 with h4;subst h4;exact h0
  | map es=>obtain⟨_,_,h4,_⟩:=g3;rw[h1] at h4;injection h4 with h4;subst h4;exact h0
  | loop s=>obtain⟨_,h4,_⟩:=g3;rw[h1] at h4;injection h4 with h4;subst h4;exact h0
  | iter m ks=>obtain⟨_,_,_,_,_,_,_,h4,_⟩:=g3;rw[h1] at h4;injection h4 with h4;subst h4;exact h0
 ·have hb1:(if b=D then q else E.Dz b)=some x:=hb
  split at hb1
  ·rename_i e;subst e
   obtain⟨e,h3⟩:=hq x hb1
   subst e
   exact⟨World.putObj_heap_same hlt,h2,h3⟩
  ·rename_i e
   obtain⟨h3,h4⟩:=h.dz b x hb1
   exact⟨by rw[hne b e];exact h3,h4⟩
theorem Sat.allocDz{E:Env}{st:St}{w:World}(h:Sat E st w):Sat (E.pin w.heap.size (some (.deferred (some [])))) st (w.alloc (.deferred (some []))) ∧
  Ext E w (E.pin w.heap.size (some (.deferred (some [])))) (w.alloc (.deferred (some []))):=h.allocPin _ trivial
theorem Sat.shutDz{E:Env}{st:St}{w:World}(h:Sat E st w){D:Nat}(hD:E.Dz D=some (.deferred (some []))):
  Sat (E.pin D none) st (w.putObj D (.deferred none))/\Ext0 E w (E.pin D none) (w.putObj D (.deferred none)):=h.rePin hD _ none (fun _ h=>by cases h)
def Env.loop(E:Env)(id b:Nat)(r:Loop):Env:={ E.link id b with lr:=fun k=>if k=b then r else E.lr k }
theorem Sat.newLoop{E:Env}{st:St}{w:World}(h:Sat E st w)(r:Loop)(h1:r.state=.ready)(h2:r.pending=none):
  Sat (E.loop st.next w.heap.size r) (st.new (.loop .ready)) (w.alloc (.loop r))/\Ext E w (E.loop st.next w.heap.size r) (w.alloc (.loop r)):=by
 have hx1:Ext E w { E with lr:=fun k=>if k=w.heap.size then r else E.lr k } w:=⟨⟨fun _ _ h=>h,fun _ h=>h,fun _ _=>rfl,Qw _,fun _ _ h=>h,rfl,rfl,rfl,fun b hb=>Qe (by omega)⟩,fun _ h=>h,fun _ _ h=>h⟩
 have hs1:Sat { E with lr:=fun k=>if k=w.heap.size then r else E.lr k } st w:=⟨h.dom,h.fz,fun id o b g1 g2=>Wv.mono hx1 rfl (h.obj id o b g1 g2),h.sep,h.lv,h.rs,h.dz,JW.mono h.bt hx1.toExt0 rfl⟩
 obtain⟨h3,h4⟩:=hs1.alloc' (.loop r) (.loop .ready) fun _=>⟨r,Vz w _,by
  show r={ (if w.heap.size=w.heap.size then r else E.lr w.heap.size) with state:=.ready,pending:=none }
  rw[Qm rfl,<-h1,<-h2]⟩
 exact⟨h3,hx1.trans h4⟩
theorem loopAt_get{st:St}{id:Nat}{s:LS}(h:Wh st id=some s):st.get id=some (.loop s):=by
 unfold Wh at h
 split at h
 ·rename_i h1;injection h with h;subst h;exact h1
 ·cases h
theorem Sat.loop{E:Env}{st:St}{w:World}(h:Sat E st w){id b:Nat}{s:LS}(hl:Wh st id=some s)(hb:E.β id=some b):∃ r,w.heap[b]?=some (.loop r)/\s.ok (E.lr b) r:=
 h.obj id _ b (loopAt_get hl) hb
theorem Sat.putLoop{E:Env}{st:St}{w:World}(h:Sat E st w){id b:Nat}{s s':LS}{r r':Loop}(hl:Wh st id=some s)(hb:E.β id=some b)(hr:w.heap[b]?=some (.loop r))(hok:s'.ok (E.lr b) r'):
  Sat E (st.put id (.loop s')) (w.putObj b (.loop r'))/\Ext E w E (w.putObj b (.loop r')):=by
 have hlt:=(Qv.1 hr).1
 refine h.write id b (.loop s) (.loop s') (loopAt_get hl) rfl hb (fun k hk=>World.putObj_heap_other hk) (by simp) (fun q hq=>?_) rfl rfl rfl rfl fun _=>⟨r',World.putObj_heap_same hlt,hok⟩
 unfold World.shape? at hq
 rw[hr] at hq;cases hq
end Go.AM
namespace Go.AM
theorem lsBeq_eq{a b:LS}(h:lsBeq a b=true):a=b:=by
 cases a<;>cases b<;>simp only[lsBeq,Q1] at h<;>first | rfl | rw[Qj h]
theorem esBeq_eq:∀{a b:List (AV × AV)},esBeq a b=true->a=b
 | [],[],_=>rfl
 | [],_::_,h=>by simp[esBeq] at h
 | _::_,[],h=>by simp[esBeq] at h
 | (p1,p2)::a,(q1,q2)::b,h=>by
  simp only[esBeq,Qd] at h
  rw[JJ _ _ h.1.1,JJ _ _ h.1.2,esBeq_eq h.2]
theorem aoBeq_eq{a b:AO}(h:aoBeq a b=true):a=b:=by
 cases a<;>cases b<;>simp only[aoBeq,Q1] at h
 ·rw[WL _ _ h]
 ·rw[WL _ _ h]
 ·rw[esBeq_eq h]
 ·rw[lsBeq_eq h]
 ·rw[esBeq_eq h]
theorem subTr_get{α:Type}{eq:α->α->Bool}(he:∀ a b,eq a b=true->a=b):∀(f n:Nat) (t u:Tr α) (v:α),subTr eq t u=true->Tr.getN f t n=some v->Tr.getN f u n=some v
 | f,n,.nil,u,v,_,h=>by rw[Tr.getN_nil] at h;cases h
 | f,n,.node o l r,.nil,v,hs,_=>by simp[subTr] at hs
 | f,n,.node o l r,.node o' l' r',v,hs,h=>by
  simp only[subTr,Qd] at hs
  have hv:∀ v,o=some v->o'=some v:=fun v hv=>by
   subst hv
   have:=hs.1.1
   cases o' with
   | none=>simp at this
   | some b=>simp only at this;rw[he _ _ this]
  cases f with
  | zero=>exact hv v h
  | succ f=>
   unfold Tr.getN at h ⊢
   cases hb:n.beq 0
   ·simp only[hb,Qq] at h ⊢
    cases ho:(n.mod 2).beq 1
    ·simp only[ho,Qq] at h ⊢
     exact subTr_get he f _ r r' v hs.2 h
    ·simp only[ho,Qi] at h ⊢
     exact subTr_get he f _ l l' v hs.1.2 h
   ·simp only[hb,Qi] at h ⊢
    exact hv v h
theorem subSt_of{L st:St}(h:Jn L st=true):SubSt L st:=by
 simp only[Jn,Qd] at h
 refine⟨Qj h.1.1,fun id o ho=>subTr_get (fun a b=>aoBeq_eq) _ _ _ _ _ h.1.2 ho,?_⟩
 have:=h.2
 split at this
 ·assumption
 ·cases this
theorem Sat.sub{E:Env}{L st:St}{w:World}(hs:Sat E st w)(h:SubSt L st):Sat E L w:=
 ⟨fun id b hb=>by rw[h.next];exact hs.dom id b hb,hs.fz,fun id o b h1 h2=>hs.obj id o b (h.obj _ _ h1) h2,fun i i' o o' b h1 h2=>hs.sep i i' o o' b (h.obj _ _ h1) (h.obj _ _ h2),
  fun id o b h1=>hs.lv id o b (h.obj _ _ h1),fun id hi=>by rw[h.next];exact hs.rs id hi,hs.dz,fun id t ht=>by rw[h.bt,Tr.get_nil] at ht;cases ht⟩
theorem eqTr_eq{α:Type}{eq:α->α->Bool}(he:∀ a b,eq a b=true->a=b):∀(t u:Tr α),eqTr eq t u=true->t=u
 | .nil,.nil,_=>rfl
 | .nil,.node _ _ _,h=>by simp[eqTr] at h
 | .node _ _ _,.nil,h=>by simp[eqTr] at h
 | .node o l r,.node o' l' r',h=>by
  simp only[eqTr,Qd] at h
  have ho:o=o':=by
   have:=h.1.1
   cases o<;>cases o'<;>simp only[Q1] at this
   ·rfl
   ·rw[he _ _ this]
  rw[ho,eqTr_eq he l l' h.1.2,eqTr_eq he r r' h.2]
theorem eqFr_eq{F G:Fr}(h:eqFr F G=true):F=G:=by
 simp only[eqFr,Qd] at h
 have h1:=eqTr_eq JJ _ _ h.1
 have h2:F.ds=G.ds:=by
  have:=h.2
  split at this
  ·rename_i e1 e2;rw[e1,e2]
  ·cases this
 cases F;cases G
 simp only at h1 h2
 rw[h1,h2]
theorem insAll_mem(x:Nat):∀(a b:List Nat),a++x::b∈insAll x (a++b)
 | [],[]=>by simp[insAll]
 | [],y::b=>by simp[insAll]
 | y::a,b=>by
  simp only[QP,insAll,Qx,Q6]
  exact .inr ⟨_,insAll_mem x a b,rfl⟩
theorem permsA_mem:∀(xs l:List Nat),l.Perm xs->l∈permsA xs
 | [],l,h=>by rw[h.eq_nil];simp[permsA]
 | x::xs,l,h=>by
  have hx:x∈l:=h.mem_iff.2 (by simp)
  obtain⟨a,b,rfl⟩:=Z7 hx
  have:(a++b).Perm xs:=List.Perm.cons_inv ((List.perm_middle.symm).trans h)
  simp only[permsA,QO]
  exact⟨_,permsA_mem xs _ this,insAll_mem x a b⟩
theorem isTop_eq{x:AV}(h:Jg x=true):x=.top:=by cases x<;>simp[Jg] at h;rfl
theorem nonAgg_top{E:Env}{w:World}{x:AV}{v:Value}(hn:VR x=true)(h:Rv E w x v):Rv E w .top v:=by
 show v.cells=#[v]
 cases x with
 | agg cs=>cases hn
 | undef=>subst h;rfl
 | bool b=>subst h;rfl
 | int k n=>subst h;rfl
 | str l=>obtain⟨s,rfl,hs⟩:=h;rfl
 | nilptr=>subst h;rfl
 | ptr id off=>obtain⟨b,hb,rfl⟩:=h;rfl
 | fptr cs off=>obtain⟨a,rfl,_⟩:=h;rfl
 | nilsl=>subst h;rfl
 | lst n cs ex=>obtain⟨a,cap,rfl,_⟩:=h;rfl
 | own id off n sz cap lo=>obtain⟨b,c,e,m,hb,rfl,_⟩:=h;rfl
 | nilmap=>subst h;rfl
 | map id=>obtain⟨b,hb,rfl⟩:=h;rfl
 | func fn fs cs=>obtain⟨xs,ys,rfl,_⟩:=h;rfl
 | nilfn=>subst h;rfl
 | niface=>subst h;rfl
 | iface t y=>obtain⟨u,rfl,_⟩:=h;rfl
 | tuple vs=>obtain⟨u,rfl,_⟩:=h;rfl
 | yld id=>obtain⟨b,hb,rfl⟩:=h;rfl
 | top=>exact h
theorem genOk_sound{E:Env}{w:World}{x y:AV}{v:Value}(hg:genOk x y=true)(h:Rv E w x v):Rv E w y v:=by
 cases y<;>simp only[genOk,Q1] at hg
 ·rename_i ds
  cases x<;>simp only[Q1] at hg
  rename_i cs
  simp only[Qd] at hg
  obtain⟨xs,rfl,hx⟩:=h
  refine⟨xs,rfl,?_⟩
  have key:∀(cs ds:List AV) (xs:List Value),cs.length=ds.length->cs.all VR=true->ds.all Jg=true->RvL E w cs xs->RvL E w ds xs:=by
   intro cs
   induction cs with
   | nil=>intro ds xs h1 _ _ h4;cases ds with | nil=>exact h4 | cons _ _=>simp at h1
   | cons c cs ih=>
    intro ds xs h1 h2 h3 h4
    cases ds with
    | nil=>simp at h1
    | cons d ds=>
     obtain⟨x,xs',rfl,h5,h6⟩:=h4
     simp only[QN,Qd] at h2 h3
     refine⟨x,xs',rfl,?_,ih ds xs' (by simpa using h1) h2.2 h3.2 h6⟩
     rw[isTop_eq h3.1];exact nonAgg_top h2.1 h5
  exact key cs ds _ (Qj hg.1.1) hg.1.2 hg.2 hx
 ·exact nonAgg_top hg h
theorem wipe_get:∀(cl:List Nat) (f:Fr) (n:Nat),n∉cl->(wipe cl f).get n=f.get n
 | [],_,_,_=>rfl
 | c::cl,f,n,h=>by
  simp only[Qx,Z8] at h
  unfold wipe
  rw[Xt]
  have:=wipe_get cl (f.set c (some .undef)) n h.2
  unfold wipe at this
  rw[this,Fr.get_set,Qe h.1]
theorem wipe_ds:∀(cl:List Nat) (f:Fr),(wipe cl f).ds=f.ds
 | [],_=>rfl
 | c::cl,f=>by
  unfold wipe
  rw[Xt]
  have:=wipe_ds cl (f.set c (some .undef))
  unfold wipe at this
  rw[this];rfl
theorem okFr_get{cl:List Nat}{f F:Fr}(h:okFr cl f F=true):(∀ n,n∉cl->F.get n=f.get n)/\(∀ n∈cl,genOk (ev f (.t n)) (ev F (.t n))=true)/\F.ds=f.ds:=by
 simp only[okFr,Qd,QB] at h
 have he:=eqFr_eq h.1
 refine⟨fun n hn=>?_,h.2,?_⟩
 ·rw[<-wipe_get cl f n hn,<-wipe_get cl F n hn,he]
 ·rw[<-wipe_ds cl f,<-wipe_ds cl F,he]
end Go.AM
namespace Go.AM
def GlobOk(_P:Program)(_w:World):Prop:=True
end Go.AM
