import Derived.Test.YtejdliehekjicaaGreatAwSym3
set_option maxRecDepth 100000
set_option linter.unusedSimpArgs false
namespace Go.AM.D32
open Go Go.AM
open Nat renaming reduceEqDiff -> rQ, reduceAdd -> rA
def lb(c i n i2:Nat)(B:Vn):Vn:=.seq (.region [⟨(some c),.bin false .lss (.t i) (.t n),none⟩]) (.seq (.cond (.t c) .skip (.exit 0)) (.seq (.block 1 B) (.region [⟨(some i2),.bin false .add (.t i) (ZC 1),none⟩,⟨(some i),.mv (.t i2),none⟩])))
def Mt(id:Nat)(st:St):Prop:=id < st.next/\∃ v,st.get id=some (.row [.int .i64 v])
theorem Mt.new{id:Nat}{st:St}(h:Mt id st)(o o':AO):Mt id ((st.new o).put st.next o'):=by
 refine⟨by have:=h.1;simp;omega,?_⟩
 obtain⟨v,hv⟩:=h.2
 refine⟨v,?_⟩
 rw[St.get_put,Qe (by have:=h.1;omega),St.get_new,Qe (by have:=h.1;omega)]
 exact hv
theorem Mt.put{id:Nat}{st:St}(h:Mt id st)(v:Int):Mt id (st.put id (.row [.int .i64 v])):=⟨h.1,v,by rw[St.get_put,Qm rfl]⟩
def Kp(l:List Nat)(fr fr':Fr):Prop:=fr'.ds=fr.ds/\∀ k∈l,fr'.get k=fr.get k
theorem Kp.refl{l:List Nat}{fr:Fr}:Kp l fr fr:=⟨rfl,fun _ _=>rfl⟩
theorem Kp.set{l:List Nat}{fr fr':Fr}{s:Nat}{v:Option AV}(hs:s∉l)(h:Kp l fr fr'):Kp l fr (fr'.set s v):=
 ⟨h.1,fun k hk=>by rw[Fr.get_set,Qe (fun e:k=s=>hs (e ▸ hk))];exact h.2 k hk⟩
theorem Kp.trans{l:List Nat}{a b c:Fr}(h:Kp l a b)(k:Kp l b c):Kp l a c:=⟨k.1.trans h.1,fun x hx=>(k.2 x hx).trans (h.2 x hx)⟩
theorem Kp.at{l:List Nat}{a b:Fr}(h:Kp l a b){k:Nat}{v:Option AV}(hk:k∈l)(hv:a.get k=v):b.get k=v:=(h.2 k hk).trans hv
theorem Yv{Γ:Cg}{b:List Vc}{fr1:Fr}{st1:St}:∀{a:List Vc} {fr:Fr} {st:St},Vj Γ a fr st=.ok fr1 st1->Vj Γ (a++b) fr st=Vj Γ b fr1 st1
 | [],fr,st,h=>by simp only[Vj,RR.ok.injEq] at h;obtain⟨rfl,rfl⟩:=h;rfl
 | m::a,fr,st,h=>by
  rw[QP]
  unfold Vj at h
  conv=>lhs;unfold Vj
  revert h
  split
  ·rename_i hw
   cases hd:m.op.isDefer with
   | true=>
    simp only[Qi]
    split
    ·exact fun h=>Yv h
    ·exact fun h=>nomatch h
   | false=>
    simp only[Qq]
    split
    ·exact fun h=>Yv h
    ·exact fun h=>nomatch h
    ·exact fun h=>nomatch h
  ·exact fun h=>Yv h
  ·exact fun h=>nomatch h
theorem Tm.cellsL3(l:List Tm):∀ y∈Tm.cellsL l,y.length=3/\y.all AV.one=true:=fun y hy=>by
 rw[Tm.cellsL_eq] at hy
 obtain⟨t,_,rfl⟩:=Q6.1 hy
 exact t.cells3
theorem Tm.cellsL_len(l:List Tm):(Tm.cellsL l).length=l.length:=by rw[Tm.cellsL_eq];simp
theorem Tm.cellsL_at{l:List Tm}{k:Nat}{x:Tm}(h:l[k]?=some x):(Tm.cellsL l)[k]?=some x.cells:=by rw[Tm.cellsL_eq,Q5,h];rfl
theorem Dv.cellsL3(l:List Dv):∀ y∈Dv.cellsL l,y.length=3/\y.all AV.one=true:=fun y hy=>by
 rw[Dv.cellsL_eq] at hy
 obtain⟨t,_,rfl⟩:=Q6.1 hy
 exact t.cells3
theorem Dv.cellsL_len(l:List Dv):(Dv.cellsL l).length=l.length:=by rw[Dv.cellsL_eq];simp
theorem Dv.cellsL_at{l:List Dv}{k:Nat}{x:Dv}(h:l[k]?=some x):(Dv.cellsL l)[k]?=some x.cells:=by rw[Dv.cellsL_eq,Q5,h];rfl
def dstN(k:Nat)(o:Vc):Bool:=match o.dst with
 | none=>true
 | some d=>!(d.beq k)
def ndB(o:Vc):Bool:=!o.op.isDefer
theorem defer_get{f f':Fr}{op:MOp}(h:Jr f op=some f')(k:Nat):f'.get k=f.get k:=by
 unfold Jr at h
 repeat' split at h
 all_goals first | (cases h;done) | (injection h with h;subst h;rfl)
theorem put_none{f:Fr}{o:Vc}{k:Nat}{v':AV}(m:dstN k o=true):(Fr.put f o.dst v').get k=f.get k:=by
 unfold dstN at m
 cases hd:o.dst with
 | none=>rfl
 | some d=>
  rw[hd] at m
  show (f.set d (some v')).get k=_
  rw[Fr.get_set,Qe (fun e=>by subst e;simp at m)]
theorem ah{Γ:Cg}{l:List Vc}{f f':Fr}{s s':St}{k:Nat}(h:Vj Γ l f s=.ok f' s')(m:l.all (dstN k)=true):f'.get k=f.get k:=by
 induction l generalizing f s with
 | nil=>simp only[Vj,RR.ok.injEq] at h;obtain⟨rfl,rfl⟩:=h;rfl
 | cons o l ih=>
  simp only[QN,Qd] at m
  rw[Vj] at h
  split at h
  ·cases hd:o.op.isDefer with
   | true=>
    simp only[hd,Qi] at h
    split at h
    ·rename_i f1 h1
     exact(ih h m.2).trans ((put_none m.1).trans (defer_get h1 k))
    ·cases h
   | false=>
    simp only[hd,Qq] at h
    split at h
    ·exact(ih h m.2).trans (put_none m.1)
    ·cases h
    ·cases h
  ·exact(ih h m.2).trans (put_none m.1)
  ·cases h
theorem ae{Γ:Cg}{l:List Vc}{f f':Fr}{s s':St}(h:Vj Γ l f s=.ok f' s')(m:l.all ndB=true:=by rfl):f'.ds=f.ds:=by
 induction l generalizing f s with
 | nil=>simp only[Vj,RR.ok.injEq] at h;obtain⟨rfl,rfl⟩:=h;rfl
 | cons o l ih=>
  simp only[QN,Qd] at m
  have hd:o.op.isDefer=false:=by have:=m.1;unfold ndB at this;simpa using this
  rw[Vj] at h
  split at h
  ·simp only[hd,Qq] at h
   split at h
   ·exact(ih h m.2).trans (Fr.put_ds _ _ _)
   ·cases h
   ·cases h
  ·exact(ih h m.2).trans (Fr.put_ds _ _ _)
  ·cases h
theorem ag{Γ:Cg}{l:List Vc}{f f':Fr}{s s':St}{k:Nat}{v:AV}(h:Vj Γ l f s=.ok f' s')(g:f.get k=some v)(m:l.all (dstN k)=true:=by rfl):f'.get k=some v:=(ah h m).trans g
theorem ad{Γ:Cg}{l:List Vc}{f f':Fr}{s s':St}{D}(h:Vj Γ l f s=.ok f' s')(d:f.ds=D)(m:l.all ndB=true:=by rfl):f'.ds=D:=(ae h m).trans d
theorem gAt{fA:Fr}{l:List AV}(hA:fA=Vo 0 l Fr.nil)(k:Nat){a:AV}(h:(Vo 0 l Fr.nil).get k=some a:=by rfl):fA.get k=some a:=hA ▸ h
def JX(p q:Int):Int:=if p=0 then q else p
def T3_(p q r:Int):Prop:=(¬ p=0\/r=q)/\(¬ q=0\/r=p)/\(¬ p=q\/r=p)
def arN(r:Int):Nat:=if r=1\/r=2 then 0 else if r=7 then 2 else 1
def vaN(r:Int):Nat:=if r=1\/r=2 then 8 else if r=16 then 64 else 0
section
variable (gr:Tm->Bool)
mutual
def Dv.good:Dv->Bool
 | .mk r _ _ vs _ _ l=>decide (1<=r)&&decide (r<=19)&&(l.length==arN r)&&decide (vs.length<=vaN r)&&vs.all gr&&Dv.goodL l
def Dv.goodL:List Dv->Bool
 | []=>true
 | d::l=>d.good&&Dv.goodL l
end
end
mutual
def Dv.size:Dv->Nat
 | .mk _ _ _ _ _ _ l=>Dv.sizeL l+1
def Dv.sizeL:List Dv->Nat
 | []=>0
 | d::l=>d.size+Dv.sizeL l
end
mutual
def Dv.depth:Dv->Nat
 | .mk _ _ _ _ _ _ l=>Dv.depthL l+1
def Dv.depthL:List Dv->Nat
 | []=>0
 | d::l=>Nat.max d.depth (Dv.depthL l)
end
mutual
def Dv.leaves:Dv->Nat
 | .mk _ _ _ _ _ _ l=>if l.length=0 then 1 else Dv.leavesL l
def Dv.leavesL:List Dv->Nat
 | []=>0
 | d::l=>d.leaves+Dv.leavesL l
end
def keepsB(r:Int):Bool:=r==5||r==6||r==8||r==9||r==11||r==18
def losesB(r:Int):Bool:=r==3||r==4||r==14||r==15||r==17||r==19||r==16
inductive Kd_ where
 | apart | keep | lose | sync | syncL | syncR | none
 deriving DecidableEq
def kind(r s:Int):Kd_:=
 if (r=5/\s=6)\/(r=6/\s=5) then .apart
 else if r=s/\keepsB r=true then .keep
 else if r=s/\losesB r=true then .lose
 else if r=7/\s=7 then .sync
 else if r=7/\(s=5\/s=6) then .syncL
 else if (r=5\/r=6)/\s=7 then .syncR
 else .none
def Kd_.swap:Kd_->Kd_
 | .syncL=>.syncR
 | .syncR=>.syncL
 | k=>k
inductive Bh:Dv->Dv->Dv->Bool->Prop
 | apart {r nv ev vs nl ex l s mv fv ws ml fx k}:kind r s=.apart->Bh (.mk r nv ev vs nl ex l) (.mk s mv fv ws ml fx k) (.mk s mv fv ws ml fx k) true
 | keep {r nv ev vs nl ex d s mv fv ws ml fx e x ok}:kind r s=.keep->Bh d e x ok->Bh (.mk r nv ev vs nl ex [d]) (.mk s mv fv ws ml fx [e]) (.mk s mv fv ws false true [x]) ok
 | loseNo {r nv ev vs nl ex l s mv fv ws ml fx k x}:kind r s=.lose->Wr vs ws≠0->Bh (.mk r nv ev vs nl ex l) (.mk s mv fv ws ml fx k) x false
 | lose {r nv ev vs nl ex d s mv fv ws ml fx e x ok}:kind r s=.lose->Wr vs ws=0->Bh d e x ok->Bh (.mk r nv ev vs nl ex [d]) (.mk s mv fv ws ml fx [e]) x ok
 | sync {r nv ev vs nl ex d d' s mv fv ws ml fx e e' x y one two}:kind r s=.sync->Bh d e x one->Bh d' e' y two->Bh (.mk r nv ev vs nl ex [d,d']) (.mk s mv fv ws ml fx [e,e']) (.mk 7 true false [] false true [x,y]) (one&&two)
 | syncL0 {r nv ev vs nl ex d d' s mv fv ws ml fx e x ok}:kind r s=.syncL->s=5->Bh d e x ok->Bh (.mk r nv ev vs nl ex [d,d']) (.mk s mv fv ws ml fx [e]) (.mk s true false [] false true [x]) ok
 | syncL1 {r nv ev vs nl ex d d' s mv fv ws ml fx e x ok}:kind r s=.syncL->s=6->Bh d' e x ok->Bh (.mk r nv ev vs nl ex [d,d']) (.mk s mv fv ws ml fx [e]) (.mk s true false [] false true [x]) ok
 | syncR0 {r nv ev vs nl ex d s mv fv ws ml fx e e' x ok}:kind r s=.syncR->r=5->Bh d e x ok->Bh (.mk r nv ev vs nl ex [d]) (.mk s mv fv ws ml fx [e,e']) (.mk 7 true false [] false true [x,e']) ok
 | syncR1 {r nv ev vs nl ex d s mv fv ws ml fx e e' x ok}:kind r s=.syncR->r=6->Bh d e' x ok->Bh (.mk r nv ev vs nl ex [d]) (.mk s mv fv ws ml fx [e,e']) (.mk 7 true false [] false true [e,x]) ok
 | no {r nv ev vs nl ex l s mv fv ws ml fx k x}:kind r s=.none->Bh (.mk r nv ev vs nl ex l) (.mk s mv fv ws ml fx k) x false
theorem Bh.good(gr:Tm->Bool){d e x:Dv}{a:Bool}(h:Bh d e x a):a=true->e.good gr=true->x.good gr=true/\x.size<=e.size/\x.depth<=e.depth/\x.leaves=e.leaves:=by
 induction h with
 | apart=>intro _ hg;exact⟨hg,Qw _,Qw _,rfl⟩
 | keep _ _ ih=>
  intro ha hg
  simp only[Dv.good,Dv.goodL,Qy,Qd,QC,X2] at hg ⊢
  obtain⟨h1,h2,h3,h4⟩:=ih ha hg.2
  refine⟨⟨hg.1,h1⟩,?_,?_,?_⟩
  ·simp only[Dv.size,Dv.sizeL];omega
  ·simp only[Dv.depth,Dv.depthL,Nat.max_zero];simpa using h3
  ·simp only[Dv.leaves,Dv.leavesL,QC,h4]<;>rfl
 | loseNo=>intro ha;cases ha
 | lose _ _ _ ih=>
  intro ha hg
  simp only[Dv.good,Dv.goodL,Qy,Qd] at hg
  obtain⟨h1,h2,h3,h4⟩:=ih ha hg.2
  refine⟨h1,?_,?_,?_⟩
  ·simp only[Dv.size,Dv.sizeL];omega
  ·simp only[Dv.depth,Dv.depthL];have:∀ a:Nat,Nat.max a 0=a:=fun a=>Nat.max_zero a
   rw[this];omega
  ·simp only[Dv.leaves,Dv.leavesL,QC,h4]<;>rfl
 | @sync r _ _ _ _ _ _ _ s _ _ _ _ _ _ _ _ _ one two hk _ _ ih ih'=>
  intro ha hg
  simp only[Qd] at ha
  simp only[Dv.good,Dv.goodL,Qy,Qd] at hg
  obtain⟨h1,h2,h3,h4⟩:=ih ha.1 hg.2.1
  obtain⟨k1,k2,k3,k4⟩:=ih' ha.2 hg.2.2
  refine⟨?_,?_,?_,?_⟩
  ·simp only[Dv.good,Dv.goodL,Qy,Qd]
   exact⟨⟨⟨⟨⟨rfl,rfl⟩,rfl⟩,rfl⟩,rfl⟩,h1,k1⟩
  ·simp only[Dv.size,Dv.sizeL];omega
  ·simp only[Dv.depth,Dv.depthL]
   have:∀ a b:Nat,Nat.max a b=if a<=b then b else a:=fun a b=>Nat.max_def
   simp only[this];repeat' split
   all_goals omega
  ·simp only[Dv.leaves,Dv.leavesL,QC,h4,k4]<;>rfl
 | @syncL0 r _ _ _ _ _ _ _ s _ _ _ _ _ _ _ _ hk hs _ ih=>
  intro ha hg
  simp only[Dv.good,Dv.goodL,Qy,Qd] at hg
  obtain⟨h1,h2,h3,h4⟩:=ih ha hg.2
  refine⟨?_,?_,?_,?_⟩
  ·subst hs
   simp only[Dv.good,Dv.goodL,Qy,Qd]
   exact⟨⟨⟨⟨⟨rfl,rfl⟩,rfl⟩,rfl⟩,rfl⟩,h1⟩
  ·simp only[Dv.size,Dv.sizeL];omega
  ·simp only[Dv.depth,Dv.depthL];have:∀ a:Nat,Nat.max a 0=a:=fun a=>Nat.max_zero a
   rw[this,this];omega
  ·simp only[Dv.leaves,Dv.leavesL,QC,h4]<;>rfl
 | @syncL1 r _ _ _ _ _ _ _ s _ _ _ _ _ _ _ _ hk hs _ ih=>
  intro ha hg
  simp only[Dv.good,Dv.goodL,Qy,Qd] at hg
  obtain⟨h1,h2,h3,h4⟩:=ih ha hg.2
  refine⟨?_,?_,?_,?_⟩
  ·subst hs
   simp only[Dv.good,Dv.goodL,Qy,Qd]
   exact⟨⟨⟨⟨⟨rfl,rfl⟩,rfl⟩,rfl⟩,rfl⟩,h1⟩
  ·simp only[Dv.size,Dv.sizeL];omega
  ·simp only[Dv.depth,Dv.depthL];have:∀ a:Nat,Nat.max a 0=a:=fun a=>Nat.max_zero a
   rw[this,this];omega
  ·simp only[Dv.leaves,Dv.leavesL,QC,h4]<;>rfl
 | syncR0 hk hr _ ih=>
  intro ha hg
  simp only[Dv.good,Dv.goodL,Qy,Qd] at hg
  obtain⟨h1,h2,h3,h4⟩:=ih ha hg.2.1
  refine⟨?_,?_,?_,?_⟩
  ·simp only[Dv.good,Dv.goodL,Qy,Qd]
   exact⟨⟨⟨⟨⟨rfl,rfl⟩,rfl⟩,rfl⟩,rfl⟩,h1,hg.2.2⟩
  ·simp only[Dv.size,Dv.sizeL];omega
  ·simp only[Dv.depth,Dv.depthL]
   have:∀ a b:Nat,Nat.max a b=if a<=b then b else a:=fun a b=>Nat.max_def
   simp only[this];repeat' split
   all_goals omega
  ·simp only[Dv.leaves,Dv.leavesL,QC,h4]<;>rfl
 | syncR1 hk hr _ ih=>
  intro ha hg
  simp only[Dv.good,Dv.goodL,Qy,Qd] at hg
  obtain⟨h1,h2,h3,h4⟩:=ih ha hg.2.2
  refine⟨?_,?_,?_,?_⟩
  ·simp only[Dv.good,Dv.goodL,Qy,Qd]
   exact⟨⟨⟨⟨⟨rfl,rfl⟩,rfl⟩,rfl⟩,rfl⟩,hg.2.1,h1⟩
  ·simp only[Dv.size,Dv.sizeL];omega
  ·simp only[Dv.depth,Dv.depthL]
   have:∀ a b:Nat,Nat.max a b=if a<=b then b else a:=fun a b=>Nat.max_def
   simp only[this];repeat' split
   all_goals omega
  ·simp only[Dv.leaves,Dv.leavesL,QC,h4]<;>rfl
 | no=>intro ha;cases ha
def aw(x y:Int):Int:=wr .i64 (x+y)
def sw(x y:Int):Int:=wr .i64 (x - y)
def mx(x y:Int):Int:=if y > x then y else x
theorem wr_in{n:Int}(h:-1000000<=n)(k:n<=1000000):wr .i64 n=n:=by
 have:in64 n=true:=by
  cases n with
  | ofNat m=>exact Qo (by simp at k;omega)
  | negSucc m=>exact Qo (by omega)
 simp only[wr,this,Qi]
theorem aw_eq{x y:Int}(h:-1000000<=x+y)(k:x+y<=1000000):aw x y=x+y:=wr_in h k
theorem sw_eq{x y:Int}(h:-1000000<=x - y)(k:x - y<=1000000):sw x y=x - y:=wr_in h k
mutual
def WM:Tm->Int->Int->Int->Int × Int
 | .mk _ _ _ _ l,d,a,b=>Yw l d (aw a 1) (mx b d)
def Yw:List Tm->Int->Int->Int->Int × Int
 | [],_,a,b=>(a,b)
 | t::l,d,a,b=>if a > 2000 then (a,b) else if b > 200 then (a,b) else Yw l d (WM t (aw d 1) a b).1 (WM t (aw d 1) a b).2
end
theorem cntL_nil(d a b:Int):Yw [] d a b=(a,b):=by unfold Yw;rfl
theorem Sg(t:Tm)(l:List Tm)(d a b:Int):Yw (t::l) d a b=if a > 2000 then (a,b) else if b > 200 then (a,b) else Yw l d (WM t (aw d 1) a b).1 (WM t (aw d 1) a b).2:=by conv=>lhs;unfold Yw
def badT(k n:Int)(len:Nat):Bool:=decide (n < 0)||((k==1)&&decide (Int.ofNat len > 0))||((k != 1)&&(k != 2))||decide (Int.ofNat len > 8)
mutual
def shT:Tm->Bool
 | .mk k n _ _ l=>if badT k n l.length=true then false else shL l
def shL:List Tm->Bool
 | []=>true
 | t::l=>if shT t=true then shL l else false
end
theorem shL_nil:shL []=true:=by unfold shL;rfl
theorem Ul(t:Tm)(l:List Tm):shL (t::l)=if shT t=true then shL l else false:=by conv=>lhs;unfold shL
mutual
def greT:Tm->Int->Int
 | .mk k n _ _ l,o=>mx (if k=1 then mx o n else o) (WW l (.negSucc 0))
def WW:List Tm->Int->Int
 | [],o=>o
 | t::l,o=>WW l (greT t o)
end
theorem greL_nil(o:Int):WW [] o=o:=by unfold WW;rfl
theorem greL_cons(t:Tm)(l:List Tm)(o:Int):WW (t::l) o=WW l (greT t o):=by conv=>lhs;unfold WW
def overP(p:Int × Int):Bool:=decide (p.1 > 2000)||decide (p.2 > 200)
def isTr(t:Tm):Bool:=!overP (WM t 1 0 0)&&shT t
def gr(t:Tm):Bool:=isTr t&&decide (WW [t] (.negSucc 0) < 0)
theorem gr_shT{t:Tm}(h:gr t=true):shT t=true:=by
 simp only[gr,isTr,Qd] at h
 exact h.1.2
theorem shT_mk{k n:Int}{nl ex:Bool}{l:List Tm}(h:shT (.mk k n nl ex l)=true):l.length<=8/\shL l=true:=by
 unfold shT at h
 split at h
 ·cases h
 ·rename_i hb
  refine⟨?_,h⟩
  unfold badT at hb
  simp only[XB,Z8,QF] at hb
  have:=hb.2
  simp at this;omega
theorem shL_mem:∀{l:List Tm},shL l=true->∀ t∈l,shT t=true
 | [],_,_,hx=>by simp at hx
 | t::l,h,x,hx=>by
  unfold shL at h
  split at h
  ·rename_i ht
   rcases Qx.1 hx with rfl | hx
   ·exact ht
   ·exact shL_mem h x hx
  ·cases h
mutual
def shD:Dv->Int->Int->Bool × Int
 | .mk r _ _ vs _ _ l,left,deep=>
  if sw left 1 < 0 then (false,sw left 1) else if deep > 400 then (false,sw left 1) else if r < 1 then (false,sw left 1) else if r > 19 then (false,sw left 1)
  else if l.length≠arN r then (false,sw left 1) else if vs.length > vaN r then (false,sw left 1) else if vs.all gr=true then Jl l (sw left 1) deep else (false,sw left 1)
def Jl:List Dv->Int->Int->Bool × Int
 | [],left,_=>(true,left)
 | d::l,left,deep=>if (shD d left (aw deep 1)).1=true then Jl l (shD d left (aw deep 1)).2 deep else (false,(shD d left (aw deep 1)).2)
end
theorem shDL_nil(a b:Int):Jl [] a b=(true,a):=by unfold Jl;rfl
theorem shDL_cons(d:Dv)(l:List Dv)(left deep:Int):Jl (d::l) left deep=if (shD d left (aw deep 1)).1=true then Jl l (shD d left (aw deep 1)).2 deep else (false,(shD d left (aw deep 1)).2):=by conv=>lhs;unfold Jl
def badD(r left deep:Int)(nl nv:Nat)(g:Bool):Bool:=decide (sw left 1 < 0)||(decide (deep > 400)||(decide (r < 1)||(decide (r > 19)||((Int.ofNat nl != Int.ofNat (arN r))||(decide (Int.ofNat nv > Int.ofNat (vaN r))||!g)))))
theorem shD_eq(r left deep:Int)(nv ev nl ex:Bool)(vs:List Tm)(l:List Dv):shD (.mk r nv ev vs nl ex l) left deep=if badD r left deep l.length vs.length (vs.all gr)=true then (false,sw left 1) else Jl l (sw left 1) deep:=by
 conv=>lhs;unfold shD
 unfold badD
 by_cases c1:sw left 1 < 0
 ·rw[Qm c1,Qs c1,Qm (by simp)]
 rw[Qe c1,Qp c1,QL]
 by_cases c2:deep > 400
 ·rw[Qm c2,Qs c2,Qm (by simp)]
 rw[Qe c2,Qp c2,QL]
 by_cases c3:r < 1
 ·rw[Qm c3,Qs c3,Qm (by simp)]
 rw[Qe c3,Qp c3,QL]
 by_cases c4:r > 19
 ·rw[Qm c4,Qs c4,Qm (by simp)]
 rw[Qe c4,Qp c4,QL]
 by_cases c5:l.length≠arN r
 ·have:(Int.ofNat l.length != Int.ofNat (arN r))=true:=by simp;omega
  rw[Qm c5,this,Qm (by simp)]
 have c5':(Int.ofNat l.length != Int.ofNat (arN r))=false:=by simp;omega
 rw[Qe c5,c5',QL]
 by_cases c6:vs.length > vaN r
 ·have:decide (Int.ofNat vs.length > Int.ofNat (vaN r))=true:=Qs (by simp;omega)
  rw[Qm c6,this,Qm (by simp)]
 have c6':decide (Int.ofNat vs.length > Int.ofNat (vaN r))=false:=Qp (by simp;omega)
 rw[Qe c6,c6',QL]
 by_cases c7:vs.all gr=true
 ·rw[Qm c7,c7,Qe (by simp)]
 ·rw[Qe c7,Qm (by simpa using c7)]
def isDv(d:Dv):Bool:=(shD d 4000 1).1
theorem depthL_max(d:Dv)(l:List Dv):Dv.depthL (d::l)=if d.depth<=Dv.depthL l then Dv.depthL l else d.depth:=by
 show Nat.max _ _=_
 exact Nat.max_def
mutual
theorem shD_spec:∀(d:Dv) (left deep:Int),0<=left->left<=4000->1<=deep->deep<=401 ->
  ((shD d left deep).1=true ↔ (d.good gr=true/\(d.size:Int)<=left/\deep+d.depth<=401))/\((shD d left deep).1=true->(shD d left deep).2=left - d.size)
 | .mk r nv ev vs nl ex l,left,deep,h1,h2,h3,h4=>by
  have hs:sw left 1=left - 1:=sw_eq (by omega) (by omega)
  unfold shD
  rw[hs]
  simp only[Dv.good,Dv.size,Dv.depth,Qd,QF,Zm]
  by_cases c1:left - 1 < 0
  ·rw[Qm c1];exact⟨⟨fun h=>(by cases h),fun h=>by omega⟩,fun h=>by cases h⟩
  rw[Qe c1]
  by_cases c2:deep > 400
  ·rw[Qm c2];exact⟨⟨fun h=>(by cases h),fun h=>by omega⟩,fun h=>by cases h⟩
  rw[Qe c2]
  by_cases c3:r < 1
  ·rw[Qm c3];exact⟨⟨fun h=>(by cases h),fun h=>by omega⟩,fun h=>by cases h⟩
  rw[Qe c3]
  by_cases c4:r > 19
  ·rw[Qm c4];exact⟨⟨fun h=>(by cases h),fun h=>by omega⟩,fun h=>by cases h⟩
  rw[Qe c4]
  by_cases c5:l.length≠arN r
  ·rw[Qm c5];exact⟨⟨fun h=>(by cases h),fun h=>absurd h.1.1.1.1.2 c5⟩,fun h=>by cases h⟩
  rw[Qe c5]
  by_cases c6:vs.length > vaN r
  ·rw[Qm c6];exact⟨⟨fun h=>(by cases h),fun h=>by omega⟩,fun h=>by cases h⟩
  rw[Qe c6]
  by_cases c7:vs.all gr=true
  ·rw[Qm c7]
   obtain⟨k1,k2⟩:=shDL_spec l (left - 1) deep (by omega) (by omega) h3 (by omega)
   refine⟨⟨fun h=>?_,fun h=>?_⟩,fun h=>?_⟩
   ·obtain⟨a1,a2,a3⟩:=k1.1 h
    refine⟨⟨⟨⟨⟨⟨by omega,by omega⟩,by omega⟩,by omega⟩,c7⟩,a1⟩,by omega,by omega⟩
   ·exact k1.2 ⟨h.1.2,by omega,by omega⟩
   ·rw[k2 h];omega
  ·rw[Qe c7];exact⟨⟨fun h=>(by cases h),fun h=>absurd h.1.1.2 c7⟩,fun h=>by cases h⟩
theorem shDL_spec:∀(l:List Dv) (left deep:Int),0<=left->left<=4000->1<=deep->deep<=400 ->
  ((Jl l left deep).1=true ↔ (Dv.goodL gr l=true/\(Dv.sizeL l:Int)<=left/\deep+Dv.depthL l<=400))/\((Jl l left deep).1=true->(Jl l left deep).2=left - Dv.sizeL l)
 | [],left,deep,h1,h2,h3,h4=>by
  simp only[Jl,Dv.goodL,Dv.sizeL,Dv.depthL,true_iff,true_and]
  exact⟨⟨by omega,by omega⟩,fun _=>by omega⟩
 | d::l,left,deep,h1,h2,h3,h4=>by
  have ha:aw deep 1=deep+1:=aw_eq (by omega) (by omega)
  unfold Jl
  rw[ha]
  obtain⟨k1,k2⟩:=shD_spec d left (deep+1) h1 h2 (by omega) (by omega)
  simp only[Dv.goodL,Dv.sizeL,depthL_max,Qd]
  by_cases c:(shD d left (deep+1)).1=true
  ·rw[Qm c]
   obtain⟨a1,a2,a3⟩:=k1.1 c
   have e:=k2 c
   rw[e]
   obtain⟨m1,m2⟩:=shDL_spec l (left - d.size) deep (by omega) (by omega) h3 h4
   refine⟨⟨fun h=>?_,fun h=>?_⟩,fun h=>?_⟩
   ·obtain⟨b1,b2,b3⟩:=m1.1 h
    exact⟨⟨a1,b1⟩,by omega,by split<;>omega⟩
   ·refine m1.2 ⟨h.1.2,by omega,?_⟩
    have:=h.2.2
    split at this<;>omega
   ·rw[m2 h];omega
  ·rw[Qe c]
   refine⟨⟨fun h=>(by cases h),fun h=>?_⟩,fun h=>by cases h⟩
   exact absurd (k1.2 ⟨h.1.1,by omega,by have:=h.2.2;split at this<;>omega⟩) c
end
theorem isDv_iff(d:Dv):isDv d=true ↔ (d.good gr=true/\d.size<=4000/\d.depth<=400):=by
 obtain⟨h,_⟩:=shD_spec d 4000 1 (by omega) (by omega) (by omega) (by omega)
 unfold isDv
 rw[h]
 constructor
 ·rintro ⟨a,b,c⟩;exact⟨a,by omega,by omega⟩
 ·rintro ⟨a,b,c⟩;exact⟨a,by omega,by omega⟩
theorem Bh.isDv{d e x:Dv}(h:Bh d e x true)(he:isDv e=true):isDv x=true/\x.leaves=e.leaves:=by
 obtain⟨a,b,c⟩:=(isDv_iff e).1 he
 obtain⟨h1,h2,h3,h4⟩:=h.good gr rfl a
 exact⟨(isDv_iff x).2 ⟨h1,by omega,by omega⟩,h4⟩
mutual
def Tm.size:Tm->Nat
 | .mk _ _ _ _ l=>Tm.sizeL l+1
def Tm.sizeL:List Tm->Nat
 | []=>0
 | t::l=>t.size+Tm.sizeL l
end
mutual
def Tm.depth:Tm->Nat
 | .mk _ _ _ _ l=>Tm.depthL l+1
def Tm.depthL:List Tm->Nat
 | []=>0
 | t::l=>if t.depth<=Tm.depthL l then Tm.depthL l else t.depth
end
mutual
def rcT:Tm->Int->Int->Int × Bool
 | .mk _ _ _ _ l,left,deep=>if sw left 1 < 0 then (sw left 1,false) else if deep > 200 then (sw left 1,false) else rcL l (sw left 1) deep
def rcL:List Tm->Int->Int->Int × Bool
 | [],left,_=>(left,true)
 | t::l,left,deep=>if (rcT t left (aw deep 1)).2=true then rcL l (rcT t left (aw deep 1)).1 deep else ((rcT t left (aw deep 1)).1,false)
end
theorem rcL_nil(left deep:Int):rcL [] left deep=(left,true):=by unfold rcL;rfl
theorem rcL_cons(t:Tm)(l:List Tm)(left deep:Int):rcL (t::l) left deep=if (rcT t left (aw deep 1)).2=true then rcL l (rcT t left (aw deep 1)).1 deep else ((rcT t left (aw deep 1)).1,false):=by conv=>lhs;unfold rcL
def rIs(t:Tm):Bool:=(rcT t 2000 1).2&&shT t
mutual
theorem rcT_spec:∀(t:Tm) (left deep:Int),0<=left->left<=4000->1<=deep->deep<=201 ->
  ((rcT t left deep).2=true ↔ ((t.size:Int)<=left/\deep+t.depth<=201))/\((rcT t left deep).2=true->(rcT t left deep).1=left - t.size)
 | .mk k n nl ex l,left,deep,h1,h2,h3,h4=>by
  have hs:sw left 1=left - 1:=sw_eq (by omega) (by omega)
  unfold rcT
  rw[hs]
  simp only[Tm.size,Tm.depth]
  by_cases c1:left - 1 < 0
  ·rw[Qm c1];exact⟨⟨fun h=>(by cases h),fun h=>by omega⟩,fun h=>(by cases h)⟩
  rw[Qe c1]
  by_cases c2:deep > 200
  ·rw[Qm c2];exact⟨⟨fun h=>(by cases h),fun h=>by omega⟩,fun h=>(by cases h)⟩
  rw[Qe c2]
  obtain⟨k1,k2⟩:=rcL_spec l (left - 1) deep (by omega) (by omega) h3 (by omega)
  refine⟨⟨fun h=>?_,fun h=>?_⟩,fun h=>?_⟩
  ·obtain⟨a1,a2⟩:=k1.1 h
   exact⟨by omega,by omega⟩
  ·exact k1.2 ⟨by omega,by omega⟩
  ·rw[k2 h];omega
theorem rcL_spec:∀(l:List Tm) (left deep:Int),0<=left->left<=4000->1<=deep->deep<=200 ->
  ((rcL l left deep).2=true ↔ ((Tm.sizeL l:Int)<=left/\deep+Tm.depthL l<=200))/\((rcL l left deep).2=true->(rcL l left deep).1=left - Tm.sizeL l)
 | [],left,deep,h1,h2,h3,h4=>by
  simp only[rcL,Tm.sizeL,Tm.depthL,true_iff]
  exact⟨⟨by omega,by omega⟩,fun _=>by omega⟩
 | d::l,left,deep,h1,h2,h3,h4=>by
  have ha:aw deep 1=deep+1:=aw_eq (by omega) (by omega)
  unfold rcL
  rw[ha]
  obtain⟨k1,k2⟩:=rcT_spec d left (deep+1) h1 h2 (by omega) (by omega)
  simp only[Tm.sizeL,Tm.depthL]
  by_cases c:(rcT d left (deep+1)).2=true
  ·rw[Qm c]
   obtain⟨a2,a3⟩:=k1.1 c
   have e:=k2 c
   rw[e]
   obtain⟨m1,m2⟩:=rcL_spec l (left - d.size) deep (by omega) (by omega) h3 h4
   refine⟨⟨fun h=>?_,fun h=>?_⟩,fun h=>?_⟩
   ·obtain⟨b2,b3⟩:=m1.1 h
    exact⟨by omega,by split<;>omega⟩
   ·refine m1.2 ⟨by omega,?_⟩
    have:=h.2
    split at this<;>omega
   ·rw[m2 h];omega
  ·rw[Qe c]
   refine⟨⟨fun h=>(by cases h),fun h=>?_⟩,fun h=>(by cases h)⟩
   exact absurd (k1.2 ⟨by omega,by have:=h.2;split at this<;>omega⟩) c
end
def fitT(p:Int × Int):Prop:=p.1<=2000/\p.2<=200
mutual
theorem cntT_spec:∀(t:Tm) (d a b:Int),0<=a->a<=2000->0<=b->b<=200->1<=d->d<=201 ->
  (fitT (WM t d a b) ↔ (a+t.size<=2000/\d+t.depth<=201))/\(fitT (WM t d a b)->(WM t d a b).1=a+t.size/\0<=(WM t d a b).2)
 | .mk k n nl ex l,d,a,b,h1,h2,h3,h4,h5,h6=>by
  have ha:aw a 1=a+1:=aw_eq (by omega) (by omega)
  have hm:mx b d=if d > b then d else b:=rfl
  unfold WM
  rw[ha]
  simp only[Tm.size,Tm.depth]
  have hmd:d<=mx b d/\b<=mx b d/\(mx b d=d\/mx b d=b):=by rw[hm];split<;>omega
  generalize mx b d=M at *
  by_cases c1:a+1 > 2000\/M > 200
  ·
   have hno:Yw l d (a+1) M=(a+1,M)\/l=[]:=by
    cases l with
    | nil=>exact .inr rfl
    | cons t l=>
     left
     rw[Sg]
     by_cases c:a+1 > 2000
     ·rw[Qm c]
     ·rw[Qe c,Qm (by omega)]
   have hv:Yw l d (a+1) M=(a+1,M):=by
    rcases hno with h | h
    ·exact h
    ·rw[h,cntL_nil]
   rw[hv]
   unfold fitT
   exact⟨⟨fun h=>by simp only at h;omega,fun h=>by omega⟩,fun h=>by simp only at h;omega⟩
  ·obtain⟨k1,k2⟩:=cntL_spec l d (a+1) M (by omega) (by omega) (by omega) (by omega) h5 (by omega)
   refine⟨⟨fun h=>?_,fun h=>?_⟩,fun h=>?_⟩
   ·obtain⟨a1,a2⟩:=k1.1 h
    exact⟨by omega,by omega⟩
   ·exact k1.2 ⟨by omega,by omega⟩
   ·obtain⟨a1,a2⟩:=k2 h
    exact⟨by omega,a2⟩
theorem cntL_spec:∀(l:List Tm) (d a b:Int),0<=a->a<=2000->0<=b->b<=200->1<=d->d<=200 ->
  (fitT (Yw l d a b) ↔ (a+Tm.sizeL l<=2000/\d+Tm.depthL l<=200))/\(fitT (Yw l d a b)->(Yw l d a b).1=a+Tm.sizeL l/\0<=(Yw l d a b).2)
 | [],d,a,b,h1,h2,h3,h4,h5,h6=>by
  rw[cntL_nil]
  simp only[Tm.sizeL,Tm.depthL,fitT]
  exact⟨⟨fun _=>⟨by omega,by omega⟩,fun _=>⟨by omega,by omega⟩⟩,fun _=>⟨by omega,by omega⟩⟩
 | t::l,d,a,b,h1,h2,h3,h4,h5,h6=>by
  have ha:aw d 1=d+1:=aw_eq (by omega) (by omega)
  rw[Sg,Qe (by omega),Qe (by omega),ha]
  obtain⟨k1,k2⟩:=cntT_spec t (d+1) a b h1 h2 h3 h4 (by omega) (by omega)
  simp only[Tm.sizeL,Tm.depthL]
  by_cases c:fitT (WM t (d+1) a b)
  ·obtain⟨a1,a2⟩:=k1.1 c
   obtain⟨e1,e2⟩:=k2 c
   obtain⟨m1,m2⟩:=cntL_spec l d (WM t (d+1) a b).1 (WM t (d+1) a b).2 (by omega) c.1 e2 c.2 h5 h6
   refine⟨⟨fun h=>?_,fun h=>?_⟩,fun h=>?_⟩
   ·obtain⟨b1,b2⟩:=m1.1 h
    exact⟨by omega,by split<;>omega⟩
   ·refine m1.2 ⟨by omega,?_⟩
    have:=h.2
    split at this<;>omega
   ·obtain⟨b1,b2⟩:=m2 h
    exact⟨by omega,b2⟩
  ·
   have hv:Yw l d (WM t (d+1) a b).1 (WM t (d+1) a b).2=((WM t (d+1) a b).1,(WM t (d+1) a b).2):=by
    cases l with
    | nil=>rw[cntL_nil]
    | cons u l=>
     rw[Sg]
     by_cases c':(WM t (d+1) a b).1 > 2000
     ·rw[Qm c']
     ·rw[Qe c',Qm]
      by_cases c2:(WM t (d+1) a b).2 > 200
      ·exact c2
      ·exact absurd ⟨by omega,by omega⟩ c
   rw[hv]
   refine⟨⟨fun h=>absurd h c,fun h=>?_⟩,fun h=>absurd h c⟩
   exact absurd (k1.2 ⟨by omega,by have:=h.2;split at this<;>omega⟩) c
end
theorem rIs_eq(t:Tm):rIs t=isTr t:=by
 obtain⟨h1,_⟩:=rcT_spec t 2000 1 (by omega) (by omega) (by omega) (by omega)
 obtain⟨h2,_⟩:=cntT_spec t 1 0 0 (by omega) (by omega) (by omega) (by omega) (by omega) (by omega)
 unfold rIs isTr
 congr 1
 have h3:(!overP (WM t 1 0 0))=true ↔ fitT (WM t 1 0 0):=by
  unfold overP fitT
  simp only[Xy,XM,XT]
  constructor
  ·rintro ⟨a,b⟩;exact⟨by omega,by omega⟩
  ·rintro ⟨a,b⟩;exact⟨by omega,by omega⟩
 rw[Bool.eq_iff_iff,h1,h3,h2]
 constructor
 ·rintro ⟨a,b⟩;exact⟨by omega,by omega⟩
 ·rintro ⟨a,b⟩;exact⟨by omega,by omega⟩
mutual
def vT:Tm->List Int->List Int
 | .mk k n _ _ l,out=>if k=1 then (if n∈out then out else out++[n]) else vL l out
def vL:List Tm->List Int->List Int
 | [],out=>out
 | t::l,out=>vL l (vT t out)
end
theorem vL_nil(o:List Int):vL [] o=o:=by unfold vL;rfl
theorem Tf(t:Tm)(l:List Tm)(o:List Int):vL (t::l) o=vL l (vT t o):=by conv=>lhs;unfold vL
mutual
theorem vT_keep:∀(t:Tm) (o:List Int),o≠[]->vT t o≠[]
 | .mk k n _ _ l,o,h=>by
  unfold vT
  split
  ·split
   ·exact h
   ·simp
  ·exact vL_keep l o h
theorem vL_keep:∀(l:List Tm) (o:List Int),o≠[]->vL l o≠[]
 | [],o,h=>by rw[vL_nil];exact h
 | t::l,o,h=>by rw[Tf];exact vL_keep l _ (vT_keep t o h)
end
mutual
theorem vT_gre:∀(t:Tm) (o:Int),shT t=true->(greT t o < 0 ↔ (o < 0/\vT t []=[]))
 | .mk k n nl ex l,o,h=>by
  have hb:badT k n l.length=false:=by
   unfold shT at h
   split at h
   ·cases h
   ·rename_i hb;simpa using hb
  obtain⟨_,hl⟩:=shT_mk h
  have hn:¬ n < 0:=by
   unfold badT at hb
   simp only[XM,XT] at hb
   exact hb.1.1.1
  have ih:=vL_gre l (.negSucc 0) hl
  unfold greT vT
  have hmx:∀ x y:Int,mx x y < 0 ↔ x < 0/\y < 0:=fun x y=>by unfold mx;split<;>omega
  rw[hmx]
  by_cases hk:k=1
  ·rw[Qm hk,Qm hk,Qe (by simp),hmx]
   simp
   omega
  ·rw[Qe hk,Qe hk,ih]
   constructor
   ·rintro ⟨a,_,b⟩;exact⟨a,b⟩
   ·rintro ⟨a,b⟩;exact⟨a,by decide,b⟩
theorem vL_gre:∀(l:List Tm) (o:Int),shL l=true->(WW l o < 0 ↔ (o < 0/\vL l []=[]))
 | [],o,_=>by rw[greL_nil,vL_nil];simp
 | t::l,o,h=>by
  rw[Ul] at h
  split at h
  ·rename_i ht
   rw[greL_cons,Tf,vL_gre l _ h,vT_gre t o ht]
   constructor
   ·rintro ⟨⟨a,b⟩,c⟩;rw[b];exact⟨a,c⟩
   ·rintro ⟨a,b⟩
    by_cases hv:vT t []=[]
    ·rw[hv] at b;exact⟨⟨a,hv⟩,b⟩
    ·exact absurd b (vL_keep l _ hv)
  ·cases h
end
def rGround(t:Tm):Bool:=rIs t&&decide ((vL [t] []).length=0)
theorem rGround_eq(t:Tm):rGround t=gr t:=by
 unfold rGround gr
 rw[rIs_eq]
 cases hi:isTr t with
 | false=>rfl
 | true=>
  have hs:shT t=true:=by simp only[isTr,Qd] at hi;exact hi.2
  have h:=vL_gre [t] (.negSucc 0) (by rw[Ul,Qm hs,shL_nil])
  simp only[Q3]
  rw[Bool.eq_iff_iff,decide_eq_true_iff,decide_eq_true_iff,h,XU]
  constructor
  ·intro a;exact⟨by decide,a⟩
  ·intro a;exact a.2
mutual
def rcD:Dv->Int->Int->Int × Bool
 | .mk _ _ _ _ _ _ l,left,deep=>if sw left 1 < 0 then (sw left 1,false) else if deep > 400 then (sw left 1,false) else Yj l (sw left 1) deep
def Yj:List Dv->Int->Int->Int × Bool
 | [],left,_=>(left,true)
 | t::l,left,deep=>if (rcD t left (aw deep 1)).2=true then Yj l (rcD t left (aw deep 1)).1 deep else ((rcD t left (aw deep 1)).1,false)
end
theorem rcDL_nil(left deep:Int):Yj [] left deep=(left,true):=by unfold Yj;rfl
theorem rcDL_cons(t:Dv)(l:List Dv)(left deep:Int):Yj (t::l) left deep=if (rcD t left (aw deep 1)).2=true then Yj l (rcD t left (aw deep 1)).1 deep else ((rcD t left (aw deep 1)).1,false):=by conv=>lhs;unfold Yj
mutual
theorem rcD_spec:∀(t:Dv) (left deep:Int),0<=left->left<=4000->1<=deep->deep<=401 ->
  ((rcD t left deep).2=true ↔ ((t.size:Int)<=left/\deep+t.depth<=401))/\((rcD t left deep).2=true->(rcD t left deep).1=left - t.size)
 | .mk r nv ev vs nl ex l,left,deep,h1,h2,h3,h4=>by
  have hs:sw left 1=left - 1:=sw_eq (by omega) (by omega)
  unfold rcD
  rw[hs]
  simp only[Dv.size,Dv.depth]
  by_cases c1:left - 1 < 0
  ·rw[Qm c1];exact⟨⟨fun h=>(by cases h),fun h=>by omega⟩,fun h=>(by cases h)⟩
  rw[Qe c1]
  by_cases c2:deep > 400
  ·rw[Qm c2];exact⟨⟨fun h=>(by cases h),fun h=>by omega⟩,fun h=>(by cases h)⟩
  rw[Qe c2]
  obtain⟨k1,k2⟩:=rcDL_spec l (left - 1) deep (by omega) (by omega) h3 (by omega)
  refine⟨⟨fun h=>?_,fun h=>?_⟩,fun h=>?_⟩
  ·obtain⟨a1,a2⟩:=k1.1 h
   exact⟨by omega,by omega⟩
  ·exact k1.2 ⟨by omega,by omega⟩
  ·rw[k2 h];omega
theorem rcDL_spec:∀(l:List Dv) (left deep:Int),0<=left->left<=4000->1<=deep->deep<=400 ->
  ((Yj l left deep).2=true ↔ ((Dv.sizeL l:Int)<=left/\deep+Dv.depthL l<=400))/\((Yj l left deep).2=true->(Yj l left deep).1=left - Dv.sizeL l)
 | [],left,deep,h1,h2,h3,h4=>by
  simp only[Yj,Dv.sizeL,Dv.depthL,true_iff]
  exact⟨⟨by omega,by omega⟩,fun _=>by omega⟩
 | d::l,left,deep,h1,h2,h3,h4=>by
  have ha:aw deep 1=deep+1:=aw_eq (by omega) (by omega)
  unfold Yj
  rw[ha]
  obtain⟨k1,k2⟩:=rcD_spec d left (deep+1) h1 h2 (by omega) (by omega)
  simp only[Dv.sizeL,depthL_max]
  by_cases c:(rcD d left (deep+1)).2=true
  ·rw[Qm c]
   obtain⟨a2,a3⟩:=k1.1 c
   have e:=k2 c
   rw[e]
   obtain⟨m1,m2⟩:=rcDL_spec l (left - d.size) deep (by omega) (by omega) h3 h4
   refine⟨⟨fun h=>?_,fun h=>?_⟩,fun h=>?_⟩
   ·obtain⟨b2,b3⟩:=m1.1 h
    exact⟨by omega,by split<;>omega⟩
   ·refine m1.2 ⟨by omega,?_⟩
    have:=h.2
    split at this<;>omega
   ·rw[m2 h];omega
  ·rw[Qe c]
   refine⟨⟨fun h=>(by cases h),fun h=>?_⟩,fun h=>(by cases h)⟩
   exact absurd (k1.2 ⟨by omega,by have:=h.2;split at this<;>omega⟩) c
end
def rIsD(d:Dv):Bool:=(rcD d 4000 1).2&&d.good gr
theorem rIsD_eq(d:Dv):rIsD d=isDv d:=by
 obtain⟨h1,_⟩:=rcD_spec d 4000 1 (by omega) (by omega) (by omega) (by omega)
 unfold rIsD
 rw[Bool.eq_iff_iff,Qd,h1,isDv_iff]
 constructor
 ·rintro ⟨⟨a,b⟩,c⟩;exact⟨c,by omega,by omega⟩
 ·rintro ⟨a,b,c⟩;exact⟨⟨by omega,by omega⟩,a⟩
def VZ(id:Nat)(st st':St):Prop:=st.next<=st'.next/\∀ i,i < st.next->i≠id->st'.get i=st.get i
theorem VZ.refl(id:Nat)(st:St):VZ id st st:=⟨Qw _,fun _ _ _=>rfl⟩
theorem VZ.trans{id:Nat}{a b c:St}(h:VZ id a b)(k:VZ id b c):VZ id a c:=⟨QY h.1 k.1,fun i hi hn=>(k.2 i (Qz hi h.1) hn).trans (h.2 i hi hn)⟩
theorem VZ.of{id:Nat}{a b:St}(h:Vd a b):VZ id a b:=⟨h.1,fun i hi _=>h.2 i hi⟩
theorem VZ.put(id:Nat)(st:St)(o:AO):VZ id st (st.put id o):=⟨Qw _,fun i _ hn=>by rw[St.get_put,Qe hn]⟩
theorem Vd.then1{id:Nat}{s a b:St}(h:Vd s a)(k:VZ id a b)(hid:s.next<=id):Vd s b:=
 ⟨QY h.1 k.1,fun i hi=>(k.2 i (Qz hi h.1) (by omega)).trans (h.2 i hi)⟩
theorem Vd.put'{s a:St}(h:Vd s a)(id:Nat)(o:AO)(hid:s.next<=id):Vd s (a.put id o):=h.put id o hid
theorem Vd.new'{s a:St}(h:Vd s a)(o:AO):Vd s (a.new o):=h.trans (Vd.new a o)
theorem Vd.newput{s a:St}(h:Vd s a)(o o':AO):Vd s ((a.new o).put a.next o'):=(h.new' o).put' _ _ h.1
theorem Vd.get{s a:St}(h:Vd s a){i:Nat}{o:AO}(hi:i < s.next)(hg:s.get i=some o):a.get i=some o:=(h.2 i hi).trans hg
def Vs(F:Nat->Prop)(st st':St):Prop:=∀ i,F i->st'.get i=st.get i
theorem Vs.refl(F:Nat->Prop)(st:St):Vs F st st:=fun _ _=>rfl
theorem Vs.trans{F:Nat->Prop}{a b c:St}(h:Vs F a b)(k:Vs F b c):Vs F a c:=fun i hi=>(k i hi).trans (h i hi)
theorem Vs.of1{F:Nat->Prop}{id:Nat}{a b:St}(h:VZ id a b)(hF:∀ i,F i->i < a.next)(hid:¬ F id):Vs F a b:=fun i hi=>h.2 i (hF i hi) (fun e=>hid (e ▸ hi))
theorem Vs.of{F:Nat->Prop}{a b:St}(h:Vd a b)(hF:∀ i,F i->i < a.next):Vs F a b:=fun i hi=>h.2 i (hF i hi)
theorem Vs.get{F:Nat->Prop}{a b:St}(h:Vs F a b){i:Nat}{o:AO}(hi:F i)(hg:a.get i=some o):b.get i=some o:=(h i hi).trans hg
def SlR(F:Nat->Prop)(st:St)(sl:AV)(xs:List (List AV)):Prop:=
 (∀ x∈xs,x.length=3/\x.all AV.one=true)/\xs.length<=9223372036854775807 ∧
 ((sl=.nilsl/\xs=[])\/(∃ ex,sl=.lst xs.length xs.flatten ex)\/(∃ id cap lo,sl=.own id 0 xs.length 3 cap lo/\F id/\st.get id=some (.row xs.flatten)))
theorem SlR.mono{F G:Nat->Prop}{s a:St}{sl:AV}{xs:List (List AV)}(h:SlR F s sl xs)(k:Vs F s a)(hFG:∀ i,F i->G i):SlR G a sl xs:=by
 obtain⟨h1,h2,h3⟩:=h
 refine⟨h1,h2,?_⟩
 rcases h3 with h | h|⟨id,cap,lo,h,hi,hg⟩
 ·exact .inl h
 ·exact .inr (.inl h)
 ·exact .inr (.inr ⟨id,cap,lo,h,hFG _ hi,k.get hi hg⟩)
theorem SlR.nil(F:Nat->Prop)(st:St):SlR F st .nilsl []:=⟨fun _ h=>by simp at h,X3 _,.inl ⟨rfl,rfl⟩⟩
theorem SlR.lst(F:Nat->Prop)(st:St){n:Nat}{xs:List (List AV)}{ex:Bool}(h:∀ x∈xs,x.length=3/\x.all AV.one=true)(hb:xs.length<=9223372036854775807)(hn:n=xs.length):SlR F st (.lst n xs.flatten ex) xs:=⟨h,hb,.inr (.inl ⟨ex,by rw[hn]⟩)⟩
theorem SlR.sl(F:Nat->Prop)(st:St){nl ex:Bool}{xs:List (List AV)}(h:∀ x∈xs,x.length=3/\x.all AV.one=true)(hb:xs.length<=9223372036854775807)(hn:nl=true->xs=[]):SlR F st (V7 nl ex xs) xs:=by
 cases nl with
 | true=>rw[hn rfl];exact SlR.nil F st
 | false=>exact SlR.lst F st h hb rfl
theorem SlR.one{F:Nat->Prop}{st:St}{sl:AV}{xs:List (List AV)}(h:SlR F st sl xs):AV.one sl=true:=by
 rcases h.2.2 with⟨rfl,_⟩|⟨ex,rfl⟩|⟨id,cap,lo,rfl,_⟩<;>rfl
theorem SlR.len{F:Nat->Prop}{st:St}{sl:AV}{xs:List (List AV)}(h:SlR F st sl xs)(st':St):(bif VD 0 sl then Wm st' sl else none)=some (ZI xs.length):=by
 rcases h.2.2 with⟨rfl,rfl⟩|⟨ex,rfl⟩|⟨id,cap,lo,rfl,_⟩<;>rfl
theorem SlR.at{F:Nat->Prop}{st:St}{sl:AV}{xs:List (List AV)}(h:SlR F st sl xs){k:Nat}{x:List AV}(hx:xs[k]?=some x):
  ∃ p,VC 3 sl (ZI k)=some p/\∀ st',Vs F st st'->Vf true 3 st' p=some (.agg x):=by
 have hk:=(Qt.1 hx).1
 have h3:=fun x hx=>(h.1 x hx).1
 rcases h.2.2 with⟨rfl,rfl⟩|⟨ex,rfl⟩|⟨id,cap,lo,rfl,hi,hg⟩
 ·simp at hk
 ·exact⟨_,iaddr_sl (nl:=false) (ex:=ex) h3 (fun h=>by cases h) hx,fun st' _=>load_sl h3 hx st'⟩
 ·refine⟨.ptr id (0+k*3),?_,fun st' hk'=>?_⟩
  ·simp only[VC]
   rw[Qo (show k+1<=xs.length from hk)]
   rfl
  ·simp only[Vf,Wy,hk'.get hi hg,Qg,Q7,flat_at h3 hx,Ja,Qi]
   rw[h3 x (Qr hx)]
   rfl
theorem flat_len{xs:List (List AV)}(h:∀ x∈xs,x.length=3/\x.all AV.one=true):xs.flatten.length=xs.length*3:=by
 induction xs with
 | nil=>rfl
 | cons y ys ih=>
  simp only[Xc,QJ,QC]
  rw[ih fun x hx=>h x (by simp[hx]),(h y (by simp)).1];omega
mutual
def We(F:Nat->Prop)(st:St):Tm->List AV->Prop
 | .mk k n _ _ l,cs=>∃ sl xs,cs=[.int .i64 k,.int .i64 n,sl]/\SlR F st sl xs/\Vy F st l xs
def Vy(F:Nat->Prop)(st:St):List Tm->List (List AV)->Prop
 | [],xs=>xs=[]
 | t::l,xs=>∃ x ys,xs=x::ys/\We F st t x/\Vy F st l ys
end
mutual
def VU(F:Nat->Prop)(st:St):Dv->List AV->Prop
 | .mk r _ _ vs _ _ l,cs=>∃ s1 x1 s2 x2,cs=[.int .i64 r,s1,s2]/\SlR F st s1 x1/\Vy F st vs x1/\SlR F st s2 x2/\VI F st l x2
def VI(F:Nat->Prop)(st:St):List Dv->List (List AV)->Prop
 | [],xs=>xs=[]
 | t::l,xs=>∃ x ys,xs=x::ys/\VU F st t x/\VI F st l ys
end
mutual
theorem We.mono{F G:Nat->Prop}{s a:St}(k:Vs F s a)(g:∀ i,F i->G i):∀(t:Tm) (cs:List AV),We F s t cs->We G a t cs
 | .mk _ _ _ _ l,cs,h=>by
  simp only[We] at h ⊢
  obtain⟨sl,xs,h1,h2,h3⟩:=h
  exact⟨sl,xs,h1,h2.mono k g,Vy.mono k g l xs h3⟩
theorem Vy.mono{F G:Nat->Prop}{s a:St}(k:Vs F s a)(g:∀ i,F i->G i):∀(l:List Tm) (xs:List (List AV)),Vy F s l xs->Vy G a l xs
 | [],xs,h=>by simp only[Vy] at h ⊢;exact h
 | t::l,xs,h=>by
  simp only[Vy] at h ⊢
  obtain⟨x,ys,h1,h2,h3⟩:=h
  exact⟨x,ys,h1,We.mono k g t x h2,Vy.mono k g l ys h3⟩
end
mutual
theorem VU.mono{F G:Nat->Prop}{s a:St}(k:Vs F s a)(g:∀ i,F i->G i):∀(t:Dv) (cs:List AV),VU F s t cs->VU G a t cs
 | .mk _ _ _ vs _ _ l,cs,h=>by
  simp only[VU] at h ⊢
  obtain⟨s1,x1,s2,x2,h1,h2,h3,h4,h5⟩:=h
  exact⟨s1,x1,s2,x2,h1,h2.mono k g,Vy.mono k g vs x1 h3,h4.mono k g,VI.mono k g l x2 h5⟩
theorem VI.mono{F G:Nat->Prop}{s a:St}(k:Vs F s a)(g:∀ i,F i->G i):∀(l:List Dv) (xs:List (List AV)),VI F s l xs->VI G a l xs
 | [],xs,h=>by simp only[VI] at h ⊢;exact h
 | t::l,xs,h=>by
  simp only[VI] at h ⊢
  obtain⟨x,ys,h1,h2,h3⟩:=h
  exact⟨x,ys,h1,VU.mono k g t x h2,VI.mono k g l ys h3⟩
end
theorem We.cells3{F:Nat->Prop}{st:St}{t:Tm}{cs:List AV}(h:We F st t cs):cs.length=3/\cs.all AV.one=true:=by
 cases t with
 | mk k n nl ex l=>
  simp only[We] at h
  obtain⟨sl,xs,rfl,h2,_⟩:=h
  refine⟨rfl,?_⟩
  have:=h2.one
  show (true&&(true&&(AV.one sl&&true)))=true
  rw[this];rfl
theorem VU.cells3{F:Nat->Prop}{st:St}{t:Dv}{cs:List AV}(h:VU F st t cs):cs.length=3/\cs.all AV.one=true:=by
 cases t with
 | mk r nv ev vs nl ex l=>
  simp only[VU] at h
  obtain⟨s1,x1,s2,x2,rfl,h2,_,h4,_⟩:=h
  refine⟨rfl,?_⟩
  show (true&&(AV.one s1&&(AV.one s2&&true)))=true
  rw[h2.one,h4.one];rfl
theorem Vy.len{F:Nat->Prop}{st:St}:∀{l:List Tm} {xs:List (List AV)},Vy F st l xs->xs.length=l.length
 | [],xs,h=>by simp only[Vy] at h;rw[h];rfl
 | t::l,xs,h=>by
  simp only[Vy] at h
  obtain⟨x,ys,rfl,_,h3⟩:=h
  simp only[QC,Vy.len h3]
theorem VI.len{F:Nat->Prop}{st:St}:∀{l:List Dv} {xs:List (List AV)},VI F st l xs->xs.length=l.length
 | [],xs,h=>by simp only[VI] at h;rw[h];rfl
 | t::l,xs,h=>by
  simp only[VI] at h
  obtain⟨x,ys,rfl,_,h3⟩:=h
  simp only[QC,VI.len h3]
theorem Vy.at{F:Nat->Prop}{st:St}:∀{l:List Tm} {xs:List (List AV)},Vy F st l xs->∀{k:Nat} {t:Tm},l[k]?=some t->∃ x,xs[k]?=some x/\We F st t x
 | [],xs,_,k,t,ht=>by simp at ht
 | u::l,xs,h,k,t,ht=>by
  simp only[Vy] at h
  obtain⟨x,ys,rfl,h2,h3⟩:=h
  cases k with
  | zero=>simp only[Q0,Qa] at ht;subst ht;exact⟨x,rfl,h2⟩
  | succ k=>simp only[QE] at ht;exact h3.at ht
theorem VI.at{F:Nat->Prop}{st:St}:∀{l:List Dv} {xs:List (List AV)},VI F st l xs->∀{k:Nat} {t:Dv},l[k]?=some t->∃ x,xs[k]?=some x/\VU F st t x
 | [],xs,_,k,t,ht=>by simp at ht
 | u::l,xs,h,k,t,ht=>by
  simp only[VI] at h
  obtain⟨x,ys,rfl,h2,h3⟩:=h
  cases k with
  | zero=>simp only[Q0,Qa] at ht;subst ht;exact⟨x,rfl,h2⟩
  | succ k=>simp only[QE] at ht;exact h3.at ht
theorem Vy.snoc{F:Nat->Prop}{st:St}:∀{l:List Tm} {xs:List (List AV)} {t:Tm} {x:List AV},Vy F st l xs->We F st t x->Vy F st (l++[t]) (xs++[x])
 | [],xs,t,x,h,k=>by simp only[Vy] at h;subst h;simp only[QR,Vy];exact⟨x,[],rfl,k,rfl⟩
 | u::l,xs,t,x,h,k=>by
  simp only[Vy] at h
  obtain⟨y,ys,rfl,h2,h3⟩:=h
  simp only[QP,Vy]
  exact⟨y,ys++[x],rfl,h2,h3.snoc k⟩
theorem VI.snoc{F:Nat->Prop}{st:St}:∀{l:List Dv} {xs:List (List AV)} {t:Dv} {x:List AV},VI F st l xs->VU F st t x->VI F st (l++[t]) (xs++[x])
 | [],xs,t,x,h,k=>by simp only[VI] at h;subst h;simp only[QR,VI];exact⟨x,[],rfl,k,rfl⟩
 | u::l,xs,t,x,h,k=>by
  simp only[VI] at h
  obtain⟨y,ys,rfl,h2,h3⟩:=h
  simp only[QP,VI]
  exact⟨y,ys++[x],rfl,h2,h3.snoc k⟩
theorem cellsL_nil{nl:Bool}{l:List Tm}(h:nl=true->l=[]):nl=true->Tm.cellsL l=[]:=fun k=>by rw[h k];rfl
mutual
theorem We.line(F:Nat->Prop)(st:St):∀(t:Tm),t.ok->We F st t t.cells
 | .mk k n nl ex l,h=>by
  simp only[Tm.ok] at h
  simp only[We,Tm.cells]
  exact⟨_,_,rfl,SlR.sl F st (Tm.cellsL3 l) (by rw[Tm.cellsL_len];exact h.2.1) (cellsL_nil h.1),Vy.line F st l h.2.2⟩
theorem Vy.line(F:Nat->Prop)(st:St):∀(l:List Tm),Tm.okL l->Vy F st l (Tm.cellsL l)
 | [],_=>by simp only[Vy,Tm.cellsL]
 | t::l,h=>by
  simp only[Tm.okL] at h
  simp only[Vy,Tm.cellsL]
  exact⟨_,_,rfl,We.line F st t h.1,Vy.line F st l h.2⟩
end
mutual
theorem VU.line(F:Nat->Prop)(st:St):∀(t:Dv),t.ok->VU F st t t.cells
 | .mk r nv ev vs nl ex l,h=>by
  simp only[Dv.ok] at h
  simp only[VU,Dv.cells]
  exact⟨_,_,_,_,rfl,SlR.sl F st (Tm.cellsL3 vs) (by rw[Tm.cellsL_len];exact h.2.1) (cellsL_nil h.1),Vy.line F st vs h.2.2.1,
   SlR.sl F st (Dv.cellsL3 l) (by rw[Dv.cellsL_len];exact h.2.2.2.2.1) (fun k=>by rw[h.2.2.2.1 k];rfl),VI.line F st l h.2.2.2.2.2⟩
theorem VI.line(F:Nat->Prop)(st:St):∀(l:List Dv),Dv.okL l->VI F st l (Dv.cellsL l)
 | [],_=>by simp only[VI,Dv.cellsL]
 | t::l,h=>by
  simp only[Dv.okL] at h
  simp only[VI,Dv.cellsL]
  exact⟨_,_,rfl,VU.line F st t h.1,VI.line F st l h.2⟩
end
theorem next_el(st:St){x zs:List AV}(hz:zs.length=3)(hx:x.length=3/\x.all AV.one=true):
  ∃ st1,Vt 3 (st.new (.row zs)) (.ptr st.next 0) (.agg x)=some st1/\Vd st st1/\st1.get st.next=some (.row x)/\st1.next=st.next+1:=
 ⟨_,Se hz hx.1 hx.2,(Vd.refl st).newput _ _,by rw[St.get_put,Qm rfl],rfl⟩
end Go.AM.D32
