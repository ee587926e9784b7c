import Derived.Test.YtejdliehekjicaaGreatAwDef
import Derived.CallsIn
import Derived.Below
import Derived.Laws.Cells
import Derived.Laws.Rows
import Derived.Laws.Slices
import Derived.Laws.AppendOwn
import Derived.Laws.BitsLemmas
import Derived.Laws.Strings
set_option linter.unusedSimpArgs false
namespace Go.AM
def AO.live:AO->Bool
 | .fro _=>false
 | .fmap _=>false
 | _=>true
section
variable {α:Type}
theorem Tr.getN_nil:∀(f n:Nat),Tr.getN f (.nil:Tr α) n=none
 | 0,_=>rfl
 | f+1,n=>by
  unfold Tr.getN
  simp only[Tr.val,Tr.left,Tr.right,Tr.getN_nil f]
  cases n.beq 0<;>cases (n.mod 2).beq 1<;>rfl
theorem Tr.getN_setN:∀(f g:Nat) (t:Tr α) (n m:Nat) (o:Option α),n<=f->m<=g->Tr.getN g (Tr.setN f t n o) m=if m=n then o else Tr.getN g t m
 | f,g,t,n,m,o,hn,hm=>by
  cases f with
  | zero=>
   obtain rfl:n=0:=by omega
   cases g with
   | zero=>
    obtain rfl:m=0:=by omega
    simp[Tr.getN,Tr.setN,Tr.val]
   | succ g=>
    by_cases h0:m=0
    ·subst h0;simp[Tr.getN,Tr.setN,Tr.val,Nat.beq]
    ·have hb:m.beq 0=false:=by cases m<;>simp_all [Nat.beq]
     simp only[Tr.getN,Tr.setN,hb,Qq,Tr.left,Tr.right,Qe h0]
  | succ f=>
   cases g with
   | zero=>
    obtain rfl:m=0:=by omega
    by_cases h0:n=0
    ·subst h0;simp[Tr.getN,Tr.setN,Tr.val,Nat.beq]
    ·have hb:n.beq 0=false:=by cases n<;>simp_all [Nat.beq]
     simp only[Tr.setN,hb,Qq]
     rw[Qe (by omega)]
     cases (n.mod 2).beq 1<;>simp[Tr.getN,Tr.val]
   | succ g=>
    have ih:=Tr.getN_setN f g
    by_cases hn0:n=0
    ·subst hn0
     by_cases hm0:m=0
     ·subst hm0;simp[Tr.getN,Tr.setN,Tr.val,Nat.beq]
     ·have hb:m.beq 0=false:=by cases m<;>simp_all [Nat.beq]
      simp only[Tr.getN,Tr.setN,hb,Qq,Tr.left,Tr.right,Qe hm0,Nat.beq,Qi]
    ·have hbn:n.beq 0=false:=by cases n<;>simp_all [Nat.beq]
     by_cases hm0:m=0
     ·subst hm0
      simp only[Tr.setN,hbn,Qq]
      rw[Qe (by omega)]
      cases (n.mod 2).beq 1<;>simp[Tr.getN,Tr.val,Nat.beq]
     ·have hbm:m.beq 0=false:=by cases m<;>simp_all [Nat.beq]
      have e2:∀ k:Nat,(k.mod 2).beq 1=decide (k % 2=1):=fun k=>by
       show (k % 2).beq 1=_
       by_cases h:k % 2=1
       ·simp[h]
       ·have:k % 2=0:=by omega
        simp[this,Nat.beq]
      have d2:∀ k:Nat,k.div 2=k / 2:=fun _=>rfl
      simp only[Tr.setN,hbn,Qq,Tr.getN,hbm,e2,d2]
      by_cases on:n % 2=1<;>by_cases om:m % 2=1<;>simp only[on,om,Z3,decide_false,Qi,Qq,Tr.left,Tr.right,Zh]
      ·rw[ih _ _ _ _ (by omega) (by omega)]
       by_cases e:m / 2=n / 2
       ·rw[Qm e,Qm (by omega)]
       ·rw[Qe e,Qe (by omega)]
      ·rw[Qe (by omega)]
      ·rw[Qe (by omega)]
      ·rw[ih _ _ _ _ (by omega) (by omega)]
       by_cases e:m / 2 - 1=n / 2 - 1
       ·rw[Qm e,Qm (by omega)]
       ·rw[Qe e,Qe (by omega)]
theorem Tr.get_set(t:Tr α)(n m:Nat)(o:Option α):(t.set n o).get m=if m=n then o else t.get m:=
 Tr.getN_setN _ _ _ _ _ _ (Qw _) (Qw _)
theorem Tr.get_nil(n:Nat):(Tr.nil:Tr α).get n=none:=Tr.getN_nil _ _
end
@[simp] theorem St.get_put (st:St) (id m:Nat) (o:AO):(st.put id o).get m=if m=id then some o else st.get m:=Tr.get_set ..
@[simp] theorem St.get_del (st:St) (id m:Nat):(st.del id).get m=if m=id then none else st.get m:=Tr.get_set ..
@[simp] theorem St.get_new (st:St) (m:Nat) (o:AO):(st.new o).get m=if m=st.next then some o else st.get m:=Tr.get_set ..
@[simp] theorem St.get_tag (st:St) (id e m:Nat):(st.tag id e).get m=st.get m:=rfl
@[simp] theorem St.next_tag (st:St) (id e:Nat):(st.tag id e).next=st.next:=rfl
@[simp] theorem St.bt_put (st:St) (id:Nat) (o:AO):(st.put id o).bt=st.bt:=rfl
@[simp] theorem St.bt_del (st:St) (id:Nat):(st.del id).bt=st.bt:=rfl
@[simp] theorem St.bt_new (st:St) (o:AO):(st.new o).bt=st.bt:=rfl
@[simp] theorem St.next_put (st:St) (id:Nat) (o:AO):(st.put id o).next=st.next:=rfl
@[simp] theorem St.next_del (st:St) (id:Nat):(st.del id).next=st.next:=rfl
@[simp] theorem St.next_new (st:St) (o:AO):(st.new o).next=st.next+1:=rfl
structure Env where
 β:Nat->Option Nat
 Fz:Nat->Prop
 Rs:Nat->Prop
 lr:Nat->Loop
 Dz:Nat->Option Obj
mutual
def Rv(E:Env)(w:World):AV->Value->Prop
 | .undef,v=>v=.tuple #[]
 | .bool b,v=>v=.bool b
 | .int k n,v=>v=.int k n
 | .str l,v=>∃ s:ByteArray,v=.string s/\s.data.toList.map (·.toNat)=l
 | .nilptr,v=>v=.pointer none
 | .ptr id off,v=>∃ b,E.β id=some b/\v=.pointer (some ⟨b,off,none⟩)
 | .fptr cs off,v=>∃ a:Addr,v=.pointer (some (a.add off))/\E.Fz a.block/\V3 E w a 0 cs
 | .nilsl,v=>v=.slice none 0 0
 | .lst n cs ex,v=>∃ (a:Addr) (cap:Nat),v=.slice (some a) n cap/\n<=cap/\(ex=true->cap=n)/\(cs≠[]->E.Fz a.block)/\V3 E w a 0 cs
 | .own id off n sz cap lo,v=>∃ b c e m,E.β id=some b/\v=.slice (some ⟨b,off,none⟩) n c/\n<=c/\(∀ k,cap=some k->c=k)/\w.shape? b=some (e,m)/\off+c*sz<=m/\lo<=c
 | .nilmap,v=>v=.map none
 | .map id,v=>∃ b,E.β id=some b/\v=.map (some b)
 | .func fn fs cs,v=>∃ xs ys:Array Value,v=.func fn xs ys/\RvL E w fs xs.toList/\RvL E w cs ys.toList
 | .nilfn,v=>v=.nilFunc
 | .niface,v=>v=.nilIface
 | .iface t x,v=>∃ y,v=.iface t y/\Rv E w x y
 | .agg cs,v=>∃ xs:Array Value,v=.agg xs/\RvL E w cs xs.toList
 | .tuple cs,v=>∃ xs:Array Value,v=.tuple xs/\RvL E w cs xs.toList
 | .yld id,v=>∃ b,E.β id=some b/\v=.func (.yield b) #[] #[]
 | .top,v=>v.cells=#[v]
def RvL(E:Env)(w:World):List AV->List Value->Prop
 | [],l=>l=[]
 | c::cs,l=>∃ x xs,l=x::xs/\Rv E w c x/\RvL E w cs xs
def V3(E:Env)(w:World)(a:Addr):Nat->List AV->Prop
 | _,[]=>True
 | i,c::cs=>(∃ x,w.cell? (a.add i)=some x/\Rv E w c x)/\V3 E w a (i+1) cs
end
def RvEs(E:Env)(w:World):List (AV × AV)->List MapEntry->Prop
 | [],l=>l=[]
 | (k,v)::es,l=>∃ x xs,l=x::xs/\Rv E w k x.key/\Rv E w v x.val/\RvEs E w es xs
def Je(l:Array MapEntry)(clock:Nat):Prop:=(∀ x∈l.toList,x.born < clock)/\(l.toList.map (·.born)).Nodup
def PinOk:Obj->Prop
 | .deferred _=>True
 | _=>False
def LS.ok(r0 r:Loop):LS->Prop
 | .ready=>r={ r0 with state:=.ready,pending:=none }
 | .busy=>r={ r0 with state:=.busy,pending:=none }
 | .ret=>r={ r0 with state:=.done,pending:=some .ret }
 | .exit id=>r={ r0 with state:=.done,pending:=some (.exit id) }
 | .fin=>True
def Wv(E:Env)(w:World)(b:Nat):AO->Prop
 | .row cs=>(∃ c e f,w.heap[b]?=some (.cells c e f)/\cs.length<=c.size/\(f=(0,0)\/c.size<=f.1/\e≠Uf))/\V3 E w ⟨b,0,none⟩ 0 cs
 | .fro cs=>E.Fz b/\V3 E w ⟨b,0,none⟩ 0 cs
 | .map es=>∃ l clock,w.heap[b]?=some (.map l clock)/\RvEs E w es l.toList/\Je l clock
 | .iter m ks=>∃ bm l clock since,E.β m=some bm/\E.Fz bm/\w.heap[bm]?=some (.map l clock)/\w.heap[b]?=some (.mapIter (some bm) since (ks.map fun i=>(l.getD i default).born).toArray clock)/\since<=clock/\∀ x∈l.toList,x.born < since
 | .fmap es=>E.Fz b/\∃ l clock,w.heap[b]?=some (.map l clock)/\RvEs E w es l.toList/\Je l clock
 | .loop s=>∃ r,w.heap[b]?=some (.loop r)/\s.ok (E.lr b) r
structure Sat(E:Env)(st:St)(w:World):Prop where
 dom:∀ id b,E.β id=some b->id < st.next/\b < w.heap.size
 fz:∀ b,E.Fz b->b < w.heap.size
 obj:∀ id o b,st.get id=some o->E.β id=some b->Wv E w b o
 sep:∀ id id' o o' b,st.get id=some o->st.get id'=some o'->o.live=true->o'.live=true->E.β id=some b->E.β id'=some b->id=id'
 lv:∀ id o b,st.get id=some o->o.live=true->E.β id=some b->¬ E.Fz b
 rs:∀ id,E.Rs id->E.β id=none/\id < st.next
 dz:∀ b o,E.Dz b=some o->w.heap[b]?=some o/\¬ E.Fz b/\PinOk o
 bt:∀ id t,st.bt.get id=some t->∃ b m,E.β id=some b/\w.shape? b=some (t,m)
structure Ext0(E:Env)(w:World)(E':Env)(w':World):Prop where
 β:∀ id b,E.β id=some b->E'.β id=some b
 Fz:∀ b,E.Fz b->E'.Fz b
 mem:∀ b,E.Fz b->w'.heap[b]?=w.heap[b]?
 size:w.heap.size<=w'.heap.size
 shape:∀ b s,w.shape? b=some s->w'.shape? b=some s
 os:w'.os=w.os
 tape:w'.tape=w.tape
 output:w'.output=w.output
 lr:∀ b,b < w.heap.size->E'.lr b=E.lr b
structure Ext(E:Env)(w:World)(E':Env)(w':World):Prop extends Ext0 E w E' w' where
 Rs:∀ id,E.Rs id->E'.Rs id
 Dz:∀ b o,E.Dz b=some o->E'.Dz b=some o
theorem Ext.refl(E:Env)(w:World):Ext E w E w:=⟨⟨fun _ _ h=>h,fun _ h=>h,fun _ _=>rfl,Qw _,fun _ _ h=>h,rfl,rfl,rfl,fun _ _=>rfl⟩,fun _ h=>h,fun _ _ h=>h⟩
theorem Ext0.trans{E E' E'':Env}{w w' w'':World}(h:Ext0 E w E' w')(k:Ext0 E' w' E'' w''):Ext0 E w E'' w'':=
 ⟨fun i b e=>k.β i b (h.β i b e),fun b e=>k.Fz b (h.Fz b e),fun b e=>(k.mem b (h.Fz b e)).trans (h.mem b e),QY h.size k.size,fun b s e=>k.shape b s (h.shape b s e),k.os.trans h.os,k.tape.trans h.tape,k.output.trans h.output,fun b e=>(k.lr b (Qz e h.size)).trans (h.lr b e)⟩
theorem Ext.trans{E E' E'':Env}{w w' w'':World}(h:Ext E w E' w')(k:Ext E' w' E'' w''):Ext E w E'' w'':=⟨h.toExt0.trans k.toExt0,fun i e=>k.Rs i (h.Rs i e),fun i o e=>k.Dz i o (h.Dz i o e)⟩
def JW(E:Env)(st:St)(w:World):Prop:=∀ id t,st.bt.get id=some t->∃ b m,E.β id=some b/\w.shape? b=some (t,m)
theorem JW.mono{E E':Env}{st st':St}{w w':World}(h:JW E st w)(hx:Ext0 E w E' w')(hb:st'.bt=st.bt):JW E' st' w':=fun id t ht=>by
 rw[hb] at ht
 obtain⟨b,m,h1,h2⟩:=h id t ht
 exact⟨b,m,hx.β _ _ h1,hx.shape _ _ h2⟩
theorem cell?_of_heap{w w':World}{a:Addr}(h:w'.heap[a.block]?=w.heap[a.block]?):w'.cell? a=w.cell? a:=by
 unfold World.cell?;rw[h]
theorem Si(a:Addr)(n:Nat):(a.add n).block=a.block:=by unfold Addr.add;split<;>rfl
theorem add_add(a:Addr)(m n:Nat):(a.add m).add n=a.add (m+n):=by
 unfold Addr.add
 by_cases hm:m=0<;>by_cases hn:n=0<;>simp[hm,hn]
 omega
mutual
theorem Rv.mono0{E E':Env}{w w':World}(h:Ext0 E w E' w'):∀(x:AV) (v:Value),Rv E w x v->Rv E' w' x v
 | .undef,_,hv=>hv
 | .bool _,_,hv=>hv
 | .int _ _,_,hv=>hv
 | .str _,_,hv=>hv
 | .nilptr,_,hv=>hv
 | .ptr _ _,_,⟨b,hb,hv⟩=>⟨b,h.β _ _ hb,hv⟩
 | .fptr cs _,_,⟨a,hv,hf,hm⟩=>⟨a,hv,h.Fz _ hf,V3.mono0 h a (h.mem _ hf) cs 0 hm⟩
 | .nilsl,_,hv=>hv
 | .lst _ cs _,_,⟨a,cap,hv,h1,h2,h3,h4⟩=>by
  refine⟨a,cap,hv,h1,h2,fun hc=>h.Fz _ (h3 hc),?_⟩
  cases cs with
  | nil=>exact trivial
  | cons c cs=>exact V3.mono0 h a (h.mem _ (h3 (by simp))) (c::cs) 0 h4
 | .own _ _ _ _ _ _,_,⟨b,c,e,m,hb,hv,h1,h2,h3,h4⟩=>⟨b,c,e,m,h.β _ _ hb,hv,h1,h2,h.shape _ _ h3,h4⟩
 | .nilmap,_,hv=>hv
 | .map _,_,⟨b,hb,hv⟩=>⟨b,h.β _ _ hb,hv⟩
 | .func _ fs cs,_,⟨xs,ys,hv,h1,h2⟩=>⟨xs,ys,hv,RvL.mono0 h fs _ h1,RvL.mono0 h cs _ h2⟩
 | .nilfn,_,hv=>hv
 | .niface,_,hv=>hv
 | .iface _ x,_,⟨y,hv,h1⟩=>⟨y,hv,Rv.mono0 h x y h1⟩
 | .agg cs,_,⟨xs,hv,h1⟩=>⟨xs,hv,RvL.mono0 h cs _ h1⟩
 | .tuple cs,_,⟨xs,hv,h1⟩=>⟨xs,hv,RvL.mono0 h cs _ h1⟩
 | .top,_,hv=>hv
 | .yld _,_,⟨b,hb,hv⟩=>⟨b,h.β _ _ hb,hv⟩
theorem RvL.mono0{E E':Env}{w w':World}(h:Ext0 E w E' w'):∀(l:List AV) (vs:List Value),RvL E w l vs->RvL E' w' l vs
 | [],_,hv=>hv
 | c::cs,_,⟨x,xs,hv,h1,h2⟩=>⟨x,xs,hv,Rv.mono0 h c x h1,RvL.mono0 h cs xs h2⟩
theorem V3.mono0{E E':Env}{w w':World}(h:Ext0 E w E' w')(a:Addr)(hb:w'.heap[a.block]?=w.heap[a.block]?):∀(l:List AV) (i:Nat),V3 E w a i l->V3 E' w' a i l
 | [],_,_=>trivial
 | c::cs,i,⟨⟨x,hc,h1⟩,h2⟩=>⟨⟨x,by rw[cell?_of_heap (w:=w) (by rw[Si];exact hb)];exact hc,Rv.mono0 h c x h1⟩,V3.mono0 h a hb cs (i+1) h2⟩
end
theorem Rv.mono{E E':Env}{w w':World}(h:Ext E w E' w')(x:AV)(v:Value)(hv:Rv E w x v):Rv E' w' x v:=Rv.mono0 h.toExt0 x v hv
theorem RvL.mono{E E':Env}{w w':World}(h:Ext E w E' w')(l:List AV)(vs:List Value)(hv:RvL E w l vs):RvL E' w' l vs:=RvL.mono0 h.toExt0 l vs hv
theorem V3.mono{E E':Env}{w w':World}(h:Ext E w E' w')(a:Addr)(hb:w'.heap[a.block]?=w.heap[a.block]?)(l:List AV)(i:Nat)(hv:V3 E w a i l):V3 E' w' a i l:=V3.mono0 h.toExt0 a hb l i hv
end Go.AM
namespace Go.AM
theorem Rv.cells{E:Env}{w:World}{x:AV}{v:Value}(h:Rv E w x v):RvL E w x.cells v.cells.toList:=by
 cases x with
 | agg cs=>obtain⟨xs,rfl,h⟩:=h;exact h
 | undef=>subst h;exact⟨_,_,rfl,rfl,rfl⟩
 | bool b=>subst h;exact⟨_,_,rfl,rfl,rfl⟩
 | int k n=>subst h;exact⟨_,_,rfl,rfl,rfl⟩
 | str l=>obtain⟨s,rfl,hs⟩:=h;exact⟨_,_,rfl,⟨s,rfl,hs⟩,rfl⟩
 | nilptr=>subst h;exact⟨_,_,rfl,rfl,rfl⟩
 | ptr id off=>have h0:=h;obtain⟨b,hb,rfl⟩:=h;exact⟨_,_,rfl,h0,rfl⟩
 | fptr cs off=>have h0:=h;obtain⟨a,rfl,_⟩:=h;exact⟨_,_,rfl,h0,rfl⟩
 | nilsl=>subst h;exact⟨_,_,rfl,rfl,rfl⟩
 | lst n cs ex=>
  have h0:=h
  obtain⟨a,cap,rfl,_⟩:=h;exact⟨_,_,rfl,h0,rfl⟩
 | own id off n sz cap lo=>have h0:=h;obtain⟨b,c,e,m,hb,rfl,_⟩:=h;exact⟨_,_,rfl,h0,rfl⟩
 | nilmap=>subst h;exact⟨_,_,rfl,rfl,rfl⟩
 | map id=>have h0:=h;obtain⟨b,hb,rfl⟩:=h;exact⟨_,_,rfl,h0,rfl⟩
 | func fn fs cs=>have h0:=h;obtain⟨xs,ys,rfl,_⟩:=h;exact⟨_,_,rfl,h0,rfl⟩
 | nilfn=>subst h;exact⟨_,_,rfl,rfl,rfl⟩
 | niface=>subst h;exact⟨_,_,rfl,rfl,rfl⟩
 | iface t y=>have h0:=h;obtain⟨u,rfl,_⟩:=h;exact⟨_,_,rfl,h0,rfl⟩
 | tuple vs=>have h0:=h;obtain⟨u,rfl,_⟩:=h;exact⟨_,_,rfl,h0,rfl⟩
 | yld id=>have h0:=h;obtain⟨b,hb,rfl⟩:=h;exact⟨_,_,rfl,h0,rfl⟩
 | top=>have h0:v.cells=#[v]:=h;exact⟨v,[],by rw[h0],h,rfl⟩
theorem Rv.oneCell{E:Env}{w:World}{x:AV}{v:Value}(h:Rv E w x v)(ho:x.one=true):v.oneCell'=true:=by
 cases x with
 | agg cs=>simp[AV.one] at ho
 | undef=>simp[AV.one] at ho
 | top=>simp[AV.one] at ho
 | tuple vs=>simp[AV.one] at ho
 | bool b=>subst h;rfl
 | int k n=>subst h;rfl
 | str l=>obtain⟨s,rfl,hs⟩:=h;rfl
 | nilptr=>subst h;rfl
 | ptr id off=>obtain⟨b,hb,rfl⟩:=h;rfl
 | fptr cs off=>obtain⟨a,rfl,_⟩:=h;rfl
 | nilsl=>subst h;rfl
 | lst n cs ex=>obtain⟨a,cap,rfl,_⟩:=h;rfl
 | own id off n sz cap lo=>obtain⟨b,c,e,m,hb,rfl,_⟩:=h;rfl
 | nilmap=>subst h;rfl
 | map id=>obtain⟨b,hb,rfl⟩:=h;rfl
 | func fn fs cs=>obtain⟨xs,ys,rfl,_⟩:=h;rfl
 | nilfn=>subst h;rfl
 | niface=>subst h;rfl
 | iface t y=>obtain⟨u,rfl,_⟩:=h;rfl
 | yld id=>obtain⟨b,hb,rfl⟩:=h;rfl
section
variable {E:Env} {w:World}
theorem RvL.length:∀{l:List AV} {vs:List Value},RvL E w l vs->l.length=vs.length
 | [],_,h=>by subst h;rfl
 | c::cs,_,⟨x,xs,hv,_,h2⟩=>by subst hv;simp[RvL.length h2]
theorem RvL.get:∀{l:List AV} {vs:List Value} (i:Nat) {c:AV},RvL E w l vs->l[i]?=some c->∃ v,vs[i]?=some v/\Rv E w c v
 | [],_,i,_,_,h=>by simp at h
 | c::cs,_,0,_,⟨x,xs,hv,h1,_⟩,h=>by simp at h;subst h;subst hv;exact⟨x,rfl,h1⟩
 | c::cs,_,i+1,_,⟨x,xs,hv,_,h2⟩,h=>by subst hv;simpa using RvL.get i h2 (by simpa using h)
theorem RvL.of_get:∀{l:List AV} {vs:List Value},l.length=vs.length->(∀(i:Nat) (c:AV) (v:Value),l[i]?=some c->vs[i]?=some v->Rv E w c v)->RvL E w l vs
 | [],vs,hl,_=>by cases vs with | nil=>rfl | cons _ _=>simp at hl
 | c::cs,vs,hl,h=>by
  cases vs with
  | nil=>simp at hl
  | cons x xs=>
   refine⟨x,xs,rfl,h 0 c x rfl rfl,RvL.of_get (by simpa using hl) fun i c' v h1 h2=>h (i+1) c' v (by simpa using h1) (by simpa using h2)⟩
theorem RvL.append{l l':List AV}{vs vs':List Value}:RvL E w l vs->RvL E w l' vs'->RvL E w (l++l') (vs++vs'):=by
 induction l generalizing vs with
 | nil=>intro h h';cases h;exact h'
 | cons c cs ih=>rintro ⟨x,xs,rfl,h1,h2⟩ h';exact⟨x,xs++vs',rfl,h1,ih h2 h'⟩
theorem RvL.drop{l:List AV}{vs:List Value}(h:RvL E w l vs)(k:Nat):RvL E w (l.drop k) (vs.drop k):=
 RvL.of_get (by simp[h.length]) fun i c v h1 h2=>by
  obtain⟨v',h3,h4⟩:=h.get (k+i) (c:=c) (by simpa using h1)
  have:vs[k+i]?=some v:=by simpa using h2
  rw[this] at h3;injection h3 with h3;subst h3;exact h4
theorem RvL.take{l:List AV}{vs:List Value}(h:RvL E w l vs)(k:Nat):RvL E w (l.take k) (vs.take k):=
 RvL.of_get (by simp[h.length]) fun i c v h1 h2=>by
  rw[X6] at h1 h2
  split at h1
  ·rename_i hk
   simp only[hk,Xj] at h2
   obtain⟨v',h3,h4⟩:=h.get i h1
   rw[h2] at h3;injection h3 with h3;subst h3;exact h4
  ·simp at h1
theorem RvL.one{l:List AV}{vs:List Value}(h:RvL E w l vs)(ho:l.all AV.one=true):∀ v∈vs,v.oneCell'=true:=by
 intro v hv
 obtain⟨i,hi⟩:=List.mem_iff_getElem?.1 hv
 have hlt:i < l.length:=by rw[h.length];exact(Qt.1 hi).1
 obtain⟨v',h3,h4⟩:=h.get i (Qn hlt)
 rw[hi] at h3;injection h3 with h3;subst h3
 exact h4.oneCell (QB.1 ho _ (Xu hlt))
theorem V3.get:∀{a:Addr} {cs:List AV} {i:Nat} (j:Nat) {c:AV},V3 E w a i cs->cs[j]?=some c->∃ x,w.cell? (a.add (i+j))=some x/\Rv E w c x
 | _,[],_,j,_,_,h=>by simp at h
 | a,c::cs,i,0,_,⟨h1,_⟩,h=>by simp at h;subst h;simpa using h1
 | a,c::cs,i,j+1,_,⟨_,h2⟩,h=>by
  have:=V3.get j h2 (by simpa using h)
  rwa [show i+1+j=i+(j+1) by omega] at this
theorem V3.of_get:∀{a:Addr} {cs:List AV} {i:Nat},(∀ j c,cs[j]?=some c->∃ x,w.cell? (a.add (i+j))=some x/\Rv E w c x)->V3 E w a i cs
 | _,[],_,_=>trivial
 | a,c::cs,i,h=>⟨h 0 c rfl,V3.of_get fun j c' hc=>by
   have:=h (j+1) c' (by simpa using hc)
   rwa [show i+(j+1)=i+1+j by omega] at this⟩
theorem V3.vals:∀{a:Addr} {cs:List AV} {i:Nat},V3 E w a i cs->∃ xs:List Value,RvL E w cs xs/\∀ j v,xs[j]?=some v->w.cell? (a.add (i+j))=some v
 | _,[],_,_=>⟨[],rfl,fun j v h=>by simp at h⟩
 | a,c::cs,i,⟨⟨x,h1,h2⟩,h3⟩=>by
  obtain⟨xs,h4,h5⟩:=V3.vals h3
  refine⟨x::xs,⟨x,xs,rfl,h2,h4⟩,fun j v hj=>?_⟩
  cases j with
  | zero=>simp at hj;subst hj;simpa using h1
  | succ j=>
   have:=h5 j v (by simpa using hj)
   rwa [show i+1+j=i+(j+1) by omega] at this
theorem V3.at{a:Addr}{cs:List AV}(h:V3 E w a 0 cs)(k:Nat):V3 E w (a.add k) 0 (cs.drop k):=
 V3.of_get fun j c hc=>by
  obtain⟨x,h1,h2⟩:=h.get (k+j) (c:=c) (by simpa using hc)
  exact⟨x,by rw[add_add,show k+(0+j)=0+(k+j) by omega];exact h1,h2⟩
theorem V3.take{a:Addr}{cs:List AV}{i:Nat}(h:V3 E w a i cs)(k:Nat):V3 E w a i (cs.take k):=
 V3.of_get fun j c hc=>by
  rw[X6] at hc
  split at hc
  ·exact h.get j hc
  ·simp at hc
theorem V3.append{a:Addr}{cs ds:List AV}(h:V3 E w a 0 cs)(h':V3 E w a cs.length ds):V3 E w a 0 (cs++ds):=
 V3.of_get fun j c hc=>by
  by_cases hj:j < cs.length
  ·rw[Xk hj] at hc;exact h.get j hc
  ·rw[Xg (by omega)] at hc
   obtain⟨x,h1,h2⟩:=h'.get _ hc
   exact⟨x,by rw[show 0+j=cs.length+(j - cs.length) by omega];exact h1,h2⟩
theorem V3.new{cs:List AV}{vs:Array Value}{b:Nat}{e:TypeId}{fr:Nat × Nat}(h:RvL E w cs vs.toList)(hb:w.heap[b]?=some (.cells vs e fr)):V3 E w ⟨b,0,none⟩ 0 cs:=
 V3.of_get fun j c hc=>by
  obtain⟨v,h1,h2⟩:=h.get j hc
  refine⟨v,?_,h2⟩
  have:((⟨b,0,none⟩:Addr).add (0+j))=⟨b,j,none⟩:=by
   unfold Addr.add;split
   ·rename_i h0;simp at h0;simp[h0]
   ·simp
  rw[this,cell_of_row w b j vs e fr hb]
  simpa using h1
end
theorem YA{w w':World}{b:Nat}(h:w'.heap[b]?=w.heap[b]?):w'.shape? b=w.shape? b:=by unfold World.shape?;rw[h]
theorem Ww(w:World)(o:Obj)(k:Nat)(h:k < w.heap.size):(w.alloc o).heap[k]?=w.heap[k]?:=heap_alloc_old w o k h
def Env.link(E:Env)(id b:Nat):Env:={ E with β:=fun i=>if i=id then some b else E.β i }
def Env.fzb(E:Env)(b:Nat):Env:={ E with Fz:=fun k=>k=b\/E.Fz k }
theorem Ext.alloc{E:Env}{w:World}(o:Obj){E':Env}(hβ:∀ id b,E.β id=some b->E'.β id=some b)(hF:∀ b,E.Fz b->E'.Fz b)(hR:∀ i,E.Rs i->E'.Rs i)(hL:∀ b,b < w.heap.size->E'.lr b=E.lr b)(hDz:∀ b o,E.Dz b=some o->E'.Dz b=some o)(hfz:∀ b,E.Fz b->b < w.heap.size):Ext E w E' (w.alloc o):={
 β:=hβ
 Fz:=hF
 mem b hb:=Ww w o b (hfz b hb)
 size:=by simp
 shape b s hs:=by
  have:b < w.heap.size:=by
   unfold World.shape? at hs
   cases hh:w.heap[b]? with
   | none=>rw[hh] at hs;simp at hs
   | some x=>exact(Qv.1 hh).1
  rw[YA (Ww w o b this)];exact hs
 os:=rfl
 tape:=rfl
 output:=rfl
 lr:=hL
 Rs:=hR
 Dz:=hDz}
theorem RvEs.mono {E E':Env} {w w':World} (h:Ext0 E w E' w'):∀(es:List (AV × AV)) (l:List MapEntry),RvEs E w es l->RvEs E' w' es l
  | [],_,h1=>h1
  | (_,_)::es,_,⟨x,xs,h1,h2,h3,h4⟩=>⟨x,xs,h1,Rv.mono0 h _ _ h2,Rv.mono0 h _ _ h3,RvEs.mono h es xs h4⟩
theorem Wv.mono0{E E':Env}{w w':World}(h:Ext0 E w E' w'){b:Nat}(hb:w'.heap[b]?=w.heap[b]?):∀{o:AO},Wv E w b o->Wv E' w' b o
 | .row _,⟨⟨c,e,f,h1,h2⟩,h3⟩=>⟨⟨c,e,f,by rw[hb];exact h1,h2⟩,V3.mono0 h _ hb _ _ h3⟩
 | .fro _,⟨h1,h2⟩=>⟨h.Fz _ h1,V3.mono0 h _ hb _ _ h2⟩
 | .map es,⟨l,c,h1,h2,h3⟩=>⟨l,c,by rw[hb];exact h1,RvEs.mono h _ _ h2,h3⟩
 | .iter m ks,⟨bm,l,clock,since,h1,h2,h3,h4,h5⟩=>⟨bm,l,clock,since,h.β _ _ h1,h.Fz _ h2,by rw[h.mem _ h2];exact h3,by rw[hb];exact h4,h5⟩
 | .fmap es,⟨h0,l,c,h1,h2,h3⟩=>⟨h.Fz _ h0,l,c,by rw[hb];exact h1,RvEs.mono h _ _ h2,h3⟩
 | .loop s,⟨r,h1,h2⟩=>⟨r,by rw[hb];exact h1,by rw[h.lr b (Qv.1 h1).1];exact h2⟩
theorem Wv.mono{E E':Env}{w w':World}(h:Ext E w E' w'){b:Nat}(hb:w'.heap[b]?=w.heap[b]?){o:AO}(hv:Wv E w b o):Wv E' w' b o:=Wv.mono0 h.toExt0 hb hv
theorem Sat.setRs{E:Env}{st:St}{w:World}(h:Sat E st w)(R:Nat->Prop)(hR:∀ id,R id->E.β id=none/\id < st.next):Sat { E with Rs:=R } st w:=
 have hx:Ext0 E w { E with Rs:=R } w:=⟨fun _ _ h=>h,fun _ h=>h,fun _ _=>rfl,Qw _,fun _ _ h=>h,rfl,rfl,rfl,fun _ _=>rfl⟩
 ⟨h.dom,h.fz,fun id o b h1 h2=>Wv.mono0 hx rfl (h.obj id o b h1 h2),h.sep,h.lv,hR,h.dz,JW.mono h.bt hx rfl⟩
theorem Sat.drew{E:Env}{st:St}{w:World}(h:Sat E st w):Sat E st w.drew/\Ext E w E w.drew:=by
 have hx:Ext E w E w.drew:=⟨⟨fun _ _ h=>h,fun _ h=>h,fun _ _=>rfl,Qw _,fun _ _ h=>h,rfl,rfl,rfl,fun _ _=>rfl⟩,fun _ h=>h,fun _ _ h=>h⟩
 exact⟨⟨h.dom,h.fz,fun id o b h1 h2=>Wv.mono hx rfl (h.obj id o b h1 h2),h.sep,h.lv,h.rs,h.dz,JW.mono h.bt hx.toExt0 rfl⟩,hx⟩
theorem Sat.allocFz{E:Env}{st:St}{w:World}(h:Sat E st w)(o:Obj):Sat (E.fzb w.heap.size) st (w.alloc o)/\Ext E w (E.fzb w.heap.size) (w.alloc o):=by
 have hx:Ext E w (E.fzb w.heap.size) (w.alloc o):=Ext.alloc o (fun _ _ h=>h) (fun _ h=>Or.inr h) (fun _ h=>h) (fun _ _=>rfl) (fun _ _ h=>h) h.fz
 refine⟨⟨fun id b hb=>?_,fun b hb=>?_,fun id o' b h1 h2=>?_,h.sep,fun id o' b h1 h2 h3 hf=>?_,h.rs,fun b q hb=>?_,JW.mono h.bt hx.toExt0 rfl⟩,hx⟩
 ·have:=h.dom id b hb;simp;omega
 ·rcases hb with rfl | hb
  ·simp
  ·have:=h.fz b hb;simp;omega
 ·have:=h.dom id b h2
  exact Wv.mono hx (Ww w o b this.2) (h.obj id o' b h1 h2)
 ·have:=h.dom id b h3
  rcases hf with rfl | hf
  ·omega
  ·exact h.lv id o' b h1 h2 h3 hf
 ·obtain⟨h1,h2,h3⟩:=h.dz b q hb
  have hlt:=(Qv.1 h1).1
  exact⟨by rw[Ww w o b hlt];exact h1,fun hf=>hf.elim (fun e=>by omega) h2,h3⟩
theorem Sat.link'{E:Env}{st:St}{w:World}(h:Sat E st w)(o:Obj)(id:Nat)(ao:AO)(hid:id < st.next)(hβ:E.β id=none)(hr:¬ E.Rs id)(hg:st.get id=some ao)
  (hobj:Ext E w (E.link id w.heap.size) (w.alloc o)->Wv (E.link id w.heap.size) (w.alloc o) w.heap.size ao):
  Sat (E.link id w.heap.size) st (w.alloc o)/\Ext E w (E.link id w.heap.size) (w.alloc o):=by
 have hx:Ext E w (E.link id w.heap.size) (w.alloc o):=Ext.alloc o (fun i b hb=>by
  show (if i=id then _ else _)=_
  rw[Qe (by rintro rfl;rw[hβ] at hb;simp at hb)];exact hb) (fun _ h=>h) (fun _ h=>h) (fun _ _=>rfl) (fun _ _ h=>h) h.fz
 have hlink:∀ i b,(E.link id w.heap.size).β i=some b->(i=id/\b=w.heap.size)\/(i≠id/\E.β i=some b):=fun i b hb=>by
  have:(if i=id then some w.heap.size else E.β i)=some b:=hb
  by_cases hi:i=id
  ·rw[Qm hi] at this;injection this with this;exact .inl ⟨hi,this.symm⟩
  ·rw[Qe hi] at this;exact .inr ⟨hi,this⟩
 refine⟨⟨fun i b hb=>?_,fun b hb=>?_,fun i o' b h1 h2=>?_,fun i i' o1 o2 b h1 h2 l1 l2 b1 b2=>?_,fun i o' b h1 h2 h3=>?_,fun i hi=>⟨by
  show (if i=id then _ else _)=_
  rw[Qe (by rintro rfl;exact hr hi)];exact(h.rs i hi).1,(h.rs i hi).2⟩,fun b q hb=>by
  obtain⟨h1,h2⟩:=h.dz b q hb
  exact⟨by rw[Ww w o b (Qv.1 h1).1];exact h1,h2⟩,JW.mono h.bt hx.toExt0 rfl⟩,hx⟩
 ·rcases hlink i b hb with⟨rfl,rfl⟩|⟨_,hb⟩
  ·exact⟨hid,by simp⟩
  ·have:=h.dom i b hb;exact⟨this.1,by simp;omega⟩
 ·have:=h.fz b hb;simp;omega
 ·rcases hlink i b h2 with⟨rfl,rfl⟩|⟨_,h2⟩
  ·rw[hg] at h1;injection h1 with h1;subst h1;exact hobj hx
  ·exact Wv.mono hx (Ww w o b (h.dom i b h2).2) (h.obj i o' b h1 h2)
 ·rcases hlink i b b1 with⟨e1,e2⟩|⟨_,c1⟩<;>rcases hlink i' _ b2 with⟨e3,e4⟩|⟨_,c2⟩
  ·rw[e1,e3]
  ·have:=(h.dom _ _ c2).2;omega
  ·have:=(h.dom _ _ c1).2;omega
  ·exact h.sep i i' o1 o2 b h1 h2 l1 l2 c1 c2
 ·rcases hlink i b h3 with⟨rfl,rfl⟩|⟨_,h3⟩
  ·intro hf;have:=h.fz _ hf;omega
  ·exact h.lv i o' b h1 h2 h3
theorem Sat.link{E:Env}{st:St}{w:World}(h:Sat E st w)(o:Obj)(id:Nat)(ao:AO)(hid:id < st.next)(hβ:E.β id=none)(hr:¬ E.Rs id)(hg:st.get id=some ao)
  (hobj:∀ E':Env,Ext E w E' (w.alloc o)->Wv E' (w.alloc o) w.heap.size ao):
  Sat (E.link id w.heap.size) st (w.alloc o)/\Ext E w (E.link id w.heap.size) (w.alloc o):=h.link' o id ao hid hβ hr hg (hobj _)
theorem Sat.ahead{E:Env}{st:St}{w:World}(h:Sat E st w)(ao:AO):Sat E (st.new ao) w:=by
 have hβ:E.β st.next=none:=by
  cases hb:E.β st.next with
  | none=>rfl
  | some b=>have:=(h.dom _ _ hb).1;omega
 exact⟨fun i b hb=>⟨by have:=(h.dom i b hb).1;simp;omega,(h.dom i b hb).2⟩,h.fz,fun i o' b h1 h2=>by
   rw[St.get_new] at h1
   by_cases hi:i=st.next
   ·subst hi;rw[hβ] at h2;simp at h2
   ·rw[Qe hi] at h1;exact h.obj i o' b h1 h2,
  fun i i' o1 o2 b h1 h2 l1 l2 b1 b2=>by
   rw[St.get_new] at h1 h2
   by_cases hi:i=st.next
   ·subst hi;rw[hβ] at b1;simp at b1
   ·by_cases hi':i'=st.next
    ·subst hi';rw[hβ] at b2;simp at b2
    ·rw[Qe hi] at h1;rw[Qe hi'] at h2;exact h.sep i i' o1 o2 b h1 h2 l1 l2 b1 b2,
  fun i o' b h1 h2 h3=>by
   rw[St.get_new] at h1
   by_cases hi:i=st.next
   ·subst hi;rw[hβ] at h3;simp at h3
   ·rw[Qe hi] at h1;exact h.lv i o' b h1 h2 h3,
  fun i hi=>⟨(h.rs i hi).1,by have:=(h.rs i hi).2;simp;omega⟩,h.dz,h.bt⟩
theorem Sat.alloc'{E:Env}{st:St}{w:World}(h:Sat E st w)(o:Obj)(ao:AO)
  (hobj:Ext E w (E.link st.next w.heap.size) (w.alloc o)->Wv (E.link st.next w.heap.size) (w.alloc o) w.heap.size ao):
  Sat (E.link st.next w.heap.size) (st.new ao) (w.alloc o)/\Ext E w (E.link st.next w.heap.size) (w.alloc o):=by
 have hβ:E.β st.next=none:=by
  cases hb:E.β st.next with
  | none=>rfl
  | some b=>have:=(h.dom _ _ hb).1;omega
 exact(h.ahead ao).link' o st.next ao (by simp) hβ (fun hr=>by have:=(h.rs _ hr).2;omega) (by simp) hobj
theorem Sat.alloc{E:Env}{st:St}{w:World}(h:Sat E st w)(o:Obj)(ao:AO)
  (hobj:∀ E':Env,Ext E w E' (w.alloc o)->Wv E' (w.alloc o) w.heap.size ao):
  Sat (E.link st.next w.heap.size) (st.new ao) (w.alloc o)/\Ext E w (E.link st.next w.heap.size) (w.alloc o):=h.alloc' o ao (hobj _)
theorem Sat.write{E:Env}{st:St}{w w':World}(h:Sat E st w)(id b:Nat)(o o':AO)(hg:st.get id=some o)(hl:o.live=true)(hb:E.β id=some b)
  (hoth:∀ k,k≠b->w'.heap[k]?=w.heap[k]?) (hsize:w'.heap.size=w.heap.size) (hshape:∀ s,w.shape? b=some s->w'.shape? b=some s)
  (hos:w'.os=w.os) (htape:w'.tape=w.tape) (hout:w'.output=w.output) (_hl':o'.live=true) (hobj:Ext E w E w'->Wv E w' b o'):
  Sat E (st.put id o') w'/\Ext E w E w':=by
 have hx:Ext E w E w':=⟨⟨fun _ _ h=>h,fun _ h=>h,fun k hk=>hoth k (by rintro rfl;exact h.lv id o _ hg hl hb hk),by omega,fun k s hs=>by
  by_cases hk:k=b
  ·subst hk;exact hshape s hs
  ·rw[YA (hoth k hk)];exact hs,hos,htape,hout,fun _ _=>rfl⟩,fun _ h=>h,fun _ _ h=>h⟩
 refine⟨⟨fun i c hc=>?_,fun c hc=>?_,fun i o1 c h1 h2=>?_,fun i i' o1 o2 c h1 h2 l1 l2 b1 b2=>?_,fun i o1 c h1 h2 h3=>?_,h.rs,fun c q hc=>?_,JW.mono h.bt hx.toExt0 rfl⟩,hx⟩
 ·have:=h.dom i c hc;rw[hsize];exact this
 ·have:=h.fz c hc;omega
 ·rw[St.get_put] at h1
  by_cases hi:i=id
  ·subst hi;rw[Qm rfl] at h1;injection h1 with h1;subst h1;rw[hb] at h2;injection h2 with h2;subst h2;exact hobj hx
  ·rw[Qe hi] at h1
   have h3:=h.obj i o1 c h1 h2
   cases o1 with
   | fro cs=>exact Wv.mono hx (hx.mem _ h3.1) h3
   | fmap es=>exact Wv.mono hx (hx.mem _ h3.1) h3
   | row cs=>exact Wv.mono hx (hoth c (by rintro rfl;exact hi (h.sep i id _ _ _ h1 hg rfl hl h2 hb))) h3
   | map es=>exact Wv.mono hx (hoth c (by rintro rfl;exact hi (h.sep i id _ _ _ h1 hg rfl hl h2 hb))) h3
   | loop s=>exact Wv.mono hx (hoth c (by rintro rfl;exact hi (h.sep i id _ _ _ h1 hg rfl hl h2 hb))) h3
   | iter m ks=>exact Wv.mono hx (hoth c (by rintro rfl;exact hi (h.sep i id _ _ _ h1 hg rfl hl h2 hb))) h3
 ·rw[St.get_put] at h1 h2
  by_cases hi:i=id
  ·subst hi
   by_cases hi':i'=i
   ·exact hi'.symm
   ·rw[Qe hi'] at h2;exact h.sep i i' o o2 c hg h2 hl l2 b1 b2
  ·rw[Qe hi] at h1
   by_cases hi':i'=id
   ·subst hi';exact h.sep i i' o1 o c h1 hg l1 hl b1 b2
   ·rw[Qe hi'] at h2;exact h.sep i i' o1 o2 c h1 h2 l1 l2 b1 b2
 ·rw[St.get_put] at h1
  by_cases hi:i=id
  ·subst hi;exact h.lv i o c hg hl h3
  ·rw[Qe hi] at h1;exact h.lv i o1 c h1 h2 h3
 ·obtain⟨h1,h2⟩:=h.dz c q hc
  refine⟨?_,h2⟩
  rw[hoth c]
  ·exact h1
  ·rintro rfl
   have h3:=h.obj id o c hg hb
   cases o with
   | fro cs=>cases hl
   | fmap cs=>cases hl
   | row cs=>obtain⟨⟨_,_,_,h4,_⟩,_⟩:=h3;rw[h1] at h4;injection h4 with h4;subst h4;exact h2.2
   | map es=>obtain⟨_,_,h4,_⟩:=h3;rw[h1] at h4;injection h4 with h4;subst h4;exact h2.2
   | loop s=>obtain⟨_,h4,_⟩:=h3;rw[h1] at h4;injection h4 with h4;subst h4;exact h2.2
   | iter m ks=>obtain⟨_,_,_,_,_,_,_,h4,_⟩:=h3;rw[h1] at h4;injection h4 with h4;subst h4;exact h2.2
theorem Sat.del{E:Env}{st:St}{w:World}(h:Sat E st w)(id:Nat):Sat E (st.del id) w:=by
 have key:∀ i o,(st.del id).get i=some o->st.get i=some o:=fun i o h1=>by
  rw[St.get_del] at h1
  split at h1
  ·simp at h1
  ·exact h1
 exact⟨h.dom,h.fz,fun i o b h1 h2=>h.obj i o b (key _ _ h1) h2,fun i i' o1 o2 b h1 h2=>h.sep i i' o1 o2 b (key _ _ h1) (key _ _ h2),fun i o b h1=>h.lv i o b (key _ _ h1),h.rs,h.dz,h.bt⟩
theorem Sat.tag{E:Env}{st:St}{w:World}(h:Sat E st w){id b t m:Nat}(hb:E.β id=some b)(hs:w.shape? b=some (t,m)):Sat E (st.tag id t) w:=
 ⟨h.dom,h.fz,h.obj,h.sep,h.lv,h.rs,h.dz,fun i u hu=>by
  have hu:(st.bt.set id (some t)).get i=some u:=hu
  rw[Tr.get_set] at hu
  by_cases hi:i=id
  ·rw[Qm hi] at hu;injection hu with hu;subst hu;subst hi;exact⟨b,m,hb,hs⟩
  ·rw[Qe hi] at hu;exact h.bt i u hu⟩
theorem Wb(b off i:Nat):((⟨b,off,none⟩:Addr).add i)=⟨b,off+i,none⟩:=by
 unfold Addr.add;split
 ·rename_i h;simp[h]
 ·rfl
theorem TZ(w:World)(g j:Nat)(cs:Array Value)(t:TypeId)(f:Nat × Nat)(hg:w.heap[g]?=some (.cells cs t f))(hf:f=(0,0)\/cs.size<=f.1)(hj:j < cs.size):w.frozen? ⟨g,j,none⟩=false:=by
 obtain⟨lo,hi⟩:=f
 simp only[World.frozen?,hg]
 rcases hf with hf | hf
 ·injection hf with h1 h2;subst h1;subst h2;simp
 ·simp only at hf
  have:¬(lo<=j):=by omega
  simp[this]
theorem Yr(w:World)(g i:Nat)(cs:Array Value)(t:TypeId)(f:Nat × Nat)(v:Value)(hg:w.heap[g]?=some (.cells cs t f)):
  (w.setCell ⟨g,i,none⟩ v).heap[g]?=some (.cells (cs.setIfInBounds i v) t f):=by
 simp only[World.setCell,Zr,Xj,hg]
 rfl
theorem JO{P:Program}(b off:Nat)(e:TypeId)(f:Nat × Nat):∀(vs:List Value) (i:Nat) (cur:Array Value) (w:World),
  w.heap[b]?=some (.cells cur e f)->(f=(0,0)\/cur.size<=f.1)->off+i+vs.length<=cur.size->(∀ v∈vs,v.oneCell'=true) ->
  ∃ w' cur',(storeCells ⟨b,off,none⟩ vs i).run P w=.ok () w'/\w'.heap[b]?=some (.cells cur' e f)/\cur'.size=cur.size ∧
   (∀ j,cur'[j]?=if off+i<=j/\j < off+i+vs.length then vs[j - (off+i)]? else cur[j]?)/\(∀ k,k≠b->w'.heap[k]?=w.heap[k]?) ∧
   w'.heap.size=w.heap.size/\w'.os=w.os/\w'.tape=w.tape/\w'.output=w.output
 | [],i,cur,w,hg,_,_,_=>⟨w,cur,by simp[storeCells],hg,rfl,fun j=>by simp;omega,fun _ _=>rfl,rfl,rfl,rfl,rfl⟩
 | v::vs,i,cur,w,hg,hfz,hlen,hone=>by
  simp only[QC] at hlen
  have hc:w.cell? ⟨b,off+i,none⟩=some cur[off+i]:=by
   rw[cell_of_row w b _ cur e f hg];exact QM (by omega)
  have hf:w.frozen? ⟨b,off+i,none⟩=false:=TZ w b _ cur e f hg hfz (by omega)
  have h1:(w.setCell ⟨b,off+i,none⟩ v).heap[b]?=some (.cells (cur.setIfInBounds (off+i) v) e f):=Yr w b (off+i) cur e f v hg
  obtain⟨w',cur',r1,r2,r3,r4,r5,r6,r7,r8,r9⟩:=JO (P:=P) b off e f vs (i+1) _ _ h1 (by simpa using hfz) (by simp;omega) (fun u hu=>hone u (by simp[hu]))
  refine⟨w',cur',?_,r2,by simpa using r3,fun j=>?_,fun k hk=>?_,by simpa using r6,by rw[r7];rfl,by rw[r8];rfl,by rw[r9];rfl⟩
  ·simp only[storeCells,Sem.run_bind,Wb,run_store P w _ v _ (hone v (by simp)),hc,hf,Q1,Xz,Result.andThen]
   exact r1
  ·rw[r4 j]
   by_cases hj:j=off+i
   ·subst hj
    rw[Qe (by omega),Qm (by simp)]
    simp[(show off+i < cur.size by omega)]
   ·by_cases hj2:off+(i+1)<=j/\j < off+(i+1)+vs.length
    ·rw[Qm hj2,Qm (by simp only[QC];omega)]
     rw[show j - (off+i)=(j - (off+(i+1)))+1 by omega];simp
    ·rw[Qe hj2,Qe (by simp only[QC];omega)]
     rw[XI,Qe (by omega)]
  ·rw[r5 k hk];exact heap_setCell_other w _ k v hk
end Go.AM
namespace Go.AM
theorem wrap_i64{n:Int}(h1:-9223372036854775808<=n)(h2:n<=9223372036854775807):IntKind.i64.wrap n=n:=by
 rw[IntKind.wrap_i64];omega
theorem wrap_in64(n:Int)(h:in64 n=true):IntKind.i64.wrap n=n:=by
 cases n with
 | ofNat m=>have h':=Qk h;exact wrap_i64 (Int.le_trans (by decide) (Int.natCast_nonneg m)) (Int.ofNat_le.2 h')
 | negSucc m=>have h':=Qk h;exact wrap_i64 (by omega) (Int.le_trans (Int.le_of_lt (Int.negSucc_lt_zero m)) (by decide))
theorem cond_same{α:Type}(b:Bool)(x y:α)(h:b=true->x=y):(bif b then x else y)=y:=by
 cases b
 ·rfl
 ·exact h rfl
theorem wr_eq(k:IntKind)(n:Int):wr k n=k.wrap n:=by
 cases k with
 | i64=>exact cond_same _ _ _ fun h=>(wrap_in64 n h).symm
 | _=>rfl
section
variable {E:Env} {st:St} {w:World} {P:Program}
theorem ofCells_sound{agg:Bool}{n:Nat}{l:List AV}{vs:List Value}{r:AV}(h:RvL E w l vs)(hr:Ja agg n l=some r):
  (agg=true->vs.length=n/\Rv E w r (.agg vs.toArray))/\(agg=false->∃ v,vs=[v]/\Rv E w r v):=by
 unfold Ja at hr
 cases agg with
 | true=>
  simp only[Qi] at hr
  cases hn:l.length.beq n
  ·simp[hn] at hr
  ·simp[hn] at hr;subst hr
   have:=Qj hn
   exact⟨fun _=>⟨by rw[<-h.length];exact this,vs.toArray,rfl,by simpa using h⟩,by simp⟩
 | false=>
  simp only[Qq] at hr
  refine⟨by simp,fun _=>?_⟩
  cases l with
  | nil=>simp at hr
  | cons c cs=>
   cases cs with
   | nil=>
    simp at hr;subst hr
    obtain⟨x,xs,rfl,h1,h2⟩:=h
    cases h2
    exact⟨x,rfl,h1⟩
   | cons d ds=>simp at hr
theorem cellsAt_sound{x:AV}{v:Value}{cs:List AV}(hs:Sat E st w)(h:Rv E w x v)(hc:Wy st x=some cs):
  ∃ a,v=.pointer (some a)/\V3 E w a 0 cs:=by
 cases x with
 | fptr ds off=>
  obtain⟨a,rfl,_,hm⟩:=h
  simp[Wy] at hc;subst hc
  exact⟨_,rfl,hm.at off⟩
 | ptr id off=>
  obtain⟨b,hb,rfl⟩:=h
  have e:(⟨b,off,none⟩:Addr)=(⟨b,0,none⟩:Addr).add off:=by rw[Wb];simp
  simp only[Wy] at hc
  cases ho:st.get id with
  | none=>simp[ho] at hc
  | some o=>
   have hobj:=hs.obj id o b ho hb
   cases o with
   | loop s=>simp[ho] at hc
   | row ds=>simp[ho] at hc;subst hc;exact⟨_,rfl,e ▸ hobj.2.at off⟩
   | fro ds=>simp[ho] at hc;subst hc;exact⟨_,rfl,e ▸ hobj.2.at off⟩
   | map es=>simp[ho] at hc
   | fmap es=>simp[ho] at hc
   | iter m ks=>simp[ho] at hc
 | _=>simp[Wy] at hc
theorem Sf{t:TypeId}{d:TypeDesc}(hd:P.underlying t=some d):(isAgg t).run P w=.ok (Uh d) w:=by
 simp only[isAgg,Sem.run_bind,underlying,run_program,Result.andThen,hd]
 cases d<;>rfl
theorem VW{t:TypeId}{i:TypeInfo}(hi:P.info? t=some i):(sizeOf t).run P w=.ok i.size w:=by
 simp[sizeOf,typeInfo,hi]
theorem loadA_sound{x:AV}{v:Value}{r:AV}{t:TypeId}{d:TypeDesc}{i:TypeInfo}{n:Nat}(hd:P.underlying t=some d)(hi:P.info? t=some i)(hn:i.size=n)
  (hs:Sat E st w) (h:Rv E w x v) (hr:Vf (Uh d) n st x=some r):∃ u,(Instr.loadAt t v).run P w=.ok u w/\Rv E w r u:=by
 unfold Vf at hr
 cases hc:Wy st x with
 | none=>simp[hc] at hr
 | some cs=>
  simp[hc] at hr
  obtain⟨a,rfl,hm⟩:=cellsAt_sound hs h hc
  obtain⟨vs,hv,hcell⟩:=(hm.take n).vals
  obtain⟨k1,k2⟩:=ofCells_sound hv hr
  cases hag:Uh d with
  | true=>
   obtain⟨e1,e2⟩:=k1 hag
   refine⟨_,?_,e2⟩
   have:=run_loadCells_list (P:=P) w a vs (fun j v hj=>by have:=hcell j v hj;simpa using this)
   rw[e1] at this
   simp[Instr.loadAt,Instr.sureAddr,loadVar,Sf hd,hag,VW hi,hn,this]
  | false=>
   obtain⟨v,rfl,e2⟩:=k2 hag
   refine⟨v,?_,e2⟩
   have hc0:w.cell? a=some v:=by have:=hcell 0 v rfl;simpa [Addr.add] using this
   simp[Instr.loadAt,Instr.sureAddr,loadVar,Sf hd,hag,hc0]
theorem setCells_get(cs xs:List AV)(off j:Nat)(h:off<=cs.length):
  (setCells cs off xs)[j]?=if off<=j/\j < off+xs.length then xs[j - off]? else cs[j]?:=by
 unfold setCells
 have hl:(cs.take off).length=off:=by simp;omega
 by_cases h1:j < off
 ·rw[Xk (by omega),Qe (by omega),X6,Qm h1]
 ·rw[Xg (by omega),hl]
  by_cases h2:j < off+xs.length
  ·rw[Xk (by omega),Qm (by omega)]
  ·rw[Xg (by omega),Qe (by omega),XV]
   congr 1;omega
theorem TS(cs xs:List AV)(off:Nat)(h:off+xs.length<=cs.length):(setCells cs off xs).length=cs.length:=by
 simp[setCells];omega
theorem setCells_length2(cs xs:List AV)(off:Nat)(h:off<=cs.length):(setCells cs off xs).length=max cs.length (off+xs.length):=by
 simp[setCells];omega
theorem write_row2{id b off:Nat}{cs xs:List AV}{vs:List Value}(hs:Sat E st w)(hg:st.get id=some (.row cs))(hb:E.β id=some b)(hx:RvL E w xs vs)
  (hoff:off<=cs.length) (hlen:off+xs.length<=cs.length\/∃ e m,w.shape? b=some (e,m)/\off+xs.length<=m) (hone:∀ v∈vs,v.oneCell'=true):
  ∃ w',(storeCells ⟨b,off,none⟩ vs).run P w=.ok () w'/\Sat E (st.put id (.row (setCells cs off xs))) w'/\Ext E w E w':=by
 obtain⟨⟨c,e,f,hbk,hcs,hfz⟩,hm⟩:=hs.obj id _ b hg hb
 have hl:=hx.length
 have hbig:off+xs.length<=c.size:=by
  rcases hlen with h|⟨e',m,h1,h2⟩
  ·omega
  ·unfold World.shape? at h1;rw[hbk] at h1
   simp only[Qa,Q2] at h1
   omega
 obtain⟨w',cur',r1,r2,r3,r4,r5,r6,r7,r8,r9⟩:=JO (P:=P) b off e f vs 0 c w hbk (hfz.imp_right And.left) (by omega) hone
 have hsh:∀ s,w.shape? b=some s->w'.shape? b=some s:=fun s h=>by
  unfold World.shape? at h ⊢;rw[hbk] at h;rw[r2];simpa [r3] using h
 refine⟨w',r1,Sat.write hs id b (.row cs) _ hg rfl hb r5 r6 hsh r7 r8 r9 rfl fun hext=>⟨⟨cur',e,f,r2,?_,by rw[r3];exact hfz⟩,?_⟩⟩
 ·rw[setCells_length2 _ _ _ hoff,r3];omega
 ·refine V3.of_get fun j d hd=>?_
  have hcell:w'.cell? ((⟨b,0,none⟩:Addr).add (0+j))=cur'[j]?:=by
   rw[Wb];simpa using cell_of_row w' b j cur' e f r2
  rw[hcell,r4 j]
  rw[setCells_get _ _ _ _ hoff] at hd
  by_cases hj:off<=j/\j < off+xs.length
  ·rw[Qm hj] at hd
   rw[Qm (by omega)]
   obtain⟨v,h1,h2⟩:=hx.get _ hd
   exact⟨v,by simpa using h1,Rv.mono hext _ _ h2⟩
  ·rw[Qe hj] at hd
   rw[Qe (by omega)]
   obtain⟨v,h1,h2⟩:=hm.get j hd
   refine⟨v,?_,Rv.mono hext _ _ h2⟩
   rw[Wb] at h1
   have:=cell_of_row w b j c e f hbk
   simp only[Q7] at h1
   rw[this] at h1;exact h1
theorem write_row{id b off:Nat}{cs xs:List AV}{vs:List Value}(hs:Sat E st w)(hg:st.get id=some (.row cs))(hb:E.β id=some b)(hx:RvL E w xs vs)
  (hlen:off+xs.length<=cs.length) (hone:∀ v∈vs,v.oneCell'=true):
  ∃ w',(storeCells ⟨b,off,none⟩ vs).run P w=.ok () w'/\Sat E (st.put id (.row (setCells cs off xs))) w'/\Ext E w E w':=by
 obtain⟨⟨c,e,f,hbk,hcs,hfz⟩,hm⟩:=hs.obj id _ b hg hb
 have hl:=hx.length
 obtain⟨w',cur',r1,r2,r3,r4,r5,r6,r7,r8,r9⟩:=JO (P:=P) b off e f vs 0 c w hbk (hfz.imp_right And.left) (by omega) hone
 have hsh:∀ s,w.shape? b=some s->w'.shape? b=some s:=fun s h=>by
  unfold World.shape? at h ⊢;rw[hbk] at h;rw[r2];simpa [r3] using h
 refine⟨w',r1,Sat.write hs id b (.row cs) _ hg rfl hb r5 r6 hsh r7 r8 r9 rfl fun hext=>⟨⟨cur',e,f,r2,?_,by rw[r3];exact hfz⟩,?_⟩⟩
 ·rw[TS _ _ _ hlen,r3];exact hcs
 ·refine V3.of_get fun j d hd=>?_
  have hcell:w'.cell? ((⟨b,0,none⟩:Addr).add (0+j))=cur'[j]?:=by
   rw[Wb];simpa using cell_of_row w' b j cur' e f r2
  rw[hcell,r4 j]
  rw[setCells_get _ _ _ _ (by omega)] at hd
  by_cases hj:off<=j/\j < off+xs.length
  ·rw[Qm hj] at hd
   rw[Qm (by omega)]
   obtain⟨v,h1,h2⟩:=hx.get _ hd
   exact⟨v,by simpa using h1,Rv.mono hext _ _ h2⟩
  ·rw[Qe hj] at hd
   rw[Qe (by omega)]
   obtain⟨v,h1,h2⟩:=hm.get j hd
   refine⟨v,?_,Rv.mono hext _ _ h2⟩
   rw[Wb] at h1
   have:=cell_of_row w b j c e f hbk
   simp only[Q7] at h1
   rw[this] at h1;exact h1
theorem storeA_sound{a x:AV}{va vx:Value}{st':St}{t:TypeId}{i:TypeInfo}{n:Nat}(hi:P.info? t=some i)(hn:i.size=n)
  (hs:Sat E st w) (ha:Rv E w a va) (hx:Rv E w x vx) (hr:Vt n st a x=some st'):
  ∃ w',(Instr.storeAt t va vx).run P w=.ok () w'/\Sat E st' w'/\Ext E w E w':=by
 cases a with
 | ptr id off=>
  obtain⟨b,hb,rfl⟩:=ha
  simp only[Vt] at hr
  cases ho:st.get id with
  | none=>simp[ho] at hr
  | some o=>
   cases o with
   | loop s=>simp[ho] at hr
   | row cs=>
    simp only[ho] at hr
    cases hcond:x.cells.length.beq n&&(off+n).ble cs.length&&x.cells.all AV.one
    ·simp[hcond] at hr
    ·simp only[hcond,Qi,Qa] at hr
     simp only[Qd] at hcond
     obtain⟨⟨c1,c2⟩,c3⟩:=hcond
     have c1:=Qj c1
     have c2:=Qk c2
     have hcl:=hx.cells
     obtain⟨w',r1,r2,r3⟩:=write_row (P:=P) (off:=off) hs ho hb hcl (by omega) (hcl.one c3)
     refine⟨w',?_,hr ▸ r2,r3⟩
     have hsz:vx.cells.size=i.size:=by rw[hn,<-c1,hcl.length];simp
     simp[Instr.storeAt,Instr.sureAddr,storeVar,VW hi,hsz,r1]
   | fro cs=>simp[ho] at hr
   | map es=>simp[ho] at hr
   | fmap es=>simp[ho] at hr
   | iter m ks=>simp[ho] at hr
 | _=>simp[Vt] at hr
end
end Go.AM
namespace Go.AM
section
variable {E:Env} {st:St} {w:World} {P:Program}
theorem UF{op:BinOp}{a b:Bool}{r:AV}{s:Sem Value}{sb:Sem Bool}(hr:boolBin op a b=some r)(hb:sb.run P w=.ok (a==b) w)
  (he:op=.eql->s=do pure (.bool (<- sb))) (hn:op=.neq->s=do pure (.bool (!(<- sb)))):∃ u,s.run P w=.ok u w/\Rv E w r u:=by
 cases op<;>simp[boolBin] at hr
 ·subst hr;exact⟨.bool (a==b),by rw[he rfl];simp[hb],rfl⟩
 ·subst hr;exact⟨.bool (!(a==b)),by rw[hn rfl];simp[hb],rfl⟩
theorem bitsOf_sound{op:BinOp}{k:IntKind}{x y:Int}{r:AV}(hr:bitsOf op k x y=some r):∃ u,(Op.intBits op k x y).run P w=.ok u w/\Rv E w r u:=by
 cases op<;>simp only[bitsOf,Qa,reduceCtorEq] at hr<;>subst hr<;>exact⟨_,rfl,rfl⟩
theorem intBin_sound{op:BinOp}{k:IntKind}{a b:Int}{r:AV}{t:TypeId}(hr:T9 op k a b=some r):∃ u,(binOp op t (.int k a) (.int k b)).run P w=.ok u w/\Rv E w r u:=by
 cases op<;>simp only[T9] at hr<;>try (simp only[Qa] at hr;subst hr)
 all_goals first
  | (refine⟨_,?_,rfl⟩;simp[binOp,Op.intArith,wr_eq];done)
  | (refine⟨_,?_,rfl⟩;simp[binOp,Op.intCmp];done)
  | (split at hr;simp at hr;rename_i hz;simp only[Qa] at hr;subst hr;refine⟨_,?_,rfl⟩;simp[binOp,Op.intDiv,hz,wr_eq])
  | (obtain⟨u,h1,h2⟩:=bitsOf_sound (E:=E) (P:=P) (w:=w) hr;exact⟨u,by simpa [binOp] using h1,h2⟩)
  | simp at hr
theorem shiftBin_sound{op:BinOp}{k k':IntKind}{a b:Int}{r:AV}{t:TypeId}(hs:KK op=true)(hr:shiftBin op k a b=some r):∃ u,(binOp op t (.int k a) (.int k' b)).run P w=.ok u w/\Rv E w r u:=by
 unfold shiftBin at hr
 split at hr
 ·simp at hr
 ·rename_i hb
  cases op<;>simp[KK] at hs<;>simp only[Qa] at hr<;>subst hr
  ·exact⟨_,by simp[binOp,Op.shift,hb],rfl⟩
  ·exact⟨_,by simp[binOp,Op.shift,hb],rfl⟩
theorem UO:∀(x y:List UInt8),WQ (x.map (·.toNat)) (y.map (·.toNat))=(x==y)
 | [],[]=>rfl
 | [],_::_=>rfl
 | _::_,[]=>rfl
 | a::x,b::y=>by
  have:(a.toNat).beq b.toNat=(a==b):=by
   by_cases h:a=b
   ·subst h;simp
   ·have h':a.toNat≠b.toNat:=fun e=>h (UInt8.toNat_inj.1 e)
    have e1:(a==b)=false:=by simpa using h
    rw[e1]
    cases e2:(a.toNat).beq b.toNat
    ·rfl
    ·exact absurd (Qj e2) h'
  simp only[Q4,WQ,UO x y,this]
  rfl
theorem natsLess_iff:∀(x y:List UInt8),Jk (x.map (·.toNat)) (y.map (·.toNat))=Op.bytesLess x y
 | _,[]=>by simp[Jk,Op.bytesLess]
 | [],_::_=>rfl
 | a::x,b::y=>by
  have h1:(a.toNat).beq b.toNat=(a==b):=by
   by_cases h:a=b
   ·subst h;simp
   ·have h':a.toNat≠b.toNat:=fun e=>h (UInt8.toNat_inj.1 e)
    have e1:(a==b)=false:=by simpa using h
    rw[e1]
    cases e2:(a.toNat).beq b.toNat
    ·rfl
    ·exact absurd (Qj e2) h'
  have h2:(a.toNat).blt b.toNat=decide (a < b):=by
   by_cases h:a.toNat < b.toNat
   ·have:a < b:=h
    simp[this,Nat.blt,Nat.ble_eq,Nat.succ_le_of_lt h]
   ·have hn:¬(a < b):=h
    simp only[hn,decide_false]
    cases e:Nat.blt a.toNat b.toNat
    ·rfl
    ·exact absurd (Qk e) (by omega)
  simp only[Q4,Jk,Op.bytesLess,natsLess_iff x y,h1,h2]
theorem strBin_sound{op:BinOp}{a b:List Nat}{sa sb:ByteArray}{r:AV}{t:TypeId}(ha:sa.data.toList.map (·.toNat)=a)(hb:sb.data.toList.map (·.toNat)=b)
  (hr:strBin op a b=some r):∃ u,(binOp op t (.string sa) (.string sb)).run P w=.ok u w/\Rv E w r u:=by
 have eq1:WQ a b=(sa.toList==sb.toList):=by rw[<-ha,<-hb,UO,ByteArray.toList_eq,ByteArray.toList_eq]
 have eq2:Jk a b=Op.bytesLess sa.toList sb.toList:=by rw[<-ha,<-hb,natsLess_iff,ByteArray.toList_eq,ByteArray.toList_eq]
 by_cases hop:op=.add
 ·subst hop
  simp only[strBin] at hr
  split at hr
  ·rename_i hlen
   simp only[Qa] at hr;subst hr
   have h1:a.length=sa.size:=by rw[<-ha];simp
   have h2:b.length=sb.size:=by rw[<-hb];simp
   refine⟨.string (sa++sb),?_,sa++sb,rfl,?_⟩
   ·have:¬(9223372036854775807 < ((sa.size:Int)+(sb.size:Int))):=by omega
    have e:IntKind.i64.max=9223372036854775807:=by decide
    simp[binOp,Op.stringOp,e,this]
   ·rw[<-ha,<-hb,<-QQ,ByteArray.data_append,Zi]
  ·simp at hr
 ·cases op<;>simp only[strBin,eq1,eq2,Qa,reduceCtorEq] at hr<;>try subst hr
  all_goals first
   | (refine⟨_,?_,rfl⟩;simp[binOp,Op.stringOp];done)
   | exact absurd rfl hop
theorem binA_sound{op:BinOp}{x y r:AV}{vx vy:Value}{t:TypeId}{X Y:Operand}(hx:Rv E w x vx)(hy:Rv E w y vy)(hr:binA op x y=some r)
  (hb:(∃ a,x=.bool a)->P.underlying t=some .bool):∃ u,(do eqGuard op t X Y vx vy;binOp op t vx vy:Sem Value).run P w=.ok u w/\Rv E w r u:=by
 cases x<;>cases y<;>simp only[binA,reduceCtorEq] at hr
 case bool.bool a b=>
  have hx:vx=.bool a:=hx
  have hy:vy=.bool b:=hy
  subst hx;subst hy
  have hg:(eqGuard op t X Y (.bool a) (.bool b)).run P w=.ok () w:=by unfold eqGuard;cases op<;>simp
  have hq':∀ n,(Op.equalIn (n+1) t (.bool a) (.bool b)).run P w=.ok (a==b) w:=fun n=>by
   simp[Op.equalIn,underlying,hb ⟨a,rfl⟩]
  have hq:(Op.equal t (.bool a) (.bool b)).run P w=.ok (a==b) w:=hq' 9999
  simp only[Sem.run_bind,hg,Result.andThen]
  exact UF hr hq (fun h=>by subst h;rfl) (fun h=>by subst h;rfl)
 case int.int k a k' b=>
  have hx:vx=.int k a:=hx
  have hy:vy=.int k' b:=hy
  subst hx;subst hy
  have hg:(eqGuard op t X Y (.int k a) (.int k' b)).run P w=.ok () w:=by unfold eqGuard;cases op<;>simp
  simp only[Sem.run_bind,hg,Result.andThen]
  cases hsh:KK op
  ·simp only[hsh,Qq] at hr
   split at hr
   ·rename_i hk;subst hk;exact intBin_sound hr
   ·simp at hr
  ·simp only[hsh,Qi] at hr;exact shiftBin_sound hsh hr
 case str.str a b=>
  obtain⟨sa,rfl,ha⟩:=hx
  obtain⟨sb,rfl,hb'⟩:=hy
  have hg:(eqGuard op t X Y (.string sa) (.string sb)).run P w=.ok () w:=by unfold eqGuard;cases op<;>simp
  simp only[Sem.run_bind,hg,Result.andThen]
  exact strBin_sound ha hb' hr
inductive NilV:Nat->Value->Bool->Prop
 | p0:NilV 0 (.pointer none) true
 | p1 (a:Addr):NilV 0 (.pointer (some a)) false
 | s0:NilV 1 (.slice none 0 0) true
 | s1 (a:Addr) (n k:Nat):NilV 1 (.slice (some a) n k) false
 | m0:NilV 2 (.map none) true
 | m1 (b:Nat):NilV 2 (.map (some b)) false
 | f0:NilV 3 .nilFunc true
 | f1 (f:Fn) (x y:Array Value):NilV 3 (.func f x y) false
 | i0:NilV 4 .nilIface true
 | i1 (t:TypeId) (y:Value):NilV 4 (.iface t y) false
theorem isNil_sound{c:Nat}{x:AV}{v:Value}{b:Bool}(hc:c < 5)(hx:Rv E w x v)(hb:isNil c x=some b):NilV c v b:=by
 obtain rfl | rfl | rfl | rfl | rfl:c=0\/c=1\/c=2\/c=3\/c=4:=by omega
 all_goals (cases x<;>simp[isNil] at hb<;>subst hb)
 all_goals first
  | (have hx:v=_:=hx;subst hx;constructor;done)
  | (obtain⟨_,_,hx⟩:=hx;subst hx;constructor;done)
  | (obtain⟨_,hx,_⟩:=hx;subst hx;constructor;done)
  | (obtain⟨_,_,hx,_⟩:=hx;subst hx;constructor;done)
  | (obtain⟨_,_,_,_,_,hx,_⟩:=hx;subst hx;constructor;done)
theorem nilClass_lt{d:TypeDesc}{c:Nat}(h:Yy d=some c):c < 5:=by
 cases d<;>simp[Yy] at h<;>omega
theorem eqNilA_sound{op:BinOp}{x y r:AV}{vx vy:Value}{t:TypeId}{d:TypeDesc}{c:Nat}{X Y:Operand}(hd:P.underlying t=some d)(hc:Yy d=some c)
  (hop:op=.eql\/op=.neq) (hk:c=4->(∃ v,X=.const v)\/(∃ v,Y=.const v))
  (hx:Rv E w x vx) (hy:Rv E w y vy) (hr:eqNilA c op x y=some r):∃ u,(do eqGuard op t X Y vx vy;binOp op t vx vy:Sem Value).run P w=.ok u w/\Rv E w r u:=by
 unfold eqNilA at hr
 cases ha:isNil c x with
 | none=>simp[ha] at hr
 | some a=>
  cases hb:isNil c y with
  | none=>simp[ha,hb] at hr
  | some b=>
   simp only[ha,hb,Qg] at hr
   cases hab:a||b
   ·simp[hab] at hr
   ·simp only[hab,Qi] at hr
    have h1:=isNil_sound (nilClass_lt hc) hx ha
    have h2:=isNil_sound (nilClass_lt hc) hy hb
    clear ha hb hx hy
    have hg:(eqGuard op t X Y vx vy).run P w=.ok () w:=by
     unfold eqGuard
     rcases hop with rfl | rfl<;>cases d<;>simp[Yy] at hc<;>subst hc<;>cases h1<;>cases h2<;>
      (first | (simp;done) | (rcases hk rfl with⟨v,rfl⟩|⟨v,rfl⟩<;>simp;done))
    have hq':∀ n,(Op.equalIn (n+1) t vx vy).run P w=.ok (a==b) w:=fun n=>by
     simp only[Op.equalIn,underlying,Sem.run_bind,run_program,Result.andThen,hd]
     cases d<;>simp[Yy] at hc<;>subst hc<;>cases h1<;>cases h2<;>first | (simp;done) | (simp at hab;done)
    have hq:(Op.equal t vx vy).run P w=.ok (a==b) w:=hq' 9999
    simp only[Sem.run_bind,hg,Result.andThen]
    have hbin:∀(_:op=.eql),binOp op t vx vy=(do pure (.bool (<- Op.equal t vx vy)):Sem Value):=fun h=>by
     subst h
     cases d<;>simp[Yy] at hc<;>subst hc<;>cases h1<;>cases h2<;>rfl
    have hbin':∀(_:op=.neq),binOp op t vx vy=(do pure (.bool (!(<- Op.equal t vx vy))):Sem Value):=fun h=>by
     subst h
     cases d<;>simp[Yy] at hc<;>subst hc<;>cases h1<;>cases h2<;>rfl
    exact UF hr hq hbin hbin'
theorem unA_sound{op:UnOp}{x r:AV}{v:Value}(hx:Rv E w x v)(hr:unA op x=some r):∃ u,(Op.unary op v).run P w=.ok u w/\Rv E w r u:=by
 cases op<;>cases x<;>simp[unA] at hr<;>subst hr<;>(have hx:v=_:=hx)<;>subst hx
 ·exact⟨_,rfl,by simp[wr_eq,Rv]⟩
 ·exact⟨_,rfl,rfl⟩
end
end Go.AM
namespace Go.AM
section
variable {E:Env} {st:St} {w:World} {P:Program}
theorem faddrA_sound{off:Nat}{x r:AV}{v:Value}(hx:Rv E w x v)(hr:WG off x=some r):∃ a,v=.pointer (some a)/\Rv E w r (.pointer (some (a.add off))):=by
 cases x<;>simp[WG] at hr<;>subst hr
 ·obtain⟨b,hb,rfl⟩:=hx
  exact⟨_,rfl,b,hb,by rw[Wb]⟩
 ·obtain⟨a,rfl,hf,hm⟩:=hx
  exact⟨_,rfl,a,by rw[add_add],hf,hm⟩
theorem fieldAt_sound{s:TypeId}{fs:Array Field}{f:Nat}{fd:Field}{i:TypeInfo}{x r:AV}{v:Value}(hs:P.underlying s=some (.struct fs))(hf:fs[f]?=some fd)
  (hi:P.info? fd.type=some i) (hz:i.size≠0) (hx:Rv E w x v) (hr:WG fd.offset x=some r):∃ u,(Instr.fieldAt s v f).run P w=.ok u w/\Rv E w r u:=by
 obtain⟨a,rfl,h⟩:=faddrA_sound hx hr
 exact⟨_,by simp[Instr.fieldAt,underlying,hs,hf,Instr.sureAddr,fieldPlace,VW hi,hz],h⟩
theorem iaddrA_sound{t e:TypeId}{i:TypeInfo}{x y r:AV}{v u:Value}(ht:P.underlying t=some (.slice e))(hi:P.info? e=some i)
  (hx:Rv E w x v) (hy:Rv E w y u) (hr:VC i.size x y=some r):∃ q,(Instr.indexAt t v u).run P w=.ok q w/\Rv E w r q:=by
 unfold VC at hr
 cases y<;>try (simp only[reduceCtorEq] at hr;done)
 rename_i k n
 have hy:u=.int k n:=hy
 subst hy
 cases n<;>try (simp only[reduceCtorEq] at hr;done)
 rename_i n
 simp only at hr
 cases x<;>simp only[reduceCtorEq] at hr
 ·rename_i m cs ex
  cases hb:(n+1).ble m
  ·simp[hb] at hr
  ·simp only[hb,Qi] at hr
   have hb:=Qk hb
   cases cs with
   | nil=>simp at hr
   | cons c cs=>
    simp only[Qa] at hr;subst hr
    obtain⟨a,cap,rfl,h1,h2,h3,h4⟩:=hx
    refine⟨.pointer (some (a.add (n*i.size))),?_,a,rfl,h3 (by simp),h4⟩
    have hlt:n < m:=by omega
    simp[Instr.indexAt,asIntOf,underlying,ht,hlt,VW hi]
 ·rename_i id off m s cap lo
  cases hb:(n+1).ble m&&s.beq i.size
  ·simp[hb] at hr
  ·simp only[hb,Qi,Qa] at hr;subst hr
   simp only[Qd] at hb
   have hb:=Qk hb.1
   obtain⟨b,c,e',m',h0,rfl,h1,h2⟩:=hx
   refine⟨.pointer (some ((⟨b,off,none⟩:Addr).add (n*i.size))),?_,b,h0,by rw[Wb]⟩
   have hlt:n < m:=by omega
   simp[Instr.indexAt,asIntOf,underlying,ht,hlt,VW hi]
theorem aaddrA_sound{t e:TypeId}{len:Nat}{i:TypeInfo}{x y r:AV}{v u:Value}(ht:P.underlying t=some (.array len e))(hi:P.info? e=some i)
  (hx:Rv E w x v) (hy:Rv E w y u) (hr:UC len i.size x y=some r):∃ q,(Instr.indexAt t v u).run P w=.ok q w/\Rv E w r q:=by
 unfold UC at hr
 cases y<;>try (simp only[reduceCtorEq] at hr;done)
 rename_i k n
 have hy:u=.int k n:=hy
 subst hy
 cases n<;>try (simp only[reduceCtorEq] at hr;done)
 rename_i n
 simp only at hr
 cases hb:(n+1).ble len
 ·simp[hb] at hr
 ·simp only[hb,Qi] at hr
  have hb:=Qk hb
  obtain⟨a,rfl,h⟩:=faddrA_sound hx hr
  refine⟨_,?_,h⟩
  have hlt:n < len:=by omega
  simp[Instr.indexAt,asIntOf,underlying,ht,hlt,VW hi,Instr.sureAddr]
theorem partA_sound{t:TypeId}{d:TypeDesc}{i:TypeInfo}{off:Nat}{cs:List AV}{vs:List Value}{r:AV}(hd:P.underlying t=some d)(hi:P.info? t=some i)
  (hx:RvL E w cs vs) (hr:partA (Uh d) off i.size cs=some r):∃ u,(part t vs.toArray off).run P w=.ok u w/\Rv E w r u:=by
 unfold partA at hr
 cases hag:Uh d with
 | true=>
  simp only[hag,Qi] at hr
  cases hb:(off+i.size).ble cs.length
  ·simp[hb] at hr
  ·simp only[hb,Qi,Qa] at hr;subst hr
   refine⟨.agg (vs.toArray.extract off (off+i.size)),?_,_,rfl,?_⟩
   ·simp[part,Sf hd,hag,VW hi]
   ·have:=(hx.drop off).take i.size
    simpa [List.extract_eq_take_drop] using this
 | false=>
  simp only[hag,Qq] at hr
  obtain⟨u,h1,h2⟩:=hx.get _ hr
  exact⟨u,by simp[part,Sf hd,hag,h1],h2⟩
theorem fieldA_sound{s:TypeId}{fs:Array Field}{f:Nat}{fd:Field}{d:TypeDesc}{i:TypeInfo}{x r:AV}{v:Value}(hs:P.underlying s=some (.struct fs))(hf:fs[f]?=some fd)
  (hd:P.underlying fd.type=some d) (hi:P.info? fd.type=some i) (hx:Rv E w x v) (hr:TN (Uh d) fd.offset i.size x=some r):
  ∃ u,(Instr.field s v f).run P w=.ok u w/\Rv E w r u:=by
 cases x<;>simp only[TN,reduceCtorEq] at hr
 obtain⟨vs,rfl,h⟩:=hx
 obtain⟨u,h1,h2⟩:=partA_sound (vs:=vs.toList) hd hi h hr
 exact⟨u,by simpa [Instr.field,underlying,hs,hf,asAgg] using h1,h2⟩
theorem aindexA_sound{t e:TypeId}{len:Nat}{d:TypeDesc}{i:TypeInfo}{x y r:AV}{v u:Value}(ht:P.underlying t=some (.array len e))
  (hd:P.underlying e=some d) (hi:P.info? e=some i) (hx:Rv E w x v) (hy:Rv E w y u) (hr:aindexA (Uh d) len i.size x y=some r):
  ∃ q,(Instr.index t v u).run P w=.ok q w/\Rv E w r q:=by
 unfold aindexA at hr
 cases y<;>try (simp only[reduceCtorEq] at hr;done)
 rename_i k n
 have hy:u=.int k n:=hy
 subst hy
 cases n<;>try (simp only[reduceCtorEq] at hr;done)
 rename_i n
 simp only at hr
 cases hb:(n+1).ble len
 ·simp[hb] at hr
 ·simp only[hb,Qi] at hr
  have hb:=Qk hb
  cases x<;>simp only[TN,reduceCtorEq] at hr
  obtain⟨vs,rfl,h⟩:=hx
  obtain⟨q,h1,h2⟩:=partA_sound (vs:=vs.toList) hd hi h hr
  have hlt:n < len:=by omega
  exact⟨q,by simpa [Instr.index,asIntOf,underlying,ht,hlt,VW hi] using h1,h2⟩
theorem sindexA_sound{t:TypeId}{x y r:AV}{v u:Value}(ht:P.underlying t=some .string)(hx:Rv E w x v)(hy:Rv E w y u)(hr:sindexA x y=some r):
  ∃ q,(Instr.index t v u).run P w=.ok q w/\Rv E w r q:=by
 unfold sindexA at hr
 cases y<;>try (simp only[reduceCtorEq] at hr;done)
 rename_i k n
 have hy:u=.int k n:=hy
 subst hy
 cases n<;>try (simp only[reduceCtorEq] at hr;done)
 rename_i n
 simp only at hr
 cases x<;>simp only[reduceCtorEq] at hr
 rename_i l
 obtain⟨s,rfl,hs⟩:=hx
 cases hl:l[n]? with
 | none=>simp[hl] at hr
 | some b=>
  simp only[hl,Qa] at hr;subst hr
  have hb:(s.data.toList)[n]?.map (·.toNat)=some b:=by rw[<-Q5,hs,hl]
  cases hb':(s.data.toList)[n]? with
  | none=>simp[hb'] at hb
  | some c=>
   simp only[hb',Ql,Qa] at hb
   have hlt:n < s.size:=by
    have:=(Qt.1 hb').1
    simpa using this
   have hg:s[n]?=some c:=by
    rw[ByteArray.getElem?_lt' s n hlt]
    have:s.data[n]?=some c:=by simpa using hb'
    rw[QM (by simpa using hlt)] at this
    injection this with this
    exact Xn some this
   exact⟨.int .u8 c.toNat,by simp[Instr.index,asIntOf,underlying,ht,hg],by rw[<-hb];rfl⟩
theorem convA_sound{s t:TypeId}{ds:TypeDesc}{k:IntKind}{x r:AV}{v:Value}(hs:P.underlying s=some ds)(ht:P.underlying t=some (.int k))(hx:Rv E w x v)(hr:convA k x=some r):
  ∃ u,(convert s t v).run P w=.ok u w/\Rv E w r u:=by
 cases x<;>simp only[convA,reduceCtorEq] at hr
 rename_i k' n
 have hx:v=.int k' n:=hx
 subst hx
 simp only[Qa] at hr;subst hr
 refine⟨.int k (k.wrap n),?_,by simp[Rv,wr_eq]⟩
 simp only[convert,underlying,Sem.run_bind,run_program,Result.andThen,hs,ht]
 simp[Conv.intToInt]
theorem extractA_sound{i:Nat}{x r:AV}{v:Value}(hx:Rv E w x v)(hr:WJ i x=some r):∃ u,(Instr.extract v i).run P w=.ok u w/\Rv E w r u:=by
 cases x<;>simp only[WJ,reduceCtorEq] at hr
 obtain⟨vs,rfl,h⟩:=hx
 obtain⟨u,h1,h2⟩:=h.get _ hr
 refine⟨u,?_,h2⟩
 have:vs[i]?=some u:=by simpa using h1
 simp[Instr.extract,this]
theorem RvEs.length:∀{es:List (AV × AV)} {l:List MapEntry},RvEs E w es l->es.length=l.length
 | [],_,h=>by subst h;rfl
 | (_,_)::es,_,⟨x,xs,h,_,_,h2⟩=>by subst h;simp[RvEs.length h2]
def lenOk(x:AV)(d:TypeDesc):Prop:=
 match x with
 | .str _=>d=.string
 | .nilmap=>∃ k e,d=.map k e
 | .map _=>∃ k e,d=.map k e
 | _=>∃ e,d=.slice e
theorem lenA_sound{t ty:TypeId}{ts:Array TypeId}{d:TypeDesc}{x r:AV}{v:Value}(ht0:ts[0]?=some t)(ht:P.underlying t=some d)
  (hcl:lenOk x d)
  (hs:Sat E st w) (hx:Rv E w x v) (hr:Wm st x=some r):∃ u,(Builtin.len_ ts ty #[v]).run P w=.ok u w/\Rv E w r u:=by
 unfold lenOk at hcl
 cases x<;>simp only[Wm,reduceCtorEq] at hr<;>try (simp only[Qa] at hr;subst hr)
 ·obtain⟨s,rfl,hl⟩:=hx
  simp only at hcl;subst hcl
  have:s.size=s.data.toList.length:=by simp
  exact⟨goInt s.size,by simp[Builtin.len_,ht0,underlying,ht],by rw[<-hl];simp[Rv,goInt]⟩
 ·have hx:v=.slice none 0 0:=hx
  obtain⟨e,rfl⟩:=hcl;subst hx
  exact⟨goInt 0,by simp[Builtin.len_,ht0,underlying,ht],rfl⟩
 ·obtain⟨e,rfl⟩:=hcl
  obtain⟨a,cap,rfl,_⟩:=hx
  exact⟨goInt _,by simp[Builtin.len_,ht0,underlying,ht],rfl⟩
 ·obtain⟨e,rfl⟩:=hcl
  obtain⟨b,c,e',m',h0,rfl,_⟩:=hx
  exact⟨goInt _,by simp[Builtin.len_,ht0,underlying,ht],rfl⟩
 ·have hx:v=.map none:=hx
  obtain⟨k,e,rfl⟩:=hcl;subst hx
  exact⟨goInt 0,by simp[Builtin.len_,ht0,underlying,ht],rfl⟩
 ·obtain⟨k,e,rfl⟩:=hcl
  rename_i id
  obtain⟨b,hb,rfl⟩:=hx
  cases ho:st.get id with
  | none=>simp[ho] at hr
  | some o=>
   cases o with
   | loop s=>simp[ho] at hr
   | map es=>
    simp only[ho,Qa] at hr;subst hr
    obtain⟨l,clock,h1,h2,_⟩:=hs.obj id _ b ho hb
    have hg:(getObj b).run P w=.ok (.map l clock) w:=by simp[getObj,Sem.run,h1]
    exact⟨goInt l.size,by simp[Builtin.len_,ht0,underlying,ht,hg],by rw[RvEs.length h2];simp[Rv,goInt]⟩
   | row _=>simp[ho] at hr
   | fro _=>simp[ho] at hr
   | fmap _=>simp[ho] at hr
   | iter _ _=>simp[ho] at hr
theorem capA_sound{t ty e:TypeId}{ts:Array TypeId}{x r:AV}{v:Value}(ht0:ts[0]?=some t)(ht:P.underlying t=some (.slice e))(hx:Rv E w x v)(hr:capA x=some r):
  ∃ u,(Builtin.cap_ ts ty #[v]).run P w=.ok u w/\Rv E w r u:=by
 unfold capA at hr
 split at hr<;>simp only[Qa,reduceCtorEq] at hr<;>subst hr
 ·have hx:v=.slice none 0 0:=hx
  subst hx
  exact⟨goInt 0,by simp[Builtin.cap_,ht0,underlying,ht],rfl⟩
 ·obtain⟨a,cap,rfl,_,hc,_⟩:=hx
  exact⟨goInt cap,by simp[Builtin.cap_,ht0,underlying,ht],by rw[hc rfl];rfl⟩
 ·obtain⟨b,c,e',m',h0,rfl,_,hc,_⟩:=hx
  exact⟨goInt c,by simp[Builtin.cap_,ht0,underlying,ht],by rw[hc _ rfl];rfl⟩
theorem maxA_sound{x y r:AV}{v u:Value}(hx:Rv E w x v)(hy:Rv E w y u)(hr:maxA x y=some r):∃ q,(Builtin.max2 v u).run P w=.ok q w/\Rv E w r q:=by
 unfold maxA at hr
 split at hr<;>simp only[Qa,reduceCtorEq] at hr
 subst hr
 rename_i k a k' b
 have hx:v=.int k a:=hx
 have hy:u=.int k' b:=hy
 subst hx;subst hy
 exact⟨_,rfl,rfl⟩
theorem minA_sound{x y r:AV}{v u:Value}(hx:Rv E w x v)(hy:Rv E w y u)(hr:minA x y=some r):∃ q,(Builtin.min2 v u).run P w=.ok q w/\Rv E w r q:=by
 unfold minA at hr
 split at hr<;>simp only[Qa,reduceCtorEq] at hr
 subst hr
 rename_i k a k' b
 have hx:v=.int k a:=hx
 have hy:u=.int k' b:=hy
 subst hx;subst hy
 exact⟨_,rfl,rfl⟩
theorem Sw{f:AV->AV->Option AV}{g:Value->Value->Sem Value}(hf:∀ x y r v u,Rv E w x v->Rv E w y u->f x y=some r->∃ q,(g v u).run P w=.ok q w/\Rv E w r q):
  ∀(l:List AV) (x r:AV) (v:Value) (vs:List Value),Rv E w x v->RvL E w l vs->foldA f x l=some r->∃ q,(vs.foldlM g v).run P w=.ok q w/\Rv E w r q
 | [],x,r,v,vs,hx,hl,hr=>by
  cases hl;simp only[foldA,Qa] at hr;subst hr;exact⟨v,by simp,hx⟩
 | y::l,x,r,v,_,hx,⟨u,us,rfl,h1,h2⟩,hr=>by
  simp only[foldA] at hr
  cases hz:f x y with
  | none=>simp[hz] at hr
  | some z=>
   simp only[hz,Qg] at hr
   obtain⟨q,h3,h4⟩:=hf x y z v u hx h1 hz
   obtain⟨q',h5,h6⟩:=Sw hf l z r q us h4 h2 hr
   exact⟨q',by simp[h3,h5],h6⟩
end
end Go.AM
namespace Go.AM
section
variable {E:Env} {st:St} {w:World} {P:Program}
theorem V3.new_prefix{cs:List AV}{vs:List Value}{arr:Array Value}{b:Nat}{e:TypeId}{fr:Nat × Nat}(h:RvL E w cs vs)(hb:w.heap[b]?=some (.cells arr e fr))
  (hp:∀(j:Nat) v,vs[j]?=some v->arr[j]?=some v):V3 E w ⟨b,0,none⟩ 0 cs:=
 V3.of_get fun j c hc=>by
  obtain⟨v,h1,h2⟩:=h.get j hc
  refine⟨v,?_,h2⟩
  rw[Wb]
  simp only[Q7]
  rw[cell_of_row w b j arr e fr hb]
  exact hp j v h1
theorem Vz(w:World)(o:Obj):(w.alloc o).heap[w.heap.size]?=some o:=heap_alloc_new w o
theorem Yn(w:World)(c:Array Value)(e:TypeId)(fr:Nat × Nat):(w.alloc (.cells c e fr)).shape? w.heap.size=some (e,c.size):=by
 unfold World.shape?;rw[Vz]
theorem box_fz_sound{e:TypeId}{x:AV}{v:Value}(hs:Sat E st w)(hx:Rv E w x v):
  ∃ w' E',(Instr.box e v).run P w=.ok (.pointer (some ⟨w.heap.size,0,none⟩)) w'/\Ext E w E' w'/\Sat E' st w'/\Rv E' w' (.fptr x.cells 0) (.pointer (some ⟨w.heap.size,0,none⟩)):=by
 obtain⟨h1,h2⟩:=hs.allocFz (.cells v.cells e)
 refine⟨_,_,by simp[Instr.box,newVar,newRow],h2,h1,⟨w.heap.size,0,none⟩,by rw[Wb],Or.inl rfl,?_⟩
 exact V3.new (vs:=v.cells) (RvL.mono h2 _ _ hx.cells) (Vz w _)
theorem box_sound{e:TypeId}{x:AV}{v:Value}(hs:Sat E st w)(hx:Rv E w x v):
  ∃ w' E',(Instr.box e v).run P w=.ok (.pointer (some ⟨w.heap.size,0,none⟩)) w'/\Ext E w E' w'/\Sat E' (st.new (.row x.cells)) w' ∧
   Rv E' w' (.ptr st.next 0) (.pointer (some ⟨w.heap.size,0,none⟩)):=by
 obtain⟨h1,h2⟩:=hs.alloc (.cells v.cells e) (.row x.cells) fun E' hx'=>⟨⟨v.cells,e,(0,0),Vz w _,by rw[hx.cells.length];simp,.inl rfl⟩,
  V3.new (vs:=v.cells) (RvL.mono hx' _ _ hx.cells) (Vz w _)⟩
 exact⟨_,_,by simp[Instr.box,newVar,newRow],h2,h1,w.heap.size,by simp[Env.link],rfl⟩
theorem Wc{t:TypeId}{i:TypeInfo}{z:Value}(hi:P.info? t=some i)(hz:i.zero=some z):(zeroValue t).run P w=.ok z w:=by
 simp[zeroValue,typeInfo,hi,hz]
theorem alloc_sound{t:TypeId}{i:TypeInfo}{z:Value}{zs:List AV}(hi:P.info? t=some i)(hz:i.zero=some z)(hzs:∀ E w,RvL E w zs z.cells.toList)(hs:Sat E st w):
  ∃ w' E',(Instr.alloc t true (.tuple #[])).run P w=.ok (.pointer (some ⟨w.heap.size,0,none⟩)) w'/\Ext E w E' w'/\Sat E' (st.new (.row zs)) w' ∧
   Rv E' w' (.ptr st.next 0) (.pointer (some ⟨w.heap.size,0,none⟩)):=by
 obtain⟨h1,h2⟩:=hs.alloc (.cells z.cells t) (.row zs) fun E' hx'=>⟨⟨z.cells,t,(0,0),Vz w _,by rw[(hzs E w).length];simp,.inl rfl⟩,
  V3.new (vs:=z.cells) (hzs _ _) (Vz w _)⟩
 exact⟨_,_,by simp[Instr.alloc,newVar,newRow,Wc hi hz],h2,h1,w.heap.size,by simp[Env.link],rfl⟩
theorem alloc_link_sound{t:TypeId}{i:TypeInfo}{z:Value}{zs:List AV}{id:Nat}(hi:P.info? t=some i)(hz:i.zero=some z)(hzs:∀ E w,RvL E w zs z.cells.toList)(hs:Sat E st w)
  (hid:id < st.next) (hβ:E.β id=none) (hr:¬ E.Rs id) (hg:st.get id=some (.row zs)):
  ∃ w',(Instr.alloc t true (.tuple #[])).run P w=.ok (.pointer (some ⟨w.heap.size,0,none⟩)) w'/\Ext E w (E.link id w.heap.size) w'/\Sat (E.link id w.heap.size) st w' ∧
   Rv (E.link id w.heap.size) w' (.ptr id 0) (.pointer (some ⟨w.heap.size,0,none⟩)):=by
 obtain⟨h1,h2⟩:=hs.link (.cells z.cells t) id (.row zs) hid hβ hr hg fun E' hx'=>⟨⟨z.cells,t,(0,0),Vz w _,by rw[(hzs E w).length];simp,.inl rfl⟩,
  V3.new (vs:=z.cells) (hzs _ _) (Vz w _)⟩
 exact⟨_,by simp[Instr.alloc,newVar,newRow,Wc hi hz],h2,h1,w.heap.size,by simp[Env.link],rfl⟩
theorem makeMap_sound{t:TypeId}{kt et:TypeId}{r:Option Value}(ht:P.underlying t=some (.map kt et))(hr:∀ v,r=some v->∃ k n,v=.int k n)(hs:Sat E st w):
  ∃ w' E',(Instr.makeMap t r).run P w=.ok (.map (some w.heap.size)) w'/\Ext E w E' w'/\Sat E' (st.new (.map [])) w'/\Rv E' w' (.map st.next) (.map (some w.heap.size)):=by
 obtain⟨h1,h2⟩:=hs.alloc (.map #[] 0) (.map []) fun E' _=>⟨#[],0,Vz w _,rfl,by simp[Je]⟩
 refine⟨_,_,?_,h2,h1,w.heap.size,by simp[Env.link],rfl⟩
 cases r with
 | none=>simp[Instr.makeMap]
 | some v=>obtain⟨k,n,rfl⟩:=hr v rfl;simp[Instr.makeMap,underlying,ht,asInt,asIntOf]
def RvParts(E:Env)(w:World):List (Nat × Nat × AV)->List (Nat × Value)->(Nat->Option (Nat × Nat))->Prop
 | [],l,_=>l=[]
 | (off,n,x)::ps,l,place=>∃ i v vs,l=(i,v)::vs/\place i=some (off,n)/\Rv E w x v/\RvParts E w ps vs place
theorem foldl_set(vs:List Value)(off:Nat):∀(k:Nat) (cs:Array Value),off+k+vs.length<=cs.size ->
  ((vs.zipIdx k).foldl (fun (cs:Array Value) (p:Value × Nat)=>cs.setIfInBounds (off+p.2) p.1) cs).toList=cs.toList.take (off+k)++(vs++cs.toList.drop (off+k+vs.length)):=by
 induction vs with
 | nil=>intro k cs h;simp
 | cons v vs ih=>
  intro k cs h
  simp only[QC] at h
  simp only[Zd,Xt]
  rw[ih (k+1) _ (by simp;omega)]
  have hlt:off+k < cs.size:=by omega
  rw[Array.toList_setIfInBounds]
  have e1:(cs.toList.set (off+k) v).take (off+(k+1))=cs.toList.take (off+k)++[v]:=by
   apply Zn
   intro j
   rw[X6]
   by_cases hj:j < off+(k+1)
   ·rw[Qm hj]
    by_cases hj2:j=off+k
    ·subst hj2
     rw[Xg (by rw[Xl];exact Nat.min_le_left ..)]
     simp[hlt,Zw (Nat.le_of_lt hlt)]
    ·rw[Xk (by simp;omega),List.getElem?_set_ne (by omega),X6,Qm (by omega)]
   ·rw[Qe hj,Za (by simp;omega)]
  have e2:(cs.toList.set (off+k) v).drop (off+(k+1)+vs.length)=cs.toList.drop (off+k+(vs.length+1)):=by
   rw[List.drop_set_of_lt (by omega)]
   congr 1;omega
  rw[e1,e2];simp
theorem Ki{place:Nat->Option (Nat × Nat)}:∀(ps:List (Nat × Nat × AV)) (l:List (Nat × Value)) (cs r:List AV) (vs:Array Value),
  RvParts E w ps l place->RvL E w cs vs.toList->VN cs ps=some r->∃ out,Instr.fill place vs l=some out/\RvL E w r out.toList
 | [],l,cs,r,vs,hp,hc,hr=>by
  have hp:l=[]:=hp
  subst hp
  simp only[VN,Qa] at hr;subst hr
  exact⟨vs,rfl,hc⟩
 | (off,n,x)::ps,_,cs,r,vs,⟨i,v,l,rfl,hpl,hx,hp⟩,hc,hr=>by
  simp only[VN] at hr
  cases hcond:x.cells.length.beq n&&(off+n).ble cs.length
  ·simp[hcond] at hr
  ·simp only[hcond,Qi] at hr
   simp only[Qd] at hcond
   have c1:=Qj hcond.1
   have c2:=Qk hcond.2
   have hl:=hc.length
   have hxl:=hx.cells.length
   have e1:v.cells.size=n:=by rw[<-c1,hxl];simp
   have hsz:vs.size=vs.toList.length:=by simp
   have hfold:=foldl_set v.cells.toList off 0 vs (by simp;omega)
   have hnew:RvL E w (setCells cs off x.cells) ((v.cells.zipIdx.foldl (fun (cs:Array Value) (p:Value × Nat)=>cs.setIfInBounds (off+p.2) p.1) vs)).toList:=by
    have:(v.cells.zipIdx.foldl (fun (cs:Array Value) (p:Value × Nat)=>cs.setIfInBounds (off+p.2) p.1) vs) =
      ((v.cells.toList.zipIdx 0).foldl (fun (cs:Array Value) (p:Value × Nat)=>cs.setIfInBounds (off+p.2) p.1) vs):=by
     rw[<-Z4,Array.toList_zipIdx]
    rw[this,hfold]
    simp only[XA,setCells]
    rw[hxl]
    exact(hc.take off).append (hx.cells.append (hc.drop _))
   obtain⟨out,h1,h2⟩:=Ki ps l _ r _ hp hnew hr
   refine⟨out,?_,h2⟩
   simp only[Instr.fill,hpl,e1]
   rw[Qe (by simp;omega)]
   exact h1
end
end Go.AM
namespace Go.AM
theorem hiOk_le{h n lw c:Nat}{cap:Option Nat}(hh:hiOk h n cap lw=true)(h1:n<=c)(h2:∀ k,cap=some k->c=k)(h3:lw<=c):h<=c:=by
 simp only[hiOk,XB] at hh
 rcases hh with hh | hh
 ·have:=Qk hh;omega
 ·cases cap with
  | none=>have:=Qk hh;omega
  | some k=>have:=Qk hh;have:=h2 k rfl;omega
section
variable {E:Env} {st:St} {w:World} {P:Program}
theorem bndA_sound{x:AV}{v:Value}{n:Nat}(hx:Rv E w x v)(h:bndA x=some n):∃ k,v=.int k (n:Int):=by
 unfold bndA at h
 split at h<;>simp only[Qa,reduceCtorEq] at h
 subst h
 exact⟨_,hx⟩
def RvO(E:Env)(w:World):Option AV->Option Value->Prop
 | none,v=>v=none
 | some x,v=>∃ u,v=some u/\Rv E w x u
theorem KR{x:Option AV}{v:Option Value}{n:Option Nat}(hx:RvO E w x v)(h:JC x=some n):
  (n=none/\v=none)\/(∃ k m,n=some m/\v=some (.int k ((m:Nat):Int))):=by
 cases x with
 | none=>simp only[JC,Qa] at h;exact .inl ⟨h.symm,hx⟩
 | some x=>
  obtain⟨u,rfl,hu⟩:=hx
  simp only[JC] at h
  cases hb:bndA x with
  | none=>simp[hb] at h
  | some m=>
   simp only[hb,Ql,Qa] at h
   obtain⟨k,rfl⟩:=bndA_sound hu hb
   exact .inr ⟨k,m,h.symm,rfl⟩
theorem Ue{isS:Bool}{len cap l h m:Nat}{lo hi mx:Option Value}{nl nh nm:Option Nat}
  (hl:(nl=none/\lo=none)\/(∃ k m,nl=some m/\lo=some (.int k ((m:Nat):Int)))) (hh:(nh=none/\hi=none)\/(∃ k m,nh=some m/\hi=some (.int k ((m:Nat):Int))))
  (hm:(nm=none/\mx=none)\/(∃ k m,nm=some m/\mx=some (.int k ((m:Nat):Int)))) (el:nl.getD 0=l) (eh:nh.getD len=h) (em:nm.getD cap=m)
  (h1:l<=h) (h2:h<=m) (h3:m<=cap) (h4:nm.isSome=true->nh.isSome=true):
  (Instr.sliceBounds isS len cap lo hi mx).run P w=.ok (l,h,m) w:=by
 have sb:∀(k:IntKind) (a y:Nat) (c:BoundsCode),a<=y->(Instr.sliceBound (.int k (a:Int)) y c).run P w=.ok a w:=fun k a y c hle=>by
  have:=run_sliceBound (P:=P) w k (a:Int) y c (by omega) (by omega)
  simpa using this
 rcases hm with⟨rfl,rfl⟩|⟨km,m',rfl,rfl⟩
 ·rcases hh with⟨rfl,rfl⟩|⟨kh,h',rfl,rfl⟩<;>rcases hl with⟨rfl,rfl⟩|⟨kl,l',rfl,rfl⟩<;>simp only[X5,Q9] at el eh em<;>subst el<;>subst eh<;>subst em<;>
   simp[Instr.sliceBounds,sb,h1,h2]
 ·rcases hh with⟨rfl,rfl⟩|⟨kh,h',rfl,rfl⟩
  ·simp at h4
  ·rcases hl with⟨rfl,rfl⟩|⟨kl,l',rfl,rfl⟩<;>simp only[X5,Q9] at el eh em<;>subst el<;>subst eh<;>subst em<;>
   simp[Instr.sliceBounds,sb,h1,h2,h3]
theorem sliceA_sound{t e:TypeId}{i:TypeInfo}{x r:AV}{v:Value}{lo hi mx:Option AV}{vl vh vm:Option Value}(ht:P.underlying t=some (.slice e))(hi':P.info? e=some i)
  (hx:Rv E w x v) (hl:RvO E w lo vl) (hh:RvO E w hi vh) (hm:RvO E w mx vm) (hr:Ys i.size x lo hi mx=some r):
  ∃ u,(Instr.sliceAt t v vl vh vm).run P w=.ok u w/\Rv E w r u:=by
 unfold Ys at hr
 cases hbl:JC lo with
 | none=>simp[hbl] at hr
 | some nl=>
 cases hbh:JC hi with
 | none=>simp[hbl,hbh] at hr
 | some nh=>
 cases hbm:JC mx with
 | none=>simp[hbl,hbh,hbm] at hr
 | some nm=>
 simp only[hbl,hbh,hbm,Qg] at hr
 have kl:=KR hl hbl
 have kh:=KR hh hbh
 have km:=KR hm hbm
 have hat:∀ v,(Instr.sliceAt t v vl vh vm).run P w=(Instr.slice t v vl vh vm).run P w:=fun v=>by simp[Instr.sliceAt,underlying,ht]
 have hsl:∀(a:Option Addr) (len cap l h m:Nat),(Instr.sliceBounds true len cap vl vh vm).run P w=.ok (l,h,m) w ->
   (Instr.slice t (.slice a len cap) vl vh vm).run P w=.ok (.slice (if m=l then a else a.map (·.add (l*i.size))) (h - l) (m - l)) w:=fun a len cap l h m hb=>by
  simp[Instr.slice,underlying,ht,hb,VW hi']
 cases x<;>simp only[TF,reduceCtorEq] at hr
 ·
  have hx:v=.slice none 0 0:=hx
  subst hx
  cases hc:((nl.getD 0).beq 0&&(nh.getD 0).beq 0&&(nm.getD 0).beq 0&&(nm.isNone||nh.isSome))
  ·simp[hc] at hr
  ·simp only[hc,Qi,Qa] at hr;subst hr
   simp only[Qd] at hc
   have c1:=Qj hc.1.1.1
   have c2:=Qj hc.1.1.2
   have c3:=Qj hc.1.2
   have h4:nm.isSome=true->nh.isSome=true:=fun hs=>by
    have:=hc.2
    cases nm with
    | none=>simp at hs
    | some m=>simpa using this
   have hb:=Ue (P:=P) (w:=w) (isS:=true) (len:=0) (cap:=0) kl kh km c1 c2 c3 (Qw 0) (Qw 0) (Qw 0) h4
   exact⟨.slice none 0 0,by rw[hat,hsl none 0 0 0 0 0 hb];simp,rfl⟩
 ·
  rename_i n cs ex
  obtain⟨a,cap,rfl,h1,h2,h3,h4⟩:=hx
  have fin:∀(l h m:Nat) (ex':Bool),nl.getD 0=l->nh.getD n=h->nm.getD cap=m->l<=h->h<=m->m<=cap->(nm.isSome=true->nh.isSome=true)->(ex'=true->m=h) ->
    ∃ u,(Instr.sliceAt t (.slice (some a) n cap) vl vh vm).run P w=.ok u w/\Rv E w (.lst (h - l) ((cs.drop (l*i.size)).take ((h - l)*i.size)) ex') u:=fun l h m ex' el eh em k1 k2 k3 k4 k5=>by
   have hb:=Ue (P:=P) (w:=w) (isS:=true) kl kh km el eh em k1 k2 k3 k4
   rw[hat,hsl _ _ _ _ _ _ hb]
   by_cases hml:m=l
   ·have hlh:h=l:=by omega
    exact⟨_,rfl,a,m - l,by simp[hml],by omega,fun _=>by omega,by simp[hlh],by simp[hlh,V3]⟩
   ·refine⟨_,rfl,a.add (l*i.size),m - l,by simp[hml],by omega,fun he=>by have:=k5 he;omega,fun hne=>?_,(h4.at _).take _⟩
    rw[Si]
    exact h3 (by rintro rfl;simp at hne)
  cases nm with
  | none=>
   simp only at hr
   cases hc:((nl.getD 0).ble (nh.getD n)&&(nh.getD n).ble n&&(nh.getD n*i.size).ble cs.length)
   ·simp[hc] at hr
   ·simp only[hc,Qi,Qa] at hr;subst hr
    simp only[Qd] at hc
    have c1:=Qk hc.1.1
    have c2:=Qk hc.1.2
    exact fin _ _ cap _ rfl rfl rfl c1 (by omega) (Qw _) (by simp) fun he=>by
     simp only[Qd] at he
     have:=Qj he.2
     have:=h2 he.1
     omega
  | some m=>
   simp only at hr
   cases hc:((nl.getD 0).ble (nh.getD n)&&(nh.getD n).ble m&&m.ble n&&(nh.getD n*i.size).ble cs.length&&nh.isSome)
   ·simp[hc] at hr
   ·simp only[hc,Qi,Qa] at hr;subst hr
    simp only[Qd] at hc
    have c1:=Qk hc.1.1.1.1
    have c2:=Qk hc.1.1.1.2
    have c3:=Qk hc.1.1.2
    exact fin _ _ m _ rfl rfl rfl c1 c2 (by omega) (fun _=>hc.2) fun he=>(Qj he).symm
 ·
  rename_i id off n s cap lw
  obtain⟨b,c,e',mm,h0,rfl,h1,h2,h3,h4,h5⟩:=hx
  cases hc0:(s.beq i.size&&(nl.getD 0).ble (nh.getD n)&&hiOk (nh.getD n) n cap lw)
  ·simp[hc0] at hr
  ·simp only[hc0,Qi] at hr
   simp only[Qd] at hc0
   have es:=Qj hc0.1.1
   have c1:=Qk hc0.1.2
   have c2:nh.getD n<=c:=hiOk_le hc0.2 h1 h2 h5
   subst es
   have fin:∀(m:Nat) (cap':Option Nat) (lw':Nat),lw'<=m - nl.getD 0->nm.getD c=m->nh.getD n<=m->m<=c->(nm.isSome=true->nh.isSome=true)->(nl.getD 0=0\/nl.getD 0 < m)->(∀ k,cap'=some k->m - nl.getD 0=k) ->
     ∃ u,(Instr.sliceAt t (.slice (some ⟨b,off,none⟩) n c) vl vh vm).run P w=.ok u w/\Rv E w (.own id (off+nl.getD 0*i.size) (nh.getD n - nl.getD 0) i.size cap' lw') u:=fun m cap' lw' k0 em k2 k3 k4 k5 k6=>by
    have hb:=Ue (P:=P) (w:=w) (isS:=true) kl kh km rfl rfl em c1 k2 k3 k4
    rw[hat,hsl _ _ _ _ _ _ hb]
    have hmul:off+nl.getD 0*i.size+(m - nl.getD 0)*i.size<=mm:=by
     have:nl.getD 0*i.size+(m - nl.getD 0)*i.size=m*i.size:=by rw[<-Xv];congr 1;omega
     have:m*i.size<=c*i.size:=XL _ k3
     omega
    refine⟨_,rfl,b,m - nl.getD 0,e',mm,h0,?_,by omega,k6,h3,hmul,k0⟩
    by_cases hml:m=nl.getD 0
    ·have:nl.getD 0=0:=by omega
     simp[hml,this]
    ·simp[hml,Wb]
   have emp:∀(ex:Bool),nm=none->nh.getD n=nl.getD 0->(ex=true->c=nl.getD 0)->r=.lst 0 [] ex ->
     ∃ u,(Instr.sliceAt t (.slice (some ⟨b,off,none⟩) n c) vl vh vm).run P w=.ok u w/\Rv E w r u:=fun ex em k1 k2 k3=>by
    subst em;subst k3
    have hb:=Ue (P:=P) (w:=w) (isS:=true) (m:=c) kl kh km rfl rfl rfl c1 (by omega) (Qw _) (by simp)
    rw[hat,hsl _ _ _ _ _ _ hb]
    by_cases hml:c=nl.getD 0
    ·exact⟨_,rfl,⟨b,off,none⟩,c - nl.getD 0,by rw[Qm hml,k1,ZJ],by omega,fun _=>by omega,by simp,trivial⟩
    ·exact⟨_,rfl,(⟨b,off,none⟩:Addr).add (nl.getD 0*i.size),c - nl.getD 0,by rw[Qe hml,k1,ZJ];rfl,by omega,fun he=>absurd (k2 he) hml,by simp,trivial⟩
   cases nm with
   | none=>
    cases cap with
    | none=>
     simp only at hr
     cases hc:((nl.getD 0).beq 0||(nl.getD 0+1).ble (nh.getD n))
     ·simp only[hc,Qq,Qa] at hr
      have:nh.getD n=nl.getD 0:=by
       have:=(XM.1 hc).2
       have:¬(nl.getD 0+1<=nh.getD n):=fun h=>by rw[Qo h] at this;simp at this
       omega
      exact emp false rfl this (by simp) hr.symm
     ·simp only[hc,Qi,Qa] at hr;subst hr
      refine fin c none _ (by omega) rfl (by omega) (Qw _) (by simp) ?_ (by simp)
      rcases Z1.1 hc with hc | hc
      ·exact .inl (Qj hc)
      ·have:=Qk hc;right;omega
    | some c'=>
     have:=h2 c' rfl
     subst this
     simp only at hr
     cases hc:((nl.getD 0).beq 0||(nl.getD 0+1).ble c)
     ·simp only[hc,Qq,Qa] at hr
      have:¬(nl.getD 0+1<=c):=fun h=>by
       have h2:=(XM.1 hc).2
       rw[Qo h] at h2;simp at h2
      exact emp true rfl (by omega) (fun _=>by omega) hr.symm
     ·simp only[hc,Qi,Qa] at hr;subst hr
      refine fin c (some _) 0 (by omega) rfl (by omega) (Qw _) (by simp) ?_ (by simp)
      rcases Z1.1 hc with hc | hc
      ·exact .inl (Qj hc)
      ·have:=Qk hc;right;omega
   | some m=>
    simp only at hr
    cases hc:((nh.getD n).ble m&&m.ble n&&nh.isSome&&((nl.getD 0).beq 0||(nl.getD 0+1).ble m))
    ·simp[hc] at hr
    ·simp only[hc,Qi,Qa] at hr;subst hr
     simp only[Qd] at hc
     have d1:=Qk hc.1.1.1
     have d2:=Qk hc.1.1.2
     refine fin m (some _) 0 (by omega) rfl d1 (by omega) (fun _=>hc.1.2) ?_ (by simp)
     rcases Z1.1 hc.2 with hc | hc
     ·exact .inl (Qj hc)
     ·have:=Qk hc;right;omega
theorem sliceSA_sound{t:TypeId}{x r:AV}{v:Value}{lo hi:Option AV}{vl vh:Option Value}(ht:P.underlying t=some .string)
  (hx:Rv E w x v) (hl:RvO E w lo vl) (hh:RvO E w hi vh) (hr:sliceSA x lo hi=some r):
  ∃ u,(Instr.sliceAt t v vl vh none).run P w=.ok u w/\Rv E w r u:=by
 unfold sliceSA at hr
 cases hbl:JC lo with
 | none=>simp[hbl] at hr
 | some nl=>
 cases hbh:JC hi with
 | none=>simp[hbl,hbh] at hr
 | some nh=>
 simp only[hbl,hbh,Qg] at hr
 have kl:=KR hl hbl
 have kh:=KR hh hbh
 cases x<;>simp only[sliceSN,reduceCtorEq] at hr
 rename_i l
 obtain⟨s,rfl,hs⟩:=hx
 have hlen:l.length=s.size:=by rw[<-hs];simp
 cases hc:((nl.getD 0).ble (nh.getD l.length)&&(nh.getD l.length).ble l.length)
 ·simp[hc] at hr
 ·simp only[hc,Qi,Qa] at hr;subst hr
  simp only[Qd] at hc
  have c1:=Qk hc.1
  have c2:=Qk hc.2
  rw[hlen] at c1 c2
  have hb:=Ue (P:=P) (w:=w) (isS:=false) (len:=s.size) (cap:=s.size) (mx:=none) (nm:=none) kl kh (.inl ⟨rfl,rfl⟩) rfl rfl rfl c1 c2 (Qw _) (by simp)
  refine⟨.string (s.extract (nl.getD 0) (nh.getD s.size)),by simp[Instr.sliceAt,Instr.slice,underlying,ht,hb],_,rfl,?_⟩
  rw[hlen,<-hs,<-List.map_drop,<-List.map_take]
  congr 1
  simp[List.extract_eq_take_drop]
end
end Go.AM
namespace Go.AM
section
variable {E:Env} {st:St} {w:World} {P:Program}
theorem bslice_sound{t e:TypeId}{i:TypeInfo}{n:Nat}{z:Value}{zs r:List AV}{ps:List (Nat × Nat × AV)}{l:Array (Nat × Value)}
  (ht:P.underlying t=some (.slice e)) (hi:P.info? e=some i) (hz:i.zero=some z) (hn:n*i.size<=16777216)
  (hzs:∀ E w,RvL E w zs ((Array.range (n*i.size)).map ((if n*i.size=0 then #[] else z.cells)[· % (if n*i.size=0 then #[] else z.cells).size]!)).toList)
  (hp:RvParts E w ps l.toList (fun k=>some (k*i.size,i.size))) (hr:VN zs ps=some r) (hs:Sat E st w):
  ∃ w' E',(Instr.buildSlice t n l).run P w=.ok (.slice (some ⟨w.heap.size,0,none⟩) n n) w'/\Ext E w E' w'/\Sat E' st w'/\Rv E' w' (.lst n r true) (.slice (some ⟨w.heap.size,0,none⟩) n n):=by
 obtain⟨out,h1,h2⟩:=Ki ps l.toList zs r _ hp (hzs E w) hr
 obtain⟨k1,k2⟩:=hs.allocFz (.cells out e)
 refine⟨_,_,?_,k2,k1,⟨w.heap.size,0,none⟩,n,rfl,Qw _,fun _=>rfl,fun _=>Or.inl rfl,?_⟩
 ·have hgt:¬(n*i.size > 2 ^ 24):=by omega
  simp only[Instr.buildSlice,Sem.run_bind,underlying,run_program,Result.andThen,ht,Sem.run_pure,VW hi,hgt,Xz,Sem.run_ite]
  by_cases h0:n*i.size=0
  ·simp only[h0,Xj] at h1 ⊢
   simp only[Sem.run_pure,h1]
   simp[newRow]
  ·simp only[h0,Xz] at h1 ⊢
   simp only[Wc hi hz]
   simp[h1,newRow]
 ·exact V3.new (vs:=out) (RvL.mono k2 _ _ h2) (Vz w _)
theorem bsliceO_sound{t e:TypeId}{i:TypeInfo}{n:Nat}{z:Value}{zs r:List AV}{ps:List (Nat × Nat × AV)}{l:Array (Nat × Value)}
  (ht:P.underlying t=some (.slice e)) (hi:P.info? e=some i) (hz:i.zero=some z) (hn:n*i.size<=16777216)
  (hzs:∀ E w,RvL E w zs ((Array.range (n*i.size)).map ((if n*i.size=0 then #[] else z.cells)[· % (if n*i.size=0 then #[] else z.cells).size]!)).toList)
  (hp:RvParts E w ps l.toList (fun k=>some (k*i.size,i.size))) (hr:VN zs ps=some r) (hlr:r.length=n*i.size) (hs:Sat E st w):
  ∃ w' E',(Instr.buildSlice t n l).run P w=.ok (.slice (some ⟨w.heap.size,0,none⟩) n n) w'/\Ext E w E' w'/\Sat E' ((st.new (.row r)).tag st.next e) w'/\Rv E' w' (.own st.next 0 n i.size (some n) 0) (.slice (some ⟨w.heap.size,0,none⟩) n n):=by
 obtain⟨out,h1,h2⟩:=Ki ps l.toList zs r _ hp (hzs E w) hr
 have hol:=h2.length
 simp only[Xm] at hol
 obtain⟨k1,k2⟩:=hs.alloc (.cells out e) (.row r) fun E' hx=>⟨⟨out,e,(0,0),Vz w _,by omega,.inl rfl⟩,V3.new (vs:=out) (RvL.mono hx _ _ h2) (Vz w _)⟩
 refine⟨_,_,?_,k2,k1.tag (b:=w.heap.size) (by simp[Env.link]) (Yn w _ e (0,0)),w.heap.size,n,e,_,by simp[Env.link],rfl,Qw _,fun k hk=>by injection hk,Yn w _ e (0,0),by omega,X3 _⟩
 have hgt:¬(n*i.size > 2 ^ 24):=by omega
 simp only[Instr.buildSlice,Sem.run_bind,underlying,run_program,Result.andThen,ht,Sem.run_pure,VW hi,hgt,Xz,Sem.run_ite]
 by_cases h0:n*i.size=0
 ·simp only[h0,Xj] at h1 ⊢
  simp only[Sem.run_pure,h1]
  simp[newRow]
 ·simp only[h0,Xz] at h1 ⊢
  simp only[Wc hi hz]
  simp[h1,newRow]
theorem JQ{a:Addr}{vs:List Value}{w w2:World}(hh:w2.heap=w.heap)(h:∀(j:Nat) v,vs[j]?=some v->w.cell? (a.add (0+j))=some v):
  (loadCells a vs.length).run P w2=.ok vs.toArray w2:=
 run_loadCells_list (P:=P) w2 a vs fun j v hj=>by
  have:=h j v hj
  have e:w2.cell? (a.add j)=w.cell? (a.add j):=by unfold World.cell?;rw[hh]
  rw[e];simpa using this
theorem row_at{id b off:Nat}{cs:List AV}(hs:Sat E st w)(hb:E.β id=some b)(hg:st.get id=some (.row cs)\/st.get id=some (.fro cs)):V3 E w ⟨b,off,none⟩ 0 (cs.drop off):=by
 have e:(⟨b,off,none⟩:Addr)=(⟨b,0,none⟩:Addr).add off:=by rw[Wb];simp
 rw[e]
 rcases hg with hg | hg
 ·exact(hs.obj id _ b hg hb).2.at off
 ·exact(hs.obj id _ b hg hb).2.at off
theorem S8{sz n:Nat}{x:AV}{ys:List AV}{v:Value}(hs:Sat E st w)(hx:Rv E w x v)(hc:Wd sz st x=some (n,ys)):
  ∃ vs:List Value,(∀ w2,(Builtin.lenOf v).run P w2=.ok n w2)/\(∀ w2:World,w2.heap=w.heap->(Builtin.firstCells sz n v).run P w2=.ok vs.toArray w2)/\RvL E w ys vs/\vs.length=n*sz:=by
 have mem:∀(a:Addr) (c:Nat) (ds:List AV),v=.slice (some a) n c->V3 E w a 0 ds->ds.length=n*sz->ds=ys ->
   ∃ vs:List Value,(∀ w2,(Builtin.lenOf v).run P w2=.ok n w2)/\(∀ w2:World,w2.heap=w.heap->(Builtin.firstCells sz n v).run P w2=.ok vs.toArray w2)/\RvL E w ys vs/\vs.length=n*sz:=fun a c ds hv hm hl he=>by
  subst hv;subst he
  obtain⟨vs,h1,h2⟩:=hm.vals
  have hlen:vs.length=n*sz:=by rw[<-h1.length];exact hl
  refine⟨vs,fun w2=>rfl,fun w2 hh=>?_,h1,hlen⟩
  have:=JQ (P:=P) hh h2
  rw[hlen] at this
  simpa [Builtin.firstCells] using this
 cases x<;>simp only[Wd,reduceCtorEq] at hc
 ·obtain⟨s,rfl,hl⟩:=hx
  rename_i l
  cases h1:sz.beq 1
  ·simp[h1] at hc
  ·simp only[h1,Qi,Qa,Q2] at hc
   obtain⟨rfl,rfl⟩:=hc
   have hsz:=Qj h1
   have hlen:l.length=s.size:=by rw[<-hl];simp
   refine⟨s.data.toList.map fun b=>.int .u8 b.toNat,fun w2=>by simp[Builtin.lenOf,hlen],fun w2 _=>?_,?_,by simp[hsz,hlen]⟩
   ·have:s.extract 0 l.length=s:=by rw[hlen];apply ByteArray.ext;simp
    simp only[Builtin.firstCells,this,Sem.run_pure]
    congr 1
    apply XN;simp
   ·rw[<-hl,Xq]
    exact RvL.of_get (by simp) fun j c v h1 h2=>by
     simp only[Q5] at h1 h2
     cases hj:s.data.toList[j]? with
     | none=>simp[hj] at h1
     | some b=>
      simp only[hj,Ql,Qa,Function.comp] at h1 h2
      subst h1;subst h2;rfl
 ·have hx:v=.slice none 0 0:=hx
  subst hx
  simp only[Qa,Q2] at hc
  obtain⟨rfl,rfl⟩:=hc
  exact⟨[],fun w2=>rfl,fun w2 _=>by simp[Builtin.firstCells],rfl,by simp⟩
 ·rename_i m cs ex
  obtain⟨a,cap,rfl,h1,h2,h3,h4⟩:=hx
  cases hb:(m*sz).ble cs.length
  ·simp[hb] at hc
  ·simp only[hb,Qi,Qa,Q2] at hc
   obtain⟨rfl,rfl⟩:=hc
   have:=Qk hb
   exact mem a cap _ rfl (h4.take _) (by simp;omega) rfl
 ·rename_i id off m s cap lo
  obtain⟨b,c,e',mm,h0,rfl,h1,h2,h3,h4⟩:=hx
  cases ho:st.get id with
  | none=>simp[ho] at hc
  | some o=>
   have key:∀ cs,st.get id=some (.row cs)\/st.get id=some (.fro cs)->(bif s.beq sz&&(off+m*sz).ble cs.length then some (m,(cs.drop off).take (m*sz)) else none)=some (n,ys) ->
     ∃ vs:List Value,(∀ w2,(Builtin.lenOf (.slice (some ⟨b,off,none⟩) m c)).run P w2=.ok n w2)/\(∀ w2:World,w2.heap=w.heap->(Builtin.firstCells sz n (.slice (some ⟨b,off,none⟩) m c)).run P w2=.ok vs.toArray w2)/\RvL E w ys vs/\vs.length=n*sz:=fun cs hg hc=>by
    cases hb:s.beq sz&&(off+m*sz).ble cs.length
    ·simp[hb] at hc
    ·simp only[hb,Qi,Qa,Q2] at hc
     obtain⟨rfl,rfl⟩:=hc
     simp only[Qd] at hb
     have:=Qk hb.2
     exact mem ⟨b,off,none⟩ c _ rfl ((row_at hs h0 hg).take _) (by simp;omega) rfl
   cases o with
   | loop s=>simp[ho] at hc
   | row cs=>simp only[ho] at hc;exact key cs (.inl ho) hc
   | fro cs=>simp only[ho] at hc;exact key cs (.inr ho) hc
   | map es=>simp[ho] at hc
   | fmap es=>simp[ho] at hc
   | iter m ks=>simp[ho] at hc
end
end Go.AM
namespace Go.AM
section
variable {E:Env} {st:St} {w:World} {P:Program}
def Kt:TypeDesc->Prop:=fun d=>(∃ e,d=.slice e)\/d=.string
set_option maxHeartbeats 1000000 in
theorem append_fit{ts:Array TypeId}{t u ty e:TypeId}{du:TypeDesc}{i:TypeInfo}{base:Option Addr}{m n c:Nat}{vy:Value}{new:Array Value}{w':World}
  (ht0:ts[0]?=some t) (ht:P.underlying t=some (.slice e)) (hi:P.info? e=some i) (hu0:ts[1]?=some u) (hu:P.underlying u=some du) (hni:Kt du)
  (hl:∀ w2,(Builtin.lenOf vy).run P w2=.ok n w2) (hf:(Builtin.firstCells i.size n vy).run P w=.ok new w) (hfit:m+n<=c)
  (hst:(match base with | some a=>storeCells (a.add (m*i.size)) new.toList | none=>pure ():Sem Unit).run P w=.ok () w'):
  (Builtin.append_ ts ty #[.slice base m c,vy]).run P w=.ok (.slice base (m+n) c) w':=by
 rcases hni with⟨e0,rfl⟩ | rfl<;>
  (cases base with
   | none=>
    simp only[Sem.run_pure,Result.ok.injEq,true_and] at hst;subst hst
    simp[Builtin.append_,ht0,hu0,underlying,ht,hu,sizeOf,typeInfo,hi,hl,hf,hfit]
   | some a=>
    simp only at hst
    simp[Builtin.append_,ht0,hu0,underlying,ht,hu,sizeOf,typeInfo,hi,hl,hf,hfit,hst])
set_option maxHeartbeats 1000000 in
theorem append_grow{ts:Array TypeId}{t u ty e:TypeId}{du:TypeDesc}{i:TypeInfo}{z:Value}{base:Option Addr}{m n c:Nat}{vy:Value}{old new:Array Value}
  (ht0:ts[0]?=some t) (ht:P.underlying t=some (.slice e)) (hi:P.info? e=some i) (hz:i.zero=some z) (hu0:ts[1]?=some u) (hu:P.underlying u=some du) (hni:Kt du)
  (hl:∀ w2,(Builtin.lenOf vy).run P w2=.ok n w2) (hf:(Builtin.firstCells i.size n vy).run P w.drew=.ok new w.drew) (hfo:(Builtin.firstCells i.size m (.slice base m c)).run P w.drew=.ok old w.drew)
  (hfit:¬(m+n<=c)) (h63:((m+n:Nat):Int)<=9223372036854775807) (h48:Builtin.nextslicecap (m+n) c*i.bytes<=281474976710656):
  (Builtin.append_ ts ty #[.slice base m c,vy]).run P w=.ok (.slice (some ⟨w.heap.size,0,none⟩) (m+n) (grownCap w (m+n) c e))
   (w.drew.alloc (.cells (old++new++Builtin.zeroCells z.cells (grownCap w (m+n) c e - (m+n))) e)):=by
 have h63':¬(9223372036854775807 < ((m:Int)+(n:Int))):=by omega
 have h48':¬(281474976710656 < Builtin.nextslicecap (m+n) c*i.bytes):=by omega
 have e63:IntKind.i64.max=9223372036854775807:=by decide
 have hf':(Builtin.firstCells i.size n vy).run P { w with drawn:=w.drawn+1 }=.ok new { w with drawn:=w.drawn+1 }:=hf
 have hfo':(Builtin.firstCells i.size m (.slice base m c)).run P { w with drawn:=w.drawn+1 }=.ok old { w with drawn:=w.drawn+1 }:=hfo
 rcases hni with⟨e0,rfl⟩ | rfl<;>
  simp[Builtin.append_,ht0,hu0,underlying,ht,hu,sizeOf,typeInfo,zeroValue,hi,hz,hl,hf,hfo,hfit,h63',h48',e63,Question.forced,newRow,grownCap]
theorem Sat.congr{E:Env}{st st2:St}{w:World}(h:Sat E st w)(hg:∀ i,st2.get i=st.get i)(hn:st2.next=st.next)(hbt:st2.bt=st.bt):Sat E st2 w:=
 ⟨fun i b hb=>by rw[hn];exact h.dom i b hb,h.fz,fun i o b h1 h2=>h.obj i o b (by rw[<-hg];exact h1) h2,
  fun i i' o o' b h1 h2=>h.sep i i' o o' b (by rw[<-hg];exact h1) (by rw[<-hg];exact h2),fun i o b h1=>h.lv i o b (by rw[<-hg];exact h1),fun i hi=>⟨(h.rs i hi).1,by rw[hn];exact(h.rs i hi).2⟩,h.dz,fun id t ht=>h.bt id t (by rw[<-hbt];exact ht)⟩
theorem Sat.rename{E:Env}{st:St}{w:World}(h:Sat E st w){id b:Nat}{o:AO}(hg:st.get id=some o)(hl:o.live=true)(hb:E.β id=some b):
  Sat (E.link st.next b) ((st.del id).new o) w/\Ext E w (E.link st.next b) w:=by
 have hβ:E.β st.next=none:=by
  cases hc:E.β st.next with
  | none=>rfl
  | some c=>have:=(h.dom _ _ hc).1;omega
 have hx:Ext E w (E.link st.next b) w:=⟨⟨fun i c hc=>by
  show (if i=st.next then _ else _)=_
  rw[Qe (by rintro rfl;rw[hβ] at hc;simp at hc)];exact hc,fun _ h=>h,fun _ _=>rfl,Qw _,fun _ _ h=>h,rfl,rfl,rfl,fun _ _=>rfl⟩,fun _ h=>h,fun _ _ h=>h⟩
 have hlink:∀ i c,(E.link st.next b).β i=some c->(i=st.next/\c=b)\/(i≠st.next/\E.β i=some c):=fun i c hc=>by
  have:(if i=st.next then some b else E.β i)=some c:=hc
  by_cases hi:i=st.next
  ·rw[Qm hi] at this;injection this with this;exact .inl ⟨hi,this.symm⟩
  ·rw[Qe hi] at this;exact .inr ⟨hi,this⟩
 have hget:∀ i o',((st.del id).new o).get i=some o'->(i=st.next/\o'=o)\/(i≠st.next/\i≠id/\st.get i=some o'):=fun i o' ho=>by
  rw[St.get_new] at ho
  by_cases hi:i=st.next
  ·rw[Qm (by simpa using hi)] at ho;injection ho with ho;exact .inl ⟨hi,ho.symm⟩
  ·rw[Qe (by simpa using hi),St.get_del] at ho
   by_cases hi':i=id
   ·rw[Qm hi'] at ho;simp at ho
   ·rw[Qe hi'] at ho;exact .inr ⟨hi,hi',ho⟩
 have hobj:=h.obj id o b hg hb
 refine⟨⟨fun i c hc=>?_,h.fz,fun i o' c h1 h2=>?_,fun i i' o1 o2 c h1 h2 l1 l2 b1 b2=>?_,fun i o' c h1 h2 h3=>?_,fun i hi=>⟨by
  show (if i=st.next then _ else _)=_
  rw[Qe (by rintro rfl;have:=(h.rs _ hi).2;omega)];exact(h.rs i hi).1,by have:=(h.rs i hi).2;simp;omega⟩,h.dz,JW.mono h.bt hx.toExt0 rfl⟩,hx⟩
 ·rcases hlink i c hc with⟨rfl,rfl⟩|⟨_,hc⟩
  ·exact⟨by simp,(h.dom id _ hb).2⟩
  ·have:=h.dom i c hc;exact⟨by simp;omega,this.2⟩
 ·rcases hget i o' h1 with⟨rfl,rfl⟩|⟨n1,n2,h1⟩<;>rcases hlink _ c h2 with⟨e1,e2⟩|⟨e1,h2⟩
  ·subst e2;exact Wv.mono hx rfl hobj
  ·exact absurd rfl e1
  ·exact absurd e1 n1
  ·exact Wv.mono hx rfl (h.obj i o' c h1 h2)
 ·rcases hget i o1 h1 with⟨e1,f1⟩|⟨n1,m1,h1⟩<;>rcases hget i' o2 h2 with⟨e2,f2⟩|⟨n2,m2,h2⟩
  ·rw[e1,e2]
  ·rcases hlink i c b1 with⟨_,e3⟩|⟨n3,_⟩
   ·rcases hlink i' c b2 with⟨e4,_⟩|⟨_,d2⟩
    ·exact absurd e4 n2
    ·subst e3;exact absurd (h.sep i' id o2 o _ h2 hg l2 hl d2 hb) m2
   ·exact absurd e1 n3
  ·rcases hlink i' c b2 with⟨_,e3⟩|⟨n3,_⟩
   ·rcases hlink i c b1 with⟨e4,_⟩|⟨_,d1⟩
    ·exact absurd e4 n1
    ·subst e3;exact absurd (h.sep i id o1 o _ h1 hg l1 hl d1 hb) m1
   ·exact absurd e2 n3
  ·rcases hlink i c b1 with⟨e3,_⟩|⟨_,b1⟩
   ·exact absurd e3 n1
   ·rcases hlink i' c b2 with⟨e4,_⟩|⟨_,b2⟩
    ·exact absurd e4 n2
    ·exact h.sep i i' o1 o2 c h1 h2 l1 l2 b1 b2
 ·rcases hget i o' h1 with⟨e1,f1⟩|⟨n1,m1,h1⟩<;>rcases hlink i c h3 with⟨e2,e3⟩|⟨n2,h3⟩
  ·subst e3;exact h.lv id o c hg hl hb
  ·exact absurd e1 n2
  ·exact absurd e2 n1
  ·exact h.lv i o' c h1 h2 h3
def TagR(E':Env)(w':World)(e:TypeId)(w:World)(vx:Value)(r:AV):Prop:=∀ id off n sz cap lo,r=.own id off n sz cap lo->∀ b,E'.β id=some b ->
 ∃ t m,w'.shape? b=some (t,m)/\(t=e\/∃ (a:Addr) (n0 c0 m0:Nat),vx=.slice (some a) n0 c0/\w.shape? a.block=some (t,m0))
def FitRun(P:Program)(w:World)(sz n:Nat)(vs:List Value)(S:Value->Sem Value):Prop:=∀(base:Option Addr) (m c:Nat) (w':World),m+n<=c ->
 (match base with | some a=>storeCells (a.add (m*sz)) vs | none=>pure ():Sem Unit).run P w=.ok () w'->(S (.slice base m c)).run P w=.ok (.slice base (m+n) c) w'
def GrowRun(P:Program)(w:World)(i:TypeInfo)(z:Value)(e:TypeId)(n:Nat)(vs:List Value)(S:Value->Sem Value):Prop:=∀(base:Option Addr) (m c:Nat) (ovs:List Value),¬(m+n<=c) ->
 ((m+n:Nat):Int)<=9223372036854775807->Builtin.nextslicecap (m+n) c*i.bytes<=281474976710656->(Builtin.firstCells i.size m (.slice base m c)).run P w.drew=.ok ovs.toArray w.drew ->
 (S (.slice base m c)).run P w=.ok (.slice (some ⟨w.heap.size,0,none⟩) (m+n) (grownCap w (m+n) c e)) (w.drew.alloc (.cells (ovs.toArray++vs.toArray++Builtin.zeroCells z.cells (grownCap w (m+n) c e - (m+n))) e))
theorem UP{e:TypeId}{i:TypeInfo}{z:Value}{base:Option Addr}{m n c:Nat}{os ys:List AV}{ovs vs:List Value}{S:Value->Sem Value}
  (hzs:z.cells.size=i.size) (hs:Sat E st w) (hG:GrowRun P w i z e n vs S)
  (hfo:∀ w2:World,w2.heap=w.heap->(Builtin.firstCells i.size m (.slice base m c)).run P w2=.ok ovs.toArray w2)
  (ho:RvL E w os ovs) (hol:ovs.length=m*i.size) (hy:RvL E w ys vs) (hyl:vs.length=n*i.size)
  (hfit:¬(m+n<=c)) (h48:(m+n)*i.bytes<=140737488355328) (h63:m+n<=140737488355328):
  ∃ q w' E',(S (.slice base m c)).run P w=.ok q w'/\Ext E w E' w'/\Sat E' (st.new (.row (os++ys))) w'/\Rv E' w' (.own st.next 0 (m+n) i.size none (m+n)) q/\TagR E' w' e w (.slice base m c) (.own st.next 0 (m+n) i.size none (m+n)):=by
 obtain⟨hs1,hx1⟩:=hs.drew
 have hcap:=grownCap_ge w (m+n) c e
 have harr:(ovs.toArray++vs.toArray++Builtin.zeroCells z.cells (grownCap w (m+n) c e - (m+n))).size=grownCap w (m+n) c e*i.size:=by
  simp only[Array.size_append,size_zeroCells,List.size_toArray,hol,hyl,hzs]
  rw[<-Xv,<-Xv];congr 1;omega
 have hrun:=hG base m c ovs hfit (by omega) (growslice_fits (by omega) h48) (hfo w.drew rfl)
 have hbig:RvL E w (os++ys) (ovs++vs):=ho.append hy
 obtain⟨hs2,hx2⟩:=hs1.alloc (.cells (ovs.toArray++vs.toArray++Builtin.zeroCells z.cells (grownCap w (m+n) c e - (m+n))) e) (.row (os++ys)) fun E' hx'=>
  ⟨⟨_,e,(0,0),Vz w.drew _,by
   rw[harr,hbig.length,QJ,hol,hyl,<-Xv]
   exact XL _ hcap,.inl rfl⟩,
  V3.new_prefix (vs:=ovs++vs) (RvL.mono (hx1.trans hx') _ _ hbig) (Vz w.drew _) fun j v hj=>by
   have e0:ovs.toArray++vs.toArray=(ovs++vs).toArray:=by simp
   rw[e0]
   have hlt:=(Qt.1 hj).1
   rw[Zg (by simpa using hlt)]
   simpa using hj⟩
 refine⟨_,_,_,hrun,hx1.trans hx2,hs2,⟨w.heap.size,grownCap w (m+n) c e,e,_,by simp[Env.link],rfl,hcap,by simp,Yn w.drew _ e (0,0),?_,hcap⟩,fun id off n' sz cap lo heq b hb=>?_⟩
 ·rw[harr];simp
 ·injection heq with h1 _ _ _ _ _
  subst h1
  have:some w.drew.heap.size=some b:=by rw[<-hb];simp[Env.link]
  injection this with this
  subst this
  exact⟨e,_,Yn w.drew _ e (0,0),.inl rfl⟩
theorem appendA_core{e:TypeId}{i:TypeInfo}{z:Value}{x r:AV}{n:Nat}{vx:Value}{ys:List AV}{vs:List Value}{st':St}{S:Value->Sem Value}
  (hzs:z.cells.size=i.size) (hs:Sat E st w) (hx:Rv E w x vx) (hF:FitRun P w i.size n vs S) (hG:GrowRun P w i z e n vs S)
  (hy:RvL E w ys vs) (hyl:vs.length=n*i.size) (hr:VX i.bytes i.size st x n ys=some (r,st')):
  ∃ q w' E',(S vx).run P w=.ok q w'/\Ext E w E' w'/\Sat E' st' w'/\Rv E' w' r q/\TagR E' w' e w vx r:=by
 unfold VX at hr
 cases hn0:n.beq 0
 ·
  have hn:0 < n:=by
   rcases Nat.eq_zero_or_pos n with h | h
   ·subst h;simp at hn0
   ·exact h
  simp only[hn0,Qq] at hr
  cases x<;>try (simp only[reduceCtorEq] at hr;done)
  ·
   have hx:vx=.slice none 0 0:=hx
   subst hx
   cases hc:((n*i.bytes).ble 140737488355328&&n.ble 140737488355328)
   ·simp[hc] at hr
   ·simp only[hc,Qi,Qa,Q2] at hr
    obtain⟨rfl,rfl⟩:=hr
    simp only[Qd] at hc
    have c1:=Qk hc.1
    have c2:=Qk hc.2
    have:=UP (E:=E) (w:=w) (st:=st) (base:=none) (m:=0) (c:=0) (os:=[]) (ovs:=[]) hzs hs hG (fun w2 _=>by simp[Builtin.firstCells]) rfl (by simp) hy hyl (by omega) (by simpa using c1) (by omega)
    simpa using this
  ·
   rename_i m cs ex
   cases ex with
   | false=>simp at hr
   | true=>
    simp only at hr
    obtain⟨a,cap,rfl,h1,h2,h3,h4⟩:=hx
    have:=h2 rfl
    subst this
    cases hc:(((cap+n)*i.bytes).ble 140737488355328&&(cap+n).ble 140737488355328&&(cap*i.size).ble cs.length)
    ·simp[hc] at hr
    ·simp only[hc,Qi,Qa,Q2] at hr
     obtain⟨rfl,rfl⟩:=hr
     simp only[Qd] at hc
     have c1:=Qk hc.1.1
     have c2:=Qk hc.1.2
     have c3:=Qk hc.2
     obtain⟨ovs,k1,k2⟩:=(h4.take (cap*i.size)).vals
     have hol:ovs.length=cap*i.size:=by rw[<-k1.length];simp;omega
     exact UP (E:=E) (w:=w) (st:=st) (base:=some a) (m:=cap) (c:=cap) hzs hs hG (fun w2 hh=>by
      have:=JQ (P:=P) hh k2
      rw[hol] at this
      simpa [Builtin.firstCells] using this) k1 hol hy hyl (by omega) c1 c2
  ·
   rename_i id off m s cap lo
   obtain⟨b,c,e',mm,h0,rfl,h1,h2,h3,h4,h5⟩:=hx
   cases ho:st.get id with
   | none=>simp[ho] at hr
   | some o=>
    cases o with
    | loop s=>simp[ho] at hr
    | fro cs=>simp[ho] at hr
    | map es=>simp[ho] at hr
    | fmap es=>simp[ho] at hr
    | iter m ks=>simp[ho] at hr
    | row cs=>
     simp only[ho] at hr
     cases hc:(s.beq i.size&&((m+n)*i.bytes).ble 140737488355328&&(m+n).ble 140737488355328&&(off+m*i.size).ble cs.length&&ys.all AV.one)
     ·simp[hc] at hr
     ·simp only[hc,Qi] at hr
      simp only[Qd] at hc
      have es:=Qj hc.1.1.1.1
      have c1:=Qk hc.1.1.1.2
      have c2:=Qk hc.1.1.2
      have c3:=Qk hc.1.2
      have c4:=hc.2
      subst es
      have hone:=hy.one c4
      have hmem:=(row_at (off:=off) hs h0 (.inl ho)).take (m*i.size)
      obtain⟨ovs,k1,k2⟩:=hmem.vals
      have hol:ovs.length=m*i.size:=by rw[<-k1.length];simp;omega
      have hfo:∀ w2:World,w2.heap=w.heap->(Builtin.firstCells i.size m (.slice (some ⟨b,off,none⟩) m c)).run P w2=.ok ovs.toArray w2:=fun w2 hh=>by
       have:=JQ (P:=P) hh k2
       rw[hol] at this
       simpa [Builtin.firstCells] using this
      have hylen:ys.length=n*i.size:=by rw[hy.length];exact hyl
      have grow:¬(m+n<=c)->r=.own st.next 0 (m+n) i.size none (m+n)->st'=st.new (.row ((cs.drop off).take (m*i.size)++ys)) ->
        ∃ q w' E',(S (.slice (some ⟨b,off,none⟩) m c)).run P w=.ok q w'/\Ext E w E' w'/\Sat E' st' w'/\Rv E' w' r q/\TagR E' w' e w (.slice (some ⟨b,off,none⟩) m c) r:=fun hnf e1 e2=>by
       subst e1;subst e2
       exact UP (E:=E) (w:=w) (st:=st) hzs hs hG hfo k1 hol hy hyl hnf c1 c2
      have place:m+n<=c->off+(m+n)*i.size<=cs.length->r=.own id off (m+n) i.size cap lo->st'=st.put id (.row (setCells cs (off+m*i.size) ys)) ->
        ∃ q w' E',(S (.slice (some ⟨b,off,none⟩) m c)).run P w=.ok q w'/\Ext E w E' w'/\Sat E' st' w'/\Rv E' w' r q/\TagR E' w' e w (.slice (some ⟨b,off,none⟩) m c) r:=fun hfit hroom e1 e2=>by
       subst e1;subst e2
       rw[Xv] at hroom
       obtain⟨w',r1,r2,r3⟩:=write_row (P:=P) (off:=off+m*i.size) hs ho h0 hy (by omega) hone
       exact⟨_,w',E,hF _ _ _ _ hfit (by simpa [Wb] using r1),r3,r2,⟨b,c,e',mm,h0,rfl,hfit,h2,r3.shape _ _ h3,h4,h5⟩,fun id' off' n' sz' cap' lo' heq b' hb'=>by
        injection heq with g1 _ _ _ _ _
        subst g1
        rw[h0] at hb';injection hb' with hb';subst hb'
        exact⟨e',mm,r3.shape _ _ h3,.inr ⟨_,_,_,mm,rfl,h3⟩⟩⟩
      generalize hfits:KY (m+n) lo cap=fits at hr
      unfold KY at hfits
      have hfits1:fits=some true->m+n<=c:=fun h=>by
       subst h
       cases cap with
       | some c'=>have:=h2 c' rfl;subst this;simp only[Qa] at hfits;exact Qk hfits
       | none=>
        cases hb:(m+n).ble lo
        ·simp[hb] at hfits
        ·exact QY (Qk hb) h5
      have hfits2:fits=some false->¬(m+n<=c):=fun h hle=>by
       subst h
       cases cap with
       | some c'=>have:=h2 c' rfl;subst this;simp only[Qa] at hfits;rw[Qo hle] at hfits;simp at hfits
       | none=>cases hb:(m+n).ble lo<;>simp[hb] at hfits
      cases fits with
      | some ft=>
       cases ft with
       | true=>
        simp only at hr
        cases hroom:(off+(m+n)*i.size).ble cs.length
        ·simp[hroom] at hr
        ·simp only[hroom,Qi,Qa,Q2] at hr
         exact place (hfits1 rfl) (Qk hroom) hr.1.symm hr.2.symm
       | false=>
        simp only[Qa,Q2] at hr
        exact grow (hfits2 rfl) hr.1.symm hr.2.symm
      | none=>
       simp only at hr
       cases hend:(off.beq 0&&(m*i.size).beq cs.length)
       ·simp[hend] at hr
       ·simp only[hend,Qi,Qa,Q2] at hr
        obtain⟨rfl,rfl⟩:=hr
        simp only[Qd] at hend
        have e0:=Qj hend.1
        have e1:=Qj hend.2
        subst e0
        by_cases hfit:m+n<=c
        ·
         obtain⟨⟨cur,e2,f2,hbk,hcs,hfz⟩,hm⟩:=hs.obj id _ b ho h0
         have hshape:w.shape? b=some (e2,cur.size):=by unfold World.shape?;rw[hbk]
         rw[hshape] at h3
         injection h3 with h3
         injection h3 with h3a h3b
         subst h3a;subst h3b
         have hle:(m+n)*i.size<=c*i.size:=XL _ hfit
         rw[Xv] at hle
         obtain⟨w',cur',r1,r2,r3,r4,r5,r6,r7,r8,r9⟩:=JO (P:=P) b (m*i.size) e2 f2 vs 0 cur w hbk (hfz.imp_right And.left) (by omega) hone
         have hsh:∀ s,w.shape? b=some s->w'.shape? b=some s:=fun s h=>by
          unfold World.shape? at h ⊢;rw[hbk] at h;rw[r2];simpa [r3] using h
         obtain⟨q1,q2⟩:=Sat.write hs id b (.row cs) (.row (cs++ys)) ho rfl h0 r5 r6 hsh r7 r8 r9 rfl fun hext=>⟨⟨cur',e2,f2,r2,by
           rw[QJ,hylen,r3];omega,by rw[r3];exact hfz⟩,by
          refine V3.of_get fun j d hd=>?_
          have hcell:w'.cell? ((⟨b,0,none⟩:Addr).add (0+j))=cur'[j]?:=by
           rw[Wb];simpa using cell_of_row w' b j cur' e2 f2 r2
          rw[hcell,r4 j]
          by_cases hj:j < cs.length
          ·rw[Xk hj] at hd
           rw[Qe (by omega)]
           obtain⟨v,k3,k4⟩:=hm.get j hd
           refine⟨v,?_,Rv.mono hext _ _ k4⟩
           rw[Wb] at k3
           have:=cell_of_row w b j cur e2 f2 hbk
           simp only[Q7] at k3
           rw[this] at k3;exact k3
          ·rw[Xg (by omega)] at hd
           obtain⟨v,k3,k4⟩:=hy.get _ hd
           have hlt:=(Qt.1 k3).1
           rw[Qm (by omega)]
           refine⟨v,?_,Rv.mono hext _ _ k4⟩
           rw[<-k3];congr 1;omega⟩
         obtain⟨q3,q4⟩:=q1.rename (id:=id) (b:=b) (o:=.row (cs++ys)) (by simp) rfl h0
         refine⟨_,w',E.link st.next b,hF _ _ _ _ hfit (by simpa [Wb] using r1),q2.trans q4,?_,⟨b,c,e2,cur.size,by simp[Env.link],rfl,hfit,by simp,hsh _ hshape,by omega,hfit⟩,fun id' off' n' sz' cap' lo' heq b' hb'=>by
          injection heq with g1 _ _ _ _ _
          subst g1
          have:some b=some b':=by rw[<-hb'];simp[Env.link]
          injection this with this
          subst this
          exact⟨e2,cur.size,hsh _ hshape,.inr ⟨_,_,_,_,rfl,hshape⟩⟩⟩
         refine q3.congr (fun j=>?_) (by simp) rfl
         simp only[St.get_new,St.get_del,St.get_put,St.next_del,St.next_put]
         by_cases hj:j=st.next
         ·simp[hj]
         ·by_cases hj2:j=id<;>simp[hj,hj2]
        ·
         have hcut:(List.drop 0 cs).take (m*i.size)=cs:=by rw[Xw,e1,QH]
         rw[hcut] at k1
         exact UP (E:=E) (w:=w) (st:=st.del id) hzs (hs.del id) hG hfo k1 hol hy hyl hfit c1 c2
 ·
  have hn:=Qj hn0
  subst hn
  simp only[hn0,Qi] at hr
  have hvs:vs=[]:=by
   cases vs with
   | nil=>rfl
   | cons v vs=>simp at hyl
  subst hvs
  have fin:∀(base:Option Addr) (m c:Nat),vx=.slice base m c->m<=c->r=x->st'=st ->
    ∃ q w' E',(S vx).run P w=.ok q w'/\Ext E w E' w'/\Sat E' st' w'/\Rv E' w' r q/\TagR E' w' e w vx r:=fun base m c hv hmc e1 e2=>by
   subst hv;subst e1;subst e2
   refine⟨_,w,E,hF _ _ _ w (by omega) ?_,Ext.refl _ _,hs,by simpa using hx,fun id' off' n' sz' cap' lo' heq b' hb'=>?_⟩
   ·cases base<;>simp[storeCells]
   ·subst heq
    obtain⟨b,c',e',mm,h0,hv',h1,h2,h3,_⟩:=hx
    rw[h0] at hb';injection hb' with hb';subst hb'
    exact⟨e',mm,h3,.inr ⟨_,_,_,mm,hv',h3⟩⟩
  cases x<;>simp only[Qa,Q2,reduceCtorEq] at hr<;>obtain⟨rfl,rfl⟩:=hr
  ·exact fin none 0 0 hx (Qw _) rfl rfl
  ·obtain⟨a,cap,hv,h1,_⟩:=id hx
   exact fin _ _ _ hv h1 rfl rfl
  ·obtain⟨b,c,e',mm,h0,hv,h1,_⟩:=id hx
   exact fin _ _ _ hv h1 rfl rfl
theorem appendA_sound{ts:Array TypeId}{t u ty e:TypeId}{du:TypeDesc}{i:TypeInfo}{z:Value}{x r:AV}{n:Nat}{vx vy:Value}{ys:List AV}{vs:List Value}{st':St}
  (ht0:ts[0]?=some t) (ht:P.underlying t=some (.slice e)) (hi:P.info? e=some i) (hz:i.zero=some z) (hu0:ts[1]?=some u) (hu:P.underlying u=some du) (hni:Kt du)
  (hzs:z.cells.size=i.size) (hs:Sat E st w) (hx:Rv E w x vx)
  (hl:∀ w2,(Builtin.lenOf vy).run P w2=.ok n w2) (hf:∀ w2:World,w2.heap=w.heap->(Builtin.firstCells i.size n vy).run P w2=.ok vs.toArray w2)
  (hy:RvL E w ys vs) (hyl:vs.length=n*i.size) (hr:VX i.bytes i.size st x n ys=some (r,st')):
  ∃ q w' E',(Builtin.append_ ts ty #[vx,vy]).run P w=.ok q w'/\Ext E w E' w'/\Sat E' st' w'/\Rv E' w' r q/\TagR E' w' e w vx r:=
 appendA_core (S:=fun v=>Builtin.append_ ts ty #[v,vy]) hzs hs hx
  (fun base m c w' hfit hst=>append_fit (P:=P) (ty:=ty) ht0 ht hi hu0 hu hni hl (hf w rfl) hfit (by simpa using hst))
  (fun base m c ovs hfit h63 h48 hfo=>append_grow (P:=P) (w:=w) (ty:=ty) ht0 ht hi hz hu0 hu hni hl (hf w.drew rfl) hfo hfit h63 h48)
  hy hyl hr
end
end Go.AM
