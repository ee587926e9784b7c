import Derived.Test.YtejdliehekjicaaGreatAwDef
import Derived.CallsIn
import Derived.Below
import Derived.Laws.Cells
import Derived.Laws.Rows
import Derived.Laws.Slices
import Derived.Laws.AppendOwn
import Derived.Laws.BitsLemmas
import Derived.Laws.Strings
import Derived.Laws.MakeOwn
import Derived.Laws.IdiomStrings
import Derived.Laws.BytesString
import Derived.Lib.UnsafeStr
set_option linter.unusedSimpArgs false
namespace Go.AM
def AO.live:AO->Bool
 | .fro _=>false
 | .fmap _=>false
 | _=>true
section
variable {α:Type}
theorem Tr.getN_nil:∀(f n:Nat),Tr.getN f (.nil:Tr α) n=none
 | 0,_=>rfl
 | f+1,n=>by
  unfold Tr.getN
  simp only[Tr.val,Tr.left,Tr.right,Tr.getN_nil f]
  cases n.beq 0<;>cases (n.mod 2).beq 1<;>rfl
theorem Tr.getN_setN:∀(f g:Nat) (t:Tr α) (n m:Nat) (o:Option α),n<=f->m<=g->Tr.getN g (Tr.setN f t n o) m=if m=n then o else Tr.getN g t m
 | f,g,t,n,m,o,hn,hm=>by
  cases f with
  | zero=>
   obtain rfl:n=0:=by omega
   cases g with
   | zero=>
    obtain rfl:m=0:=by omega
    simp[Tr.getN,Tr.setN,Tr.val]
   | succ g=>
    by_cases h0:m=0
    ·subst h0;simp[Tr.getN,Tr.setN,Tr.val,Nat.beq]
    ·have hb:m.beq 0=false:=by cases m<;>simp_all [Nat.beq]
     simp only[Tr.getN,Tr.setN,hb,Qq,Tr.left,Tr.right,Qe h0]
  | succ f=>
   cases g with
   | zero=>
    obtain rfl:m=0:=by omega
    by_cases h0:n=0
    ·subst h0;simp[Tr.getN,Tr.setN,Tr.val,Nat.beq]
    ·have hb:n.beq 0=false:=by cases n<;>simp_all [Nat.beq]
     simp only[Tr.setN,hb,Qq]
     rw[Qe (by omega)]
     cases (n.mod 2).beq 1<;>simp[Tr.getN,Tr.val]
   | succ g=>
    have ih:=Tr.getN_setN f g
    by_cases gO:n=0
    ·subst gO
     by_cases lF:m=0
     ·subst lF;simp[Tr.getN,Tr.setN,Tr.val,Nat.beq]
     ·have hb:m.beq 0=false:=by cases m<;>simp_all [Nat.beq]
      simp only[Tr.getN,Tr.setN,hb,Qq,Tr.left,Tr.right,Qe lF,Nat.beq,Qi]
    ·have mA:n.beq 0=false:=by cases n<;>simp_all [Nat.beq]
     by_cases lF:m=0
     ·subst lF
      simp only[Tr.setN,mA,Qq]
      rw[Qe (by omega)]
      cases (n.mod 2).beq 1<;>simp[Tr.getN,Tr.val,Nat.beq]
     ·have gk:m.beq 0=false:=by cases m<;>simp_all [Nat.beq]
      have e2:∀ k:Nat,(k.mod 2).beq 1=decide (k % 2=1):=fun k=>by
       show (k % 2).beq 1=_
       by_cases h:k % 2=1
       ·simp[h]
       ·have:k % 2=0:=by omega
        simp[this,Nat.beq]
      have d2:∀ k:Nat,k.div 2=k / 2:=fun _=>rfl
      simp only[Tr.setN,mA,Qq,Tr.getN,gk,e2,d2]
      by_cases on:n % 2=1<;>by_cases om:m % 2=1<;>simp only[on,om,Z3,decide_false,Qi,Qq,Tr.left,Tr.right,Zh]
      ·rw[ih _ _ _ _ (by omega) (by omega)]
       by_cases e:m / 2=n / 2
       ·rw[Qm e,Qm (by omega)]
       ·rw[Qe e,Qe (by omega)]
      ·rw[Qe (by omega)]
      ·rw[Qe (by omega)]
      ·rw[ih _ _ _ _ (by omega) (by omega)]
       by_cases e:m / 2 - 1=n / 2 - 1
       ·rw[Qm e,Qm (by omega)]
       ·rw[Qe e,Qe (by omega)]
theorem Tr.get_set(t:Tr α)(n m:Nat)(o:Option α):(t.set n o).get m=if m=n then o else t.get m:=
 Tr.getN_setN _ _ _ _ _ _ (Qw _) (Qw _)
theorem Tr.get_nil(n:Nat):(Tr.nil:Tr α).get n=none:=Tr.getN_nil _ _
end
@[simp] theorem St.get_put (st:St) (id m:Nat) (o:AO):(st.put id o).get m=if m=id then some o else st.get m:=Tr.get_set ..
@[simp] theorem St.get_del (st:St) (id m:Nat):(st.del id).get m=if m=id then none else st.get m:=Tr.get_set ..
@[simp] theorem St.get_new (st:St) (m:Nat) (o:AO):(st.new o).get m=if m=st.next then some o else st.get m:=Tr.get_set ..
@[simp] theorem St.get_tag (st:St) (id e m:Nat):(st.tag id e).get m=st.get m:=rfl
@[simp] theorem St.next_tag (st:St) (id e:Nat):(st.tag id e).next=st.next:=rfl
@[simp] theorem St.bt_put (st:St) (id:Nat) (o:AO):(st.put id o).bt=st.bt:=rfl
@[simp] theorem St.bt_del (st:St) (id:Nat):(st.del id).bt=st.bt:=rfl
@[simp] theorem St.bt_new (st:St) (o:AO):(st.new o).bt=st.bt:=rfl
@[simp] theorem St.next_put (st:St) (id:Nat) (o:AO):(st.put id o).next=st.next:=rfl
@[simp] theorem St.next_del (st:St) (id:Nat):(st.del id).next=st.next:=rfl
@[simp] theorem St.next_new (st:St) (o:AO):(st.new o).next=st.next+1:=rfl
structure Env where
 β:Nat->Option Nat
 Fz:Nat->Prop
 Rs:Nat->Prop
 lr:Nat->Loop
 Dz:Nat->Option Obj
mutual
def Rv(E:Env)(w:World):AV->Value->Prop
 | .undef,v=>v=.tuple #[]
 | .bool b,v=>v=.bool b
 | .int k n,v=>v=.int k n
 | .str l,v=>∃ s:ByteArray,v=.string s/\s.data.toList.map (·.toNat)=l
 | .nilptr,v=>v=.pointer none
 | .ptr id off,v=>∃ b,E.β id=some b/\v=.pointer (some ⟨b,off,none⟩)
 | .fptr cs off,v=>∃ a:Addr,v=.pointer (some (a.add off))/\E.Fz a.block/\V3 E w a 0 cs
 | .nilsl,v=>v=.slice none 0 0
 | .lst n cs ex,v=>∃ (a:Addr) (cap:Nat),v=.slice (some a) n cap/\n<=cap/\(ex=true->cap=n)/\(cs≠[]->E.Fz a.block)/\V3 E w a 0 cs
 | .own id off n sz cap lo,v=>∃ b c e m,E.β id=some b/\v=.slice (some ⟨b,off,none⟩) n c/\n<=c/\(∀ k,cap=some k->c=k)/\w.shape? b=some (e,m)/\off+c*sz<=m/\lo<=c
 | .nilmap,v=>v=.map none
 | .map id,v=>∃ b,E.β id=some b/\v=.map (some b)
 | .func fn fs cs,v=>∃ xs ys:Array Value,v=.func fn xs ys/\R2 E w fs xs.toList/\R2 E w cs ys.toList
 | .nilfn,v=>v=.nilFunc
 | .niface,v=>v=.nilIface
 | .iface t x,v=>∃ y,v=.iface t y/\Rv E w x y
 | .agg cs,v=>∃ xs:Array Value,v=.agg xs/\R2 E w cs xs.toList
 | .tuple cs,v=>∃ xs:Array Value,v=.tuple xs/\R2 E w cs xs.toList
 | .yld id,v=>∃ b,E.β id=some b/\v=.func (.yield b) #[] #[]
 | .top,v=>v.cells=#[v]
def R2(E:Env)(w:World):List AV->List Value->Prop
 | [],l=>l=[]
 | c::cs,l=>∃ x xs,l=x::xs/\Rv E w c x/\R2 E w cs xs
def V3(E:Env)(w:World)(a:Addr):Nat->List AV->Prop
 | _,[]=>True
 | i,c::cs=>(∃ x,w.cell? (a.add i)=some x/\Rv E w c x)/\V3 E w a (i+1) cs
end
def RvEs(E:Env)(w:World):List (AV × AV)->List MapEntry->Prop
 | [],l=>l=[]
 | (k,v)::es,l=>∃ x xs,l=x::xs/\Rv E w k x.key/\Rv E w v x.val/\RvEs E w es xs
def Je(l:Array MapEntry)(clock:Nat):Prop:=(∀ x∈l.toList,x.born < clock)/\(l.toList.map (·.born)).Nodup
def PinOk:Obj->Prop
 | .deferred _=>True
 | _=>False
def LS.ok(r0 r:Loop):LS->Prop
 | .ready=>r={ r0 with state:=.ready,pending:=none }
 | .busy=>r={ r0 with state:=.busy,pending:=none }
 | .ret=>r={ r0 with state:=.done,pending:=some .ret }
 | .exit id=>r={ r0 with state:=.done,pending:=some (.exit id) }
 | .fin=>True
def Wv(E:Env)(w:World)(b:Nat):AO->Prop
 | .row cs=>(∃ c e f,w.heap[b]?=some (.cells c e f)/\cs.length<=c.size/\(f=(0,0)\/c.size<=f.1/\e≠Uf/\e≠Pe))/\V3 E w ⟨b,0,none⟩ 0 cs
 | .fro cs=>E.Fz b/\V3 E w ⟨b,0,none⟩ 0 cs
 | .map es=>∃ l clock,w.heap[b]?=some (.map l clock)/\RvEs E w es l.toList/\Je l clock
 | .iter m ks=>∃ bm l clock since,E.β m=some bm/\E.Fz bm/\w.heap[bm]?=some (.map l clock)/\w.heap[b]?=some (.mapIter (some bm) since (ks.map fun i=>(l.getD i default).born).toArray clock)/\since<=clock/\∀ x∈l.toList,x.born < since
 | .fmap es=>E.Fz b/\∃ l clock,w.heap[b]?=some (.map l clock)/\RvEs E w es l.toList/\Je l clock
 | .loop s=>∃ r,w.heap[b]?=some (.loop r)/\s.ok (E.lr b) r
structure Sat(E:Env)(st:St)(w:World):Prop where
 dom:∀ id b,E.β id=some b->id < st.next/\b < w.heap.size
 fz:∀ b,E.Fz b->b < w.heap.size
 obj:∀ id o b,st.get id=some o->E.β id=some b->Wv E w b o
 sep:∀ id fJ o o' b,st.get id=some o->st.get fJ=some o'->o.live=true->o'.live=true->E.β id=some b->E.β fJ=some b->id=fJ
 lv:∀ id o b,st.get id=some o->o.live=true->E.β id=some b->¬ E.Fz b
 rs:∀ id,E.Rs id->E.β id=none/\id < st.next
 dz:∀ b o,E.Dz b=some o->w.heap[b]?=some o/\¬ E.Fz b/\PinOk o
 bt:∀ id t,st.bt.get id=some t->∃ b m,E.β id=some b/\w.shape? b=some (t,m)
structure Ext0(E:Env)(w:World)(E':Env)(w':World):Prop where
 β:∀ id b,E.β id=some b->E'.β id=some b
 Fz:∀ b,E.Fz b->E'.Fz b
 mem:∀ b,E.Fz b->w'.heap[b]?=w.heap[b]?
 size:w.heap.size<=w'.heap.size
 shape:∀ b s,w.shape? b=some s->w'.shape? b=some s
 os:w'.os=w.os
 tape:w'.tape=w.tape
 output:w'.output=w.output
 lr:∀ b,b < w.heap.size->E'.lr b=E.lr b
structure Ext(E:Env)(w:World)(E':Env)(w':World):Prop extends Ext0 E w E' w' where
 Rs:∀ id,E.Rs id->E'.Rs id
 Dz:∀ b o,E.Dz b=some o->E'.Dz b=some o
theorem Ext.refl(E:Env)(w:World):Ext E w E w:=⟨⟨fun _ _ h=>h,fun _ h=>h,fun _ _=>rfl,Qw _,fun _ _ h=>h,rfl,rfl,rfl,fun _ _=>rfl⟩,fun _ h=>h,fun _ _ h=>h⟩
theorem Ext0.trans{E E' E'':Env}{w w' w'':World}(h:Ext0 E w E' w')(k:Ext0 E' w' E'' w''):Ext0 E w E'' w'':=
 ⟨fun i b e=>k.β i b (h.β i b e),fun b e=>k.Fz b (h.Fz b e),fun b e=>(k.mem b (h.Fz b e)).trans (h.mem b e),QY h.size k.size,fun b s e=>k.shape b s (h.shape b s e),k.os.trans h.os,k.tape.trans h.tape,k.output.trans h.output,fun b e=>(k.lr b (Qz e h.size)).trans (h.lr b e)⟩
theorem Ext.trans{E E' E'':Env}{w w' w'':World}(h:Ext E w E' w')(k:Ext E' w' E'' w''):Ext E w E'' w'':=⟨h.toExt0.trans k.toExt0,fun i e=>k.Rs i (h.Rs i e),fun i o e=>k.Dz i o (h.Dz i o e)⟩
def JW(E:Env)(st:St)(w:World):Prop:=∀ id t,st.bt.get id=some t->∃ b m,E.β id=some b/\w.shape? b=some (t,m)
theorem JW.mono{E E':Env}{st af:St}{w w':World}(h:JW E st w)(hx:Ext0 E w E' w')(hb:af.bt=st.bt):JW E' af w':=fun id t ht=>by
 rw[hb] at ht
 obtain⟨b,m,h1,h2⟩:=h id t ht
 exact⟨b,m,hx.β _ _ h1,hx.shape _ _ h2⟩
theorem cell?_of_heap{w w':World}{a:Addr}(h:w'.heap[a.block]?=w.heap[a.block]?):w'.cell? a=w.cell? a:=by
 unfold World.cell?;rw[h]
theorem Si(a:Addr)(n:Nat):(a.add n).block=a.block:=by unfold Addr.add;split<;>rfl
theorem add_add(a:Addr)(m n:Nat):(a.add m).add n=a.add (m+n):=by
 unfold Addr.add
 by_cases hm:m=0<;>by_cases hn:n=0<;>simp[hm,hn]
 omega
mutual
theorem Rv.mono0{E E':Env}{w w':World}(h:Ext0 E w E' w'):∀(x:AV) (v:Value),Rv E w x v->Rv E' w' x v
 | .undef,_,hv=>hv
 | .bool _,_,hv=>hv
 | .int _ _,_,hv=>hv
 | .str _,_,hv=>hv
 | .nilptr,_,hv=>hv
 | .ptr _ _,_,⟨b,hb,hv⟩=>⟨b,h.β _ _ hb,hv⟩
 | .fptr cs _,_,⟨a,hv,hf,hm⟩=>⟨a,hv,h.Fz _ hf,V3.mono0 h a (h.mem _ hf) cs 0 hm⟩
 | .nilsl,_,hv=>hv
 | .lst _ cs _,_,⟨a,cap,hv,h1,h2,h3,h4⟩=>by
  refine⟨a,cap,hv,h1,h2,fun hc=>h.Fz _ (h3 hc),?_⟩
  cases cs with
  | nil=>exact trivial
  | cons c cs=>exact V3.mono0 h a (h.mem _ (h3 (by simp))) (c::cs) 0 h4
 | .own _ _ _ _ _ _,_,⟨b,c,e,m,hb,hv,h1,h2,h3,h4⟩=>⟨b,c,e,m,h.β _ _ hb,hv,h1,h2,h.shape _ _ h3,h4⟩
 | .nilmap,_,hv=>hv
 | .map _,_,⟨b,hb,hv⟩=>⟨b,h.β _ _ hb,hv⟩
 | .func _ fs cs,_,⟨xs,ys,hv,h1,h2⟩=>⟨xs,ys,hv,R2.mono0 h fs _ h1,R2.mono0 h cs _ h2⟩
 | .nilfn,_,hv=>hv
 | .niface,_,hv=>hv
 | .iface _ x,_,⟨y,hv,h1⟩=>⟨y,hv,Rv.mono0 h x y h1⟩
 | .agg cs,_,⟨xs,hv,h1⟩=>⟨xs,hv,R2.mono0 h cs _ h1⟩
 | .tuple cs,_,⟨xs,hv,h1⟩=>⟨xs,hv,R2.mono0 h cs _ h1⟩
 | .top,_,hv=>hv
 | .yld _,_,⟨b,hb,hv⟩=>⟨b,h.β _ _ hb,hv⟩
theorem R2.mono0{E E':Env}{w w':World}(h:Ext0 E w E' w'):∀(l:List AV) (vs:List Value),R2 E w l vs->R2 E' w' l vs
 | [],_,hv=>hv
 | c::cs,_,⟨x,xs,hv,h1,h2⟩=>⟨x,xs,hv,Rv.mono0 h c x h1,R2.mono0 h cs xs h2⟩
theorem V3.mono0{E E':Env}{w w':World}(h:Ext0 E w E' w')(a:Addr)(hb:w'.heap[a.block]?=w.heap[a.block]?):∀(l:List AV) (i:Nat),V3 E w a i l->V3 E' w' a i l
 | [],_,_=>trivial
 | c::cs,i,⟨⟨x,hc,h1⟩,h2⟩=>⟨⟨x,by rw[cell?_of_heap (w:=w) (by rw[Si];exact hb)];exact hc,Rv.mono0 h c x h1⟩,V3.mono0 h a hb cs (i+1) h2⟩
end
theorem Rv.mono{E E':Env}{w w':World}(h:Ext E w E' w')(x:AV)(v:Value)(hv:Rv E w x v):Rv E' w' x v:=Rv.mono0 h.toExt0 x v hv
theorem R2.mono{E E':Env}{w w':World}(h:Ext E w E' w')(l:List AV)(vs:List Value)(hv:R2 E w l vs):R2 E' w' l vs:=R2.mono0 h.toExt0 l vs hv
end Go.AM
namespace Go.AM
theorem Rv.cells{E:Env}{w:World}{x:AV}{v:Value}(h:Rv E w x v):R2 E w x.cells v.cells.toList:=by
 cases x with
 | agg cs=>obtain⟨xs,rfl,h⟩:=h;exact h
 | undef=>subst h;exact⟨_,_,rfl,rfl,rfl⟩
 | bool b=>subst h;exact⟨_,_,rfl,rfl,rfl⟩
 | int k n=>subst h;exact⟨_,_,rfl,rfl,rfl⟩
 | str l=>obtain⟨s,rfl,hs⟩:=h;exact⟨_,_,rfl,⟨s,rfl,hs⟩,rfl⟩
 | nilptr=>subst h;exact⟨_,_,rfl,rfl,rfl⟩
 | ptr id off=>have h0:=h;obtain⟨b,hb,rfl⟩:=h;exact⟨_,_,rfl,h0,rfl⟩
 | fptr cs off=>have h0:=h;obtain⟨a,rfl,_⟩:=h;exact⟨_,_,rfl,h0,rfl⟩
 | nilsl=>subst h;exact⟨_,_,rfl,rfl,rfl⟩
 | lst n cs ex=>
  have h0:=h
  obtain⟨a,cap,rfl,_⟩:=h;exact⟨_,_,rfl,h0,rfl⟩
 | own id off n sz cap lo=>have h0:=h;obtain⟨b,c,e,m,hb,rfl,_⟩:=h;exact⟨_,_,rfl,h0,rfl⟩
 | nilmap=>subst h;exact⟨_,_,rfl,rfl,rfl⟩
 | map id=>have h0:=h;obtain⟨b,hb,rfl⟩:=h;exact⟨_,_,rfl,h0,rfl⟩
 | func fn fs cs=>have h0:=h;obtain⟨xs,ys,rfl,_⟩:=h;exact⟨_,_,rfl,h0,rfl⟩
 | nilfn=>subst h;exact⟨_,_,rfl,rfl,rfl⟩
 | niface=>subst h;exact⟨_,_,rfl,rfl,rfl⟩
 | iface t y=>have h0:=h;obtain⟨u,rfl,_⟩:=h;exact⟨_,_,rfl,h0,rfl⟩
 | tuple vs=>have h0:=h;obtain⟨u,rfl,_⟩:=h;exact⟨_,_,rfl,h0,rfl⟩
 | yld id=>have h0:=h;obtain⟨b,hb,rfl⟩:=h;exact⟨_,_,rfl,h0,rfl⟩
 | top=>have h0:v.cells=#[v]:=h;exact⟨v,[],by rw[h0],h,rfl⟩
theorem Rv.oneCell{E:Env}{w:World}{x:AV}{v:Value}(h:Rv E w x v)(ho:x.one=true):v.oneCell'=true:=by
 cases x with
 | agg cs=>simp[AV.one] at ho
 | undef=>simp[AV.one] at ho
 | top=>simp[AV.one] at ho
 | tuple vs=>simp[AV.one] at ho
 | bool b=>subst h;rfl
 | int k n=>subst h;rfl
 | str l=>obtain⟨s,rfl,hs⟩:=h;rfl
 | nilptr=>subst h;rfl
 | ptr id off=>obtain⟨b,hb,rfl⟩:=h;rfl
 | fptr cs off=>obtain⟨a,rfl,_⟩:=h;rfl
 | nilsl=>subst h;rfl
 | lst n cs ex=>obtain⟨a,cap,rfl,_⟩:=h;rfl
 | own id off n sz cap lo=>obtain⟨b,c,e,m,hb,rfl,_⟩:=h;rfl
 | nilmap=>subst h;rfl
 | map id=>obtain⟨b,hb,rfl⟩:=h;rfl
 | func fn fs cs=>obtain⟨xs,ys,rfl,_⟩:=h;rfl
 | nilfn=>subst h;rfl
 | niface=>subst h;rfl
 | iface t y=>obtain⟨u,rfl,_⟩:=h;rfl
 | yld id=>obtain⟨b,hb,rfl⟩:=h;rfl
section
variable {E:Env} {w:World}
theorem R2.length:∀{l:List AV} {vs:List Value},R2 E w l vs->l.length=vs.length
 | [],_,h=>by subst h;rfl
 | c::cs,_,⟨x,xs,hv,_,h2⟩=>by subst hv;simp[R2.length h2]
theorem R2.get:∀{l:List AV} {vs:List Value} (i:Nat) {c:AV},R2 E w l vs->l[i]?=some c->∃ v,vs[i]?=some v/\Rv E w c v
 | [],_,i,_,_,h=>by simp at h
 | c::cs,_,0,_,⟨x,xs,hv,h1,_⟩,h=>by simp at h;subst h;subst hv;exact⟨x,rfl,h1⟩
 | c::cs,_,i+1,_,⟨x,xs,hv,_,h2⟩,h=>by subst hv;simpa using R2.get i h2 (by simpa using h)
theorem R2.of_get:∀{l:List AV} {vs:List Value},l.length=vs.length->(∀(i:Nat) (c:AV) (v:Value),l[i]?=some c->vs[i]?=some v->Rv E w c v)->R2 E w l vs
 | [],vs,hl,_=>by cases vs with | nil=>rfl | cons _ _=>simp at hl
 | c::cs,vs,hl,h=>by
  cases vs with
  | nil=>simp at hl
  | cons x xs=>
   refine⟨x,xs,rfl,h 0 c x rfl rfl,R2.of_get (by simpa using hl) fun i c' v h1 h2=>h (i+1) c' v (by simpa using h1) (by simpa using h2)⟩
theorem R2.append{l l':List AV}{vs fK:List Value}:R2 E w l vs->R2 E w l' fK->R2 E w (l++l') (vs++fK):=by
 induction l generalizing vs with
 | nil=>intro h h';cases h;exact h'
 | cons c cs ih=>rintro ⟨x,xs,rfl,h1,h2⟩ h';exact⟨x,xs++fK,rfl,h1,ih h2 h'⟩
theorem R2.drop{l:List AV}{vs:List Value}(h:R2 E w l vs)(k:Nat):R2 E w (l.drop k) (vs.drop k):=
 R2.of_get (by simp[h.length]) fun i c v h1 h2=>by
  obtain⟨v',h3,h4⟩:=h.get (k+i) (c:=c) (by simpa using h1)
  have:vs[k+i]?=some v:=by simpa using h2
  rw[this] at h3;injection h3 with h3;subst h3;exact h4
theorem R2.take{l:List AV}{vs:List Value}(h:R2 E w l vs)(k:Nat):R2 E w (l.take k) (vs.take k):=
 R2.of_get (by simp[h.length]) fun i c v h1 h2=>by
  rw[X6] at h1 h2
  split at h1
  ·rename_i hk
   simp only[hk,Xj] at h2
   obtain⟨v',h3,h4⟩:=h.get i h1
   rw[h2] at h3;injection h3 with h3;subst h3;exact h4
  ·simp at h1
theorem R2.one{l:List AV}{vs:List Value}(h:R2 E w l vs)(ho:l.all AV.one=true):∀ v∈vs,v.oneCell'=true:=by
 intro v hv
 obtain⟨i,hi⟩:=List.mem_iff_getElem?.1 hv
 have am:i < l.length:=by rw[h.length];exact(Qt.1 hi).1
 obtain⟨v',h3,h4⟩:=h.get i (Qn am)
 rw[hi] at h3;injection h3 with h3;subst h3
 exact h4.oneCell (QB.1 ho _ (Xu am))
theorem V3.get:∀{a:Addr} {cs:List AV} {i:Nat} (j:Nat) {c:AV},V3 E w a i cs->cs[j]?=some c->∃ x,w.cell? (a.add (i+j))=some x/\Rv E w c x
 | _,[],_,j,_,_,h=>by simp at h
 | a,c::cs,i,0,_,⟨h1,_⟩,h=>by simp at h;subst h;simpa using h1
 | a,c::cs,i,j+1,_,⟨_,h2⟩,h=>by
  have:=V3.get j h2 (by simpa using h)
  rwa [show i+1+j=i+(j+1) by omega] at this
theorem V3.of_get:∀{a:Addr} {cs:List AV} {i:Nat},(∀ j c,cs[j]?=some c->∃ x,w.cell? (a.add (i+j))=some x/\Rv E w c x)->V3 E w a i cs
 | _,[],_,_=>trivial
 | a,c::cs,i,h=>⟨h 0 c rfl,V3.of_get fun j c' hc=>by
   have:=h (j+1) c' (by simpa using hc)
   rwa [show i+(j+1)=i+1+j by omega] at this⟩
theorem V3.vals:∀{a:Addr} {cs:List AV} {i:Nat},V3 E w a i cs->∃ xs:List Value,R2 E w cs xs/\∀ j v,xs[j]?=some v->w.cell? (a.add (i+j))=some v
 | _,[],_,_=>⟨[],rfl,fun j v h=>by simp at h⟩
 | a,c::cs,i,⟨⟨x,h1,h2⟩,h3⟩=>by
  obtain⟨xs,h4,h5⟩:=V3.vals h3
  refine⟨x::xs,⟨x,xs,rfl,h2,h4⟩,fun j v hj=>?_⟩
  cases j with
  | zero=>simp at hj;subst hj;simpa using h1
  | succ j=>
   have:=h5 j v (by simpa using hj)
   rwa [show i+1+j=i+(j+1) by omega] at this
theorem V3.at{a:Addr}{cs:List AV}(h:V3 E w a 0 cs)(k:Nat):V3 E w (a.add k) 0 (cs.drop k):=
 V3.of_get fun j c hc=>by
  obtain⟨x,h1,h2⟩:=h.get (k+j) (c:=c) (by simpa using hc)
  exact⟨x,by rw[add_add,show k+(0+j)=0+(k+j) by omega];exact h1,h2⟩
theorem V3.take{a:Addr}{cs:List AV}{i:Nat}(h:V3 E w a i cs)(k:Nat):V3 E w a i (cs.take k):=
 V3.of_get fun j c hc=>by
  rw[X6] at hc
  split at hc
  ·exact h.get j hc
  ·simp at hc
theorem V3.new{cs:List AV}{vs:Array Value}{b:Nat}{e:TypeId}{fr:Nat × Nat}(h:R2 E w cs vs.toList)(hb:w.heap[b]?=some (.cells vs e fr)):V3 E w ⟨b,0,none⟩ 0 cs:=
 V3.of_get fun j c hc=>by
  obtain⟨v,h1,h2⟩:=h.get j hc
  refine⟨v,?_,h2⟩
  have:((⟨b,0,none⟩:Addr).add (0+j))=⟨b,j,none⟩:=by
   unfold Addr.add;split
   ·rename_i h0;simp at h0;simp[h0]
   ·simp
  rw[this,cell_of_row w b j vs e fr hb]
  simpa using h1
end
theorem YA{w w':World}{b:Nat}(h:w'.heap[b]?=w.heap[b]?):w'.shape? b=w.shape? b:=by unfold World.shape?;rw[h]
theorem Ww(w:World)(o:Obj)(k:Nat)(h:k < w.heap.size):(w.alloc o).heap[k]?=w.heap[k]?:=heap_alloc_old w o k h
def Env.link(E:Env)(id b:Nat):Env:={ E with β:=fun i=>if i=id then some b else E.β i }
def Env.fzb(E:Env)(b:Nat):Env:={ E with Fz:=fun k=>k=b\/E.Fz k }
theorem Ext.alloc{E:Env}{w:World}(o:Obj){E':Env}(hβ:∀ id b,E.β id=some b->E'.β id=some b)(hF:∀ b,E.Fz b->E'.Fz b)(hR:∀ i,E.Rs i->E'.Rs i)(hL:∀ b,b < w.heap.size->E'.lr b=E.lr b)(xL:∀ b o,E.Dz b=some o->E'.Dz b=some o)(bv:∀ b,E.Fz b->b < w.heap.size):Ext E w E' (w.alloc o):={
 β:=hβ
 Fz:=hF
 mem b hb:=Ww w o b (bv b hb)
 size:=by simp
 shape b s hs:=by
  have:b < w.heap.size:=by
   unfold World.shape? at hs
   cases hh:w.heap[b]? with
   | none=>rw[hh] at hs;simp at hs
   | some x=>exact(Qv.1 hh).1
  rw[YA (Ww w o b this)];exact hs
 os:=rfl
 tape:=rfl
 output:=rfl
 lr:=hL
 Rs:=hR
 Dz:=xL}
theorem RvEs.mono {E E':Env} {w w':World} (h:Ext0 E w E' w'):∀(es:List (AV × AV)) (l:List MapEntry),RvEs E w es l->RvEs E' w' es l
  | [],_,h1=>h1
  | (_,_)::es,_,⟨x,xs,h1,h2,h3,h4⟩=>⟨x,xs,h1,Rv.mono0 h _ _ h2,Rv.mono0 h _ _ h3,RvEs.mono h es xs h4⟩
theorem Wv.mono0{E E':Env}{w w':World}(h:Ext0 E w E' w'){b:Nat}(hb:w'.heap[b]?=w.heap[b]?):∀{o:AO},Wv E w b o->Wv E' w' b o
 | .row _,⟨⟨c,e,f,h1,h2⟩,h3⟩=>⟨⟨c,e,f,by rw[hb];exact h1,h2⟩,V3.mono0 h _ hb _ _ h3⟩
 | .fro _,⟨h1,h2⟩=>⟨h.Fz _ h1,V3.mono0 h _ hb _ _ h2⟩
 | .map es,⟨l,c,h1,h2,h3⟩=>⟨l,c,by rw[hb];exact h1,RvEs.mono h _ _ h2,h3⟩
 | .iter m ks,⟨bm,l,clock,since,h1,h2,h3,h4,h5⟩=>⟨bm,l,clock,since,h.β _ _ h1,h.Fz _ h2,by rw[h.mem _ h2];exact h3,by rw[hb];exact h4,h5⟩
 | .fmap es,⟨h0,l,c,h1,h2,h3⟩=>⟨h.Fz _ h0,l,c,by rw[hb];exact h1,RvEs.mono h _ _ h2,h3⟩
 | .loop s,⟨r,h1,h2⟩=>⟨r,by rw[hb];exact h1,by rw[h.lr b (Qv.1 h1).1];exact h2⟩
theorem Wv.mono{E E':Env}{w w':World}(h:Ext E w E' w'){b:Nat}(hb:w'.heap[b]?=w.heap[b]?){o:AO}(hv:Wv E w b o):Wv E' w' b o:=Wv.mono0 h.toExt0 hb hv
theorem Sat.setRs{E:Env}{st:St}{w:World}(h:Sat E st w)(R:Nat->Prop)(hR:∀ id,R id->E.β id=none/\id < st.next):Sat { E with Rs:=R } st w:=
 have hx:Ext0 E w { E with Rs:=R } w:=⟨fun _ _ h=>h,fun _ h=>h,fun _ _=>rfl,Qw _,fun _ _ h=>h,rfl,rfl,rfl,fun _ _=>rfl⟩
 ⟨h.dom,h.fz,fun id o b h1 h2=>Wv.mono0 hx rfl (h.obj id o b h1 h2),h.sep,h.lv,hR,h.dz,JW.mono h.bt hx rfl⟩
theorem Sat.drew{E:Env}{st:St}{w:World}(h:Sat E st w):Sat E st w.drew/\Ext E w E w.drew:=by
 have hx:Ext E w E w.drew:=⟨⟨fun _ _ h=>h,fun _ h=>h,fun _ _=>rfl,Qw _,fun _ _ h=>h,rfl,rfl,rfl,fun _ _=>rfl⟩,fun _ h=>h,fun _ _ h=>h⟩
 exact⟨⟨h.dom,h.fz,fun id o b h1 h2=>Wv.mono hx rfl (h.obj id o b h1 h2),h.sep,h.lv,h.rs,h.dz,JW.mono h.bt hx.toExt0 rfl⟩,hx⟩
theorem Sat.allocFz{E:Env}{st:St}{w:World}(h:Sat E st w)(o:Obj):Sat (E.fzb w.heap.size) st (w.alloc o)/\Ext E w (E.fzb w.heap.size) (w.alloc o):=by
 have hx:Ext E w (E.fzb w.heap.size) (w.alloc o):=Ext.alloc o (fun _ _ h=>h) (fun _ h=>Or.inr h) (fun _ h=>h) (fun _ _=>rfl) (fun _ _ h=>h) h.fz
 refine⟨⟨fun id b hb=>?_,fun b hb=>?_,fun id o' b h1 h2=>?_,h.sep,fun id o' b h1 h2 h3 hf=>?_,h.rs,fun b q hb=>?_,JW.mono h.bt hx.toExt0 rfl⟩,hx⟩
 ·have:=h.dom id b hb;simp;omega
 ·rcases hb with rfl | hb
  ·simp
  ·have:=h.fz b hb;simp;omega
 ·have:=h.dom id b h2
  exact Wv.mono hx (Ww w o b this.2) (h.obj id o' b h1 h2)
 ·have:=h.dom id b h3
  rcases hf with rfl | hf
  ·omega
  ·exact h.lv id o' b h1 h2 h3 hf
 ·obtain⟨h1,h2,h3⟩:=h.dz b q hb
  have am:=(Qv.1 h1).1
  exact⟨by rw[Ww w o b am];exact h1,fun hf=>hf.elim (fun e=>by omega) h2,h3⟩
theorem Sat.link'{E:Env}{st:St}{w:World}(h:Sat E st w)(o:Obj)(id:Nat)(ao:AO)(aZ:id < st.next)(hβ:E.β id=none)(hr:¬ E.Rs id)(hg:st.get id=some ao)
  (bR:Ext E w (E.link id w.heap.size) (w.alloc o)->Wv (E.link id w.heap.size) (w.alloc o) w.heap.size ao):
  Sat (E.link id w.heap.size) st (w.alloc o)/\Ext E w (E.link id w.heap.size) (w.alloc o):=by
 have hx:Ext E w (E.link id w.heap.size) (w.alloc o):=Ext.alloc o (fun i b hb=>by
  show (if i=id then _ else _)=_
  rw[Qe (by rintro rfl;rw[hβ] at hb;simp at hb)];exact hb) (fun _ h=>h) (fun _ h=>h) (fun _ _=>rfl) (fun _ _ h=>h) h.fz
 have aN:∀ i b,(E.link id w.heap.size).β i=some b->(i=id/\b=w.heap.size)\/(i≠id/\E.β i=some b):=fun i b hb=>by
  have:(if i=id then some w.heap.size else E.β i)=some b:=hb
  by_cases hi:i=id
  ·rw[Qm hi] at this;injection this with this;exact .inl ⟨hi,this.symm⟩
  ·rw[Qe hi] at this;exact .inr ⟨hi,this⟩
 refine⟨⟨fun i b hb=>?_,fun b hb=>?_,fun i o' b h1 h2=>?_,fun i i' o1 o2 b h1 h2 l1 l2 b1 b2=>?_,fun i o' b h1 h2 h3=>?_,fun i hi=>⟨by
  show (if i=id then _ else _)=_
  rw[Qe (by rintro rfl;exact hr hi)];exact(h.rs i hi).1,(h.rs i hi).2⟩,fun b q hb=>by
  obtain⟨h1,h2⟩:=h.dz b q hb
  exact⟨by rw[Ww w o b (Qv.1 h1).1];exact h1,h2⟩,JW.mono h.bt hx.toExt0 rfl⟩,hx⟩
 ·rcases aN i b hb with⟨rfl,rfl⟩|⟨_,hb⟩
  ·exact⟨aZ,by simp⟩
  ·have:=h.dom i b hb;exact⟨this.1,by simp;omega⟩
 ·have:=h.fz b hb;simp;omega
 ·rcases aN i b h2 with⟨rfl,rfl⟩|⟨_,h2⟩
  ·rw[hg] at h1;injection h1 with h1;subst h1;exact bR hx
  ·exact Wv.mono hx (Ww w o b (h.dom i b h2).2) (h.obj i o' b h1 h2)
 ·rcases aN i b b1 with⟨e1,e2⟩|⟨_,c1⟩<;>rcases aN i' _ b2 with⟨e3,e4⟩|⟨_,c2⟩
  ·rw[e1,e3]
  ·have:=(h.dom _ _ c2).2;omega
  ·have:=(h.dom _ _ c1).2;omega
  ·exact h.sep i i' o1 o2 b h1 h2 l1 l2 c1 c2
 ·rcases aN i b h3 with⟨rfl,rfl⟩|⟨_,h3⟩
  ·intro hf;have:=h.fz _ hf;omega
  ·exact h.lv i o' b h1 h2 h3
theorem Sat.link{E:Env}{st:St}{w:World}(h:Sat E st w)(o:Obj)(id:Nat)(ao:AO)(aZ:id < st.next)(hβ:E.β id=none)(hr:¬ E.Rs id)(hg:st.get id=some ao)
  (bR:∀ E':Env,Ext E w E' (w.alloc o)->Wv E' (w.alloc o) w.heap.size ao):
  Sat (E.link id w.heap.size) st (w.alloc o)/\Ext E w (E.link id w.heap.size) (w.alloc o):=h.link' o id ao aZ hβ hr hg (bR _)
theorem Sat.ahead{E:Env}{st:St}{w:World}(h:Sat E st w)(ao:AO):Sat E (st.new ao) w:=by
 have hβ:E.β st.next=none:=by
  cases hb:E.β st.next with
  | none=>rfl
  | some b=>have:=(h.dom _ _ hb).1;omega
 exact⟨fun i b hb=>⟨by have:=(h.dom i b hb).1;simp;omega,(h.dom i b hb).2⟩,h.fz,fun i o' b h1 h2=>by
   rw[St.get_new] at h1
   by_cases hi:i=st.next
   ·subst hi;rw[hβ] at h2;simp at h2
   ·rw[Qe hi] at h1;exact h.obj i o' b h1 h2,
  fun i i' o1 o2 b h1 h2 l1 l2 b1 b2=>by
   rw[St.get_new] at h1 h2
   by_cases hi:i=st.next
   ·subst hi;rw[hβ] at b1;simp at b1
   ·by_cases cj:i'=st.next
    ·subst cj;rw[hβ] at b2;simp at b2
    ·rw[Qe hi] at h1;rw[Qe cj] at h2;exact h.sep i i' o1 o2 b h1 h2 l1 l2 b1 b2,
  fun i o' b h1 h2 h3=>by
   rw[St.get_new] at h1
   by_cases hi:i=st.next
   ·subst hi;rw[hβ] at h3;simp at h3
   ·rw[Qe hi] at h1;exact h.lv i o' b h1 h2 h3,
  fun i hi=>⟨(h.rs i hi).1,by have:=(h.rs i hi).2;simp;omega⟩,h.dz,h.bt⟩
theorem Sat.alloc'{E:Env}{st:St}{w:World}(h:Sat E st w)(o:Obj)(ao:AO)
  (bR:Ext E w (E.link st.next w.heap.size) (w.alloc o)->Wv (E.link st.next w.heap.size) (w.alloc o) w.heap.size ao):
  Sat (E.link st.next w.heap.size) (st.new ao) (w.alloc o)/\Ext E w (E.link st.next w.heap.size) (w.alloc o):=by
 have hβ:E.β st.next=none:=by
  cases hb:E.β st.next with
  | none=>rfl
  | some b=>have:=(h.dom _ _ hb).1;omega
 exact(h.ahead ao).link' o st.next ao (by simp) hβ (fun hr=>by have:=(h.rs _ hr).2;omega) (by simp) bR
theorem Sat.alloc{E:Env}{st:St}{w:World}(h:Sat E st w)(o:Obj)(ao:AO)
  (bR:∀ E':Env,Ext E w E' (w.alloc o)->Wv E' (w.alloc o) w.heap.size ao):
  Sat (E.link st.next w.heap.size) (st.new ao) (w.alloc o)/\Ext E w (E.link st.next w.heap.size) (w.alloc o):=h.alloc' o ao (bR _)
theorem Sat.write{E:Env}{st:St}{w w':World}(h:Sat E st w)(id b:Nat)(o o':AO)(hg:st.get id=some o)(hl:o.live=true)(hb:E.β id=some b)
  (bS:∀ k,k≠b->w'.heap[k]?=w.heap[k]?) (d7:w'.heap.size=w.heap.size) (bl:∀ s,w.shape? b=some s->w'.shape? b=some s)
  (rW:w'.os=w.os) (iL:w'.tape=w.tape) (eB:w'.output=w.output) (_hl':o'.live=true) (bR:Ext E w E w'->Wv E w' b o'):
  Sat E (st.put id o') w'/\Ext E w E w':=by
 have hx:Ext E w E w':=⟨⟨fun _ _ h=>h,fun _ h=>h,fun k hk=>bS k (by rintro rfl;exact h.lv id o _ hg hl hb hk),by omega,fun k s hs=>by
  by_cases hk:k=b
  ·subst hk;exact bl s hs
  ·rw[YA (bS k hk)];exact hs,rW,iL,eB,fun _ _=>rfl⟩,fun _ h=>h,fun _ _ h=>h⟩
 refine⟨⟨fun i c hc=>?_,fun c hc=>?_,fun i o1 c h1 h2=>?_,fun i i' o1 o2 c h1 h2 l1 l2 b1 b2=>?_,fun i o1 c h1 h2 h3=>?_,h.rs,fun c q hc=>?_,JW.mono h.bt hx.toExt0 rfl⟩,hx⟩
 ·have:=h.dom i c hc;rw[d7];exact this
 ·have:=h.fz c hc;omega
 ·rw[St.get_put] at h1
  by_cases hi:i=id
  ·subst hi;rw[Qm rfl] at h1;injection h1 with h1;subst h1;rw[hb] at h2;injection h2 with h2;subst h2;exact bR hx
  ·rw[Qe hi] at h1
   have h3:=h.obj i o1 c h1 h2
   cases o1 with
   | fro cs=>exact Wv.mono hx (hx.mem _ h3.1) h3
   | fmap es=>exact Wv.mono hx (hx.mem _ h3.1) h3
   | row cs=>exact Wv.mono hx (bS c (by rintro rfl;exact hi (h.sep i id _ _ _ h1 hg rfl hl h2 hb))) h3
   | map es=>exact Wv.mono hx (bS c (by rintro rfl;exact hi (h.sep i id _ _ _ h1 hg rfl hl h2 hb))) h3
   | loop s=>exact Wv.mono hx (bS c (by rintro rfl;exact hi (h.sep i id _ _ _ h1 hg rfl hl h2 hb))) h3
   | iter m ks=>exact Wv.mono hx (bS c (by rintro rfl;exact hi (h.sep i id _ _ _ h1 hg rfl hl h2 hb))) h3
 ·rw[St.get_put] at h1 h2
  by_cases hi:i=id
  ·subst hi
   by_cases cj:i'=i
   ·exact cj.symm
   ·rw[Qe cj] at h2;exact h.sep i i' o o2 c hg h2 hl l2 b1 b2
  ·rw[Qe hi] at h1
   by_cases cj:i'=id
   ·subst cj;exact h.sep i i' o1 o c h1 hg l1 hl b1 b2
   ·rw[Qe cj] at h2;exact h.sep i i' o1 o2 c h1 h2 l1 l2 b1 b2
 ·rw[St.get_put] at h1
  by_cases hi:i=id
  ·subst hi;exact h.lv i o c hg hl h3
  ·rw[Qe hi] at h1;exact h.lv i o1 c h1 h2 h3
 ·obtain⟨h1,h2⟩:=h.dz c q hc
  refine⟨?_,h2⟩
  rw[bS c]
  ·exact h1
  ·rintro rfl
   have h3:=h.obj id o c hg hb
   cases o with
   | fro cs=>cases hl
   | fmap cs=>cases hl
   | row cs=>obtain⟨⟨_,_,_,h4,_⟩,_⟩:=h3;rw[h1] at h4;injection h4 with h4;subst h4;exact h2.2
   | map es=>obtain⟨_,_,h4,_⟩:=h3;rw[h1] at h4;injection h4 with h4;subst h4;exact h2.2
   | loop s=>obtain⟨_,h4,_⟩:=h3;rw[h1] at h4;injection h4 with h4;subst h4;exact h2.2
   | iter m ks=>obtain⟨_,_,_,_,_,_,_,h4,_⟩:=h3;rw[h1] at h4;injection h4 with h4;subst h4;exact h2.2
theorem Sat.del{E:Env}{st:St}{w:World}(h:Sat E st w)(id:Nat):Sat E (st.del id) w:=by
 have key:∀ i o,(st.del id).get i=some o->st.get i=some o:=fun i o h1=>by
  rw[St.get_del] at h1
  split at h1
  ·simp at h1
  ·exact h1
 exact⟨h.dom,h.fz,fun i o b h1 h2=>h.obj i o b (key _ _ h1) h2,fun i i' o1 o2 b h1 h2=>h.sep i i' o1 o2 b (key _ _ h1) (key _ _ h2),fun i o b h1=>h.lv i o b (key _ _ h1),h.rs,h.dz,h.bt⟩
theorem Sat.tag{E:Env}{st:St}{w:World}(h:Sat E st w){id b t m:Nat}(hb:E.β id=some b)(hs:w.shape? b=some (t,m)):Sat E (st.tag id t) w:=
 ⟨h.dom,h.fz,h.obj,h.sep,h.lv,h.rs,h.dz,fun i u hu=>by
  have hu:(st.bt.set id (some t)).get i=some u:=hu
  rw[Tr.get_set] at hu
  by_cases hi:i=id
  ·rw[Qm hi] at hu;injection hu with hu;subst hu;subst hi;exact⟨b,m,hb,hs⟩
  ·rw[Qe hi] at hu;exact h.bt i u hu⟩
theorem Wb(b off i:Nat):((⟨b,off,none⟩:Addr).add i)=⟨b,off+i,none⟩:=by
 unfold Addr.add;split
 ·rename_i h;simp[h]
 ·rfl
theorem TZ(w:World)(g j:Nat)(cs:Array Value)(t:TypeId)(f:Nat × Nat)(hg:w.heap[g]?=some (.cells cs t f))(hf:f=(0,0)\/cs.size<=f.1)(hj:j < cs.size):w.frozen? ⟨g,j,none⟩=false:=by
 obtain⟨lo,hi⟩:=f
 simp only[World.frozen?,hg]
 rcases hf with hf | hf
 ·injection hf with h1 h2;subst h1;subst h2;simp
 ·simp only at hf
  have:¬(lo<=j):=by omega
  simp[this]
theorem Yr(w:World)(g i:Nat)(cs:Array Value)(t:TypeId)(f:Nat × Nat)(v:Value)(hg:w.heap[g]?=some (.cells cs t f)):
  (w.setCell ⟨g,i,none⟩ v).heap[g]?=some (.cells (cs.setIfInBounds i v) t f):=by
 simp only[World.setCell,Zr,Xj,hg]
 rfl
theorem JO{P:Program}(b off:Nat)(e:TypeId)(f:Nat × Nat):∀(vs:List Value) (i:Nat) (cur:Array Value) (w:World),
  w.heap[b]?=some (.cells cur e f)->(f=(0,0)\/cur.size<=f.1)->off+i+vs.length<=cur.size->(∀ v∈vs,v.oneCell'=true) ->
  ∃ w' cd,(storeCells ⟨b,off,none⟩ vs i).run P w=.ok () w'/\w'.heap[b]?=some (.cells cd e f)/\cd.size=cur.size ∧
   (∀ j,cd[j]?=if off+i<=j/\j < off+i+vs.length then vs[j - (off+i)]? else cur[j]?)/\(∀ k,k≠b->w'.heap[k]?=w.heap[k]?) ∧
   w'.heap.size=w.heap.size/\w'.os=w.os/\w'.tape=w.tape/\w'.output=w.output
 | [],i,cur,w,hg,_,_,_=>⟨w,cur,by simp[storeCells],hg,rfl,fun j=>by simp;omega,fun _ _=>rfl,rfl,rfl,rfl,rfl⟩
 | v::vs,i,cur,w,hg,bv,al,bA=>by
  simp only[QC] at al
  have hc:w.cell? ⟨b,off+i,none⟩=some cur[off+i]:=by
   rw[cell_of_row w b _ cur e f hg];exact QM (by omega)
  have hf:w.frozen? ⟨b,off+i,none⟩=false:=TZ w b _ cur e f hg bv (by omega)
  have h1:(w.setCell ⟨b,off+i,none⟩ v).heap[b]?=some (.cells (cur.setIfInBounds (off+i) v) e f):=Yr w b (off+i) cur e f v hg
  obtain⟨w',cd,r1,r2,r3,r4,r5,r6,r7,r8,r9⟩:=JO (P:=P) b off e f vs (i+1) _ _ h1 (by simpa using bv) (by simp;omega) (fun u hu=>bA u (by simp[hu]))
  refine⟨w',cd,?_,r2,by simpa using r3,fun j=>?_,fun k hk=>?_,by simpa using r6,by rw[r7];rfl,by rw[r8];rfl,by rw[r9];rfl⟩
  ·simp only[storeCells,Sem.run_bind,Wb,run_store P w _ v _ (bA v (by simp)),hc,hf,Q1,Xz,Result.andThen]
   exact r1
  ·rw[r4 j]
   by_cases hj:j=off+i
   ·subst hj
    rw[Qe (by omega),Qm (by simp)]
    simp[(show off+i < cur.size by omega)]
   ·by_cases fu:off+(i+1)<=j/\j < off+(i+1)+vs.length
    ·rw[Qm fu,Qm (by simp only[QC];omega)]
     rw[show j - (off+i)=(j - (off+(i+1)))+1 by omega];simp
    ·rw[Qe fu,Qe (by simp only[QC];omega)]
     rw[XI,Qe (by omega)]
  ·rw[r5 k hk];exact heap_setCell_other w _ k v hk
end Go.AM
namespace Go.AM
theorem wrap_i64{n:Int}(h1:-9223372036854775808<=n)(h2:n<=9223372036854775807):IntKind.i64.wrap n=n:=by
 rw[IntKind.wrap_i64];omega
theorem wrap_in64(n:Int)(h:in64 n=true):IntKind.i64.wrap n=n:=by
 cases n with
 | ofNat m=>have h':=Qk h;exact wrap_i64 (Int.le_trans (by decide) (Int.natCast_nonneg m)) (Int.ofNat_le.2 h')
 | negSucc m=>have h':=Qk h;exact wrap_i64 (by omega) (Int.le_trans (Int.le_of_lt (Int.negSucc_lt_zero m)) (by decide))
theorem cond_same{α:Type}(b:Bool)(x y:α)(h:b=true->x=y):(bif b then x else y)=y:=by
 cases b
 ·rfl
 ·exact h rfl
theorem wr_eq(k:IntKind)(n:Int):wr k n=k.wrap n:=by
 cases k with
 | i64=>exact cond_same _ _ _ fun h=>(wrap_in64 n h).symm
 | _=>rfl
section
variable {E:Env} {st:St} {w:World} {P:Program}
theorem ofCells_sound{agg:Bool}{n:Nat}{l:List AV}{vs:List Value}{r:AV}(h:R2 E w l vs)(hr:Ja agg n l=some r):
  (agg=true->vs.length=n/\Rv E w r (.agg vs.toArray))/\(agg=false->∃ v,vs=[v]/\Rv E w r v):=by
 unfold Ja at hr
 cases agg with
 | true=>
  simp only[Qi] at hr
  cases hn:l.length.beq n
  ·simp[hn] at hr
  ·simp[hn] at hr;subst hr
   have:=Qj hn
   exact⟨fun _=>⟨by rw[<-h.length];exact this,vs.toArray,rfl,by simpa using h⟩,by simp⟩
 | false=>
  simp only[Qq] at hr
  refine⟨by simp,fun _=>?_⟩
  cases l with
  | nil=>simp at hr
  | cons c cs=>
   cases cs with
   | nil=>
    simp at hr;subst hr
    obtain⟨x,xs,rfl,h1,h2⟩:=h
    cases h2
    exact⟨x,rfl,h1⟩
   | cons d ds=>simp at hr
theorem cellsAt_sound{x:AV}{v:Value}{cs:List AV}(hs:Sat E st w)(h:Rv E w x v)(hc:Wy st x=some cs):
  ∃ a,v=.pointer (some a)/\V3 E w a 0 cs:=by
 cases x with
 | fptr ds off=>
  obtain⟨a,rfl,_,hm⟩:=h
  simp[Wy] at hc;subst hc
  exact⟨_,rfl,hm.at off⟩
 | ptr id off=>
  obtain⟨b,hb,rfl⟩:=h
  have e:(⟨b,off,none⟩:Addr)=(⟨b,0,none⟩:Addr).add off:=by rw[Wb];simp
  simp only[Wy] at hc
  cases ho:st.get id with
  | none=>simp[ho] at hc
  | some o=>
   have bR:=hs.obj id o b ho hb
   cases o with
   | loop s=>simp[ho] at hc
   | row ds=>simp[ho] at hc;subst hc;exact⟨_,rfl,e ▸ bR.2.at off⟩
   | fro ds=>simp[ho] at hc;subst hc;exact⟨_,rfl,e ▸ bR.2.at off⟩
   | map es=>simp[ho] at hc
   | fmap es=>simp[ho] at hc
   | iter m ks=>simp[ho] at hc
 | _=>simp[Wy] at hc
theorem Sf{t:TypeId}{d:TypeDesc}(hd:P.underlying t=some d):(isAgg t).run P w=.ok (Uh d) w:=by
 simp only[isAgg,Sem.run_bind,underlying,run_program,Result.andThen,hd]
 cases d<;>rfl
theorem VW{t:TypeId}{i:TypeInfo}(hi:P.info? t=some i):(sizeOf t).run P w=.ok i.size w:=by
 simp[sizeOf,typeInfo,hi]
theorem loadA_sound{x:AV}{v:Value}{r:AV}{t:TypeId}{d:TypeDesc}{i:TypeInfo}{n:Nat}(hd:P.underlying t=some d)(hi:P.info? t=some i)(hn:i.size=n)
  (hs:Sat E st w) (h:Rv E w x v) (hr:Vf (Uh d) n st x=some r):∃ u,(Instr.loadAt t v).run P w=.ok u w/\Rv E w r u:=by
 unfold Vf at hr
 cases hc:Wy st x with
 | none=>simp[hc] at hr
 | some cs=>
  simp[hc] at hr
  obtain⟨a,rfl,hm⟩:=cellsAt_sound hs h hc
  obtain⟨vs,hv,bo⟩:=(hm.take n).vals
  obtain⟨k1,k2⟩:=ofCells_sound hv hr
  cases ke:Uh d with
  | true=>
   obtain⟨e1,e2⟩:=k1 ke
   refine⟨_,?_,e2⟩
   have:=run_loadCells_list (P:=P) w a vs (fun j v hj=>by have:=bo j v hj;simpa using this)
   rw[e1] at this
   simp[Instr.loadAt,Instr.sureAddr,loadVar,Sf hd,ke,VW hi,hn,this]
  | false=>
   obtain⟨v,rfl,e2⟩:=k2 ke
   refine⟨v,?_,e2⟩
   have cP:w.cell? a=some v:=by have:=bo 0 v rfl;simpa [Addr.add] using this
   simp[Instr.loadAt,Instr.sureAddr,loadVar,Sf hd,ke,cP]
theorem setCells_get(cs xs:List AV)(off j:Nat)(h:off<=cs.length):
  (setCells cs off xs)[j]?=if off<=j/\j < off+xs.length then xs[j - off]? else cs[j]?:=by
 unfold setCells
 have hl:(cs.take off).length=off:=by simp;omega
 by_cases h1:j < off
 ·rw[Xk (by omega),Qe (by omega),X6,Qm h1]
 ·rw[Xg (by omega),hl]
  by_cases h2:j < off+xs.length
  ·rw[Xk (by omega),Qm (by omega)]
  ·rw[Xg (by omega),Qe (by omega),XV]
   congr 1;omega
theorem TS(cs xs:List AV)(off:Nat)(h:off+xs.length<=cs.length):(setCells cs off xs).length=cs.length:=by
 simp[setCells];omega
theorem setCells_length2(cs xs:List AV)(off:Nat)(h:off<=cs.length):(setCells cs off xs).length=max cs.length (off+xs.length):=by
 simp[setCells];omega
theorem write_row2{id b off:Nat}{cs xs:List AV}{vs:List Value}(hs:Sat E st w)(hg:st.get id=some (.row cs))(hb:E.β id=some b)(hx:R2 E w xs vs)
  (pg:off<=cs.length) (al:off+xs.length<=cs.length\/∃ e m,w.shape? b=some (e,m)/\off+xs.length<=m) (bA:∀ v∈vs,v.oneCell'=true):
  ∃ w',(storeCells ⟨b,off,none⟩ vs).run P w=.ok () w'/\Sat E (st.put id (.row (setCells cs off xs))) w'/\Ext E w E w':=by
 obtain⟨⟨c,e,f,gQ,aY,bv⟩,hm⟩:=hs.obj id _ b hg hb
 have hl:=hx.length
 have eT:off+xs.length<=c.size:=by
  rcases al with h|⟨e',m,h1,h2⟩
  ·omega
  ·unfold World.shape? at h1;rw[gQ] at h1
   simp only[Qa,Q2] at h1
   omega
 obtain⟨w',cd,r1,r2,r3,r4,r5,r6,r7,r8,r9⟩:=JO (P:=P) b off e f vs 0 c w gQ (bv.imp_right And.left) (by omega) bA
 have cH:∀ s,w.shape? b=some s->w'.shape? b=some s:=fun s h=>by
  unfold World.shape? at h ⊢;rw[gQ] at h;rw[r2];simpa [r3] using h
 refine⟨w',r1,Sat.write hs id b (.row cs) _ hg rfl hb r5 r6 cH r7 r8 r9 rfl fun eU=>⟨⟨cd,e,f,r2,?_,by rw[r3];exact bv⟩,?_⟩⟩
 ·rw[setCells_length2 _ _ _ pg,r3];omega
 ·refine V3.of_get fun j d hd=>?_
  have bo:w'.cell? ((⟨b,0,none⟩:Addr).add (0+j))=cd[j]?:=by
   rw[Wb];simpa using cell_of_row w' b j cd e f r2
  rw[bo,r4 j]
  rw[setCells_get _ _ _ _ pg] at hd
  by_cases hj:off<=j/\j < off+xs.length
  ·rw[Qm hj] at hd
   rw[Qm (by omega)]
   obtain⟨v,h1,h2⟩:=hx.get _ hd
   exact⟨v,by simpa using h1,Rv.mono eU _ _ h2⟩
  ·rw[Qe hj] at hd
   rw[Qe (by omega)]
   obtain⟨v,h1,h2⟩:=hm.get j hd
   refine⟨v,?_,Rv.mono eU _ _ h2⟩
   rw[Wb] at h1
   have:=cell_of_row w b j c e f gQ
   simp only[Q7] at h1
   rw[this] at h1;exact h1
theorem write_row{id b off:Nat}{cs xs:List AV}{vs:List Value}(hs:Sat E st w)(hg:st.get id=some (.row cs))(hb:E.β id=some b)(hx:R2 E w xs vs)
  (al:off+xs.length<=cs.length) (bA:∀ v∈vs,v.oneCell'=true):
  ∃ w',(storeCells ⟨b,off,none⟩ vs).run P w=.ok () w'/\Sat E (st.put id (.row (setCells cs off xs))) w'/\Ext E w E w':=by
 obtain⟨⟨c,e,f,gQ,aY,bv⟩,hm⟩:=hs.obj id _ b hg hb
 have hl:=hx.length
 obtain⟨w',cd,r1,r2,r3,r4,r5,r6,r7,r8,r9⟩:=JO (P:=P) b off e f vs 0 c w gQ (bv.imp_right And.left) (by omega) bA
 have cH:∀ s,w.shape? b=some s->w'.shape? b=some s:=fun s h=>by
  unfold World.shape? at h ⊢;rw[gQ] at h;rw[r2];simpa [r3] using h
 refine⟨w',r1,Sat.write hs id b (.row cs) _ hg rfl hb r5 r6 cH r7 r8 r9 rfl fun eU=>⟨⟨cd,e,f,r2,?_,by rw[r3];exact bv⟩,?_⟩⟩
 ·rw[TS _ _ _ al,r3];exact aY
 ·refine V3.of_get fun j d hd=>?_
  have bo:w'.cell? ((⟨b,0,none⟩:Addr).add (0+j))=cd[j]?:=by
   rw[Wb];simpa using cell_of_row w' b j cd e f r2
  rw[bo,r4 j]
  rw[setCells_get _ _ _ _ (by omega)] at hd
  by_cases hj:off<=j/\j < off+xs.length
  ·rw[Qm hj] at hd
   rw[Qm (by omega)]
   obtain⟨v,h1,h2⟩:=hx.get _ hd
   exact⟨v,by simpa using h1,Rv.mono eU _ _ h2⟩
  ·rw[Qe hj] at hd
   rw[Qe (by omega)]
   obtain⟨v,h1,h2⟩:=hm.get j hd
   refine⟨v,?_,Rv.mono eU _ _ h2⟩
   rw[Wb] at h1
   have:=cell_of_row w b j c e f gQ
   simp only[Q7] at h1
   rw[this] at h1;exact h1
theorem storeA_sound{a x:AV}{va vx:Value}{af:St}{t:TypeId}{i:TypeInfo}{n:Nat}(hi:P.info? t=some i)(hn:i.size=n)
  (hs:Sat E st w) (ha:Rv E w a va) (hx:Rv E w x vx) (hr:Vt n st a x=some af):
  ∃ w',(Instr.storeAt t va vx).run P w=.ok () w'/\Sat E af w'/\Ext E w E w':=by
 cases a with
 | ptr id off=>
  obtain⟨b,hb,rfl⟩:=ha
  simp only[Vt] at hr
  cases ho:st.get id with
  | none=>simp[ho] at hr
  | some o=>
   cases o with
   | loop s=>simp[ho] at hr
   | row cs=>
    simp only[ho] at hr
    cases aj:x.cells.length.beq n&&(off+n).ble cs.length&&x.cells.all AV.one
    ·simp[aj] at hr
    ·simp only[aj,Qi,Qa] at hr
     simp only[Qd] at aj
     obtain⟨⟨c1,c2⟩,c3⟩:=aj
     have c1:=Qj c1
     have c2:=Qk c2
     have bB:=hx.cells
     obtain⟨w',r1,r2,r3⟩:=write_row (P:=P) (off:=off) hs ho hb bB (by omega) (bB.one c3)
     refine⟨w',?_,hr ▸ r2,r3⟩
     have cI:vx.cells.size=i.size:=by rw[hn,<-c1,bB.length];simp
     simp[Instr.storeAt,Instr.sureAddr,storeVar,VW hi,cI,r1]
   | fro cs=>simp[ho] at hr
   | map es=>simp[ho] at hr
   | fmap es=>simp[ho] at hr
   | iter m ks=>simp[ho] at hr
 | _=>simp[Vt] at hr
end
end Go.AM
namespace Go.AM
section
variable {E:Env} {st:St} {w:World} {P:Program}
theorem UF{op:BinOp}{a b:Bool}{r:AV}{s:Sem Value}{sb:Sem Bool}(hr:boolBin op a b=some r)(hb:sb.run P w=.ok (a==b) w)
  (he:op=.eql->s=do pure (.bool (<- sb))) (hn:op=.neq->s=do pure (.bool (!(<- sb)))):∃ u,s.run P w=.ok u w/\Rv E w r u:=by
 cases op<;>simp[boolBin] at hr
 ·subst hr;exact⟨.bool (a==b),by rw[he rfl];simp[hb],rfl⟩
 ·subst hr;exact⟨.bool (!(a==b)),by rw[hn rfl];simp[hb],rfl⟩
theorem bitsOf_sound{op:BinOp}{k:IntKind}{x y:Int}{r:AV}(hr:bitsOf op k x y=some r):∃ u,(Op.intBits op k x y).run P w=.ok u w/\Rv E w r u:=by
 cases op<;>simp only[bitsOf,Qa,reduceCtorEq] at hr<;>subst hr<;>exact⟨_,rfl,rfl⟩
theorem intBin_sound{op:BinOp}{k:IntKind}{a b:Int}{r:AV}{t:TypeId}(hr:T9 op k a b=some r):∃ u,(binOp op t (.int k a) (.int k b)).run P w=.ok u w/\Rv E w r u:=by
 cases op<;>simp only[T9] at hr<;>try (simp only[Qa] at hr;subst hr)
 all_goals first
  | (refine⟨_,?_,rfl⟩;simp[binOp,Op.intArith,wr_eq];done)
  | (refine⟨_,?_,rfl⟩;simp[binOp,Op.intCmp];done)
  | (split at hr;simp at hr;rename_i hz;simp only[Qa] at hr;subst hr;refine⟨_,?_,rfl⟩;simp[binOp,Op.intDiv,hz,wr_eq])
  | (obtain⟨u,h1,h2⟩:=bitsOf_sound (E:=E) (P:=P) (w:=w) hr;exact⟨u,by simpa [binOp] using h1,h2⟩)
  | simp at hr
theorem shiftBin_sound{op:BinOp}{k k':IntKind}{a b:Int}{r:AV}{t:TypeId}(hs:KK op=true)(hr:shiftBin op k a b=some r):∃ u,(binOp op t (.int k a) (.int k' b)).run P w=.ok u w/\Rv E w r u:=by
 unfold shiftBin at hr
 split at hr
 ·simp at hr
 ·rename_i hb
  cases op<;>simp[KK] at hs<;>simp only[Qa] at hr<;>subst hr
  ·exact⟨_,by simp[binOp,Op.shift,hb],rfl⟩
  ·exact⟨_,by simp[binOp,Op.shift,hb],rfl⟩
theorem UO:∀(x y:List UInt8),WQ (x.map (·.toNat)) (y.map (·.toNat))=(x==y)
 | [],[]=>rfl
 | [],_::_=>rfl
 | _::_,[]=>rfl
 | a::x,b::y=>by
  have:(a.toNat).beq b.toNat=(a==b):=by
   by_cases h:a=b
   ·subst h;simp
   ·have h':a.toNat≠b.toNat:=fun e=>h (UInt8.toNat_inj.1 e)
    have e1:(a==b)=false:=by simpa using h
    rw[e1]
    cases e2:(a.toNat).beq b.toNat
    ·rfl
    ·exact absurd (Qj e2) h'
  simp only[Q4,WQ,UO x y,this]
  rfl
theorem natsLess_iff:∀(x y:List UInt8),Jk (x.map (·.toNat)) (y.map (·.toNat))=Op.bytesLess x y
 | _,[]=>by simp[Jk,Op.bytesLess]
 | [],_::_=>rfl
 | a::x,b::y=>by
  have h1:(a.toNat).beq b.toNat=(a==b):=by
   by_cases h:a=b
   ·subst h;simp
   ·have h':a.toNat≠b.toNat:=fun e=>h (UInt8.toNat_inj.1 e)
    have e1:(a==b)=false:=by simpa using h
    rw[e1]
    cases e2:(a.toNat).beq b.toNat
    ·rfl
    ·exact absurd (Qj e2) h'
  have h2:(a.toNat).blt b.toNat=decide (a < b):=by
   by_cases h:a.toNat < b.toNat
   ·have:a < b:=h
    simp[this,Nat.blt,Nat.ble_eq,Nat.succ_le_of_lt h]
   ·have hn:¬(a < b):=h
    simp only[hn,decide_false]
    cases e:Nat.blt a.toNat b.toNat
    ·rfl
    ·exact absurd (Qk e) (by omega)
  simp only[Q4,Jk,Op.bytesLess,natsLess_iff x y,h1,h2]
theorem strBin_sound{op:BinOp}{a b:List Nat}{sa sb:ByteArray}{r:AV}{t:TypeId}(ha:sa.data.toList.map (·.toNat)=a)(hb:sb.data.toList.map (·.toNat)=b)
  (hr:strBin op a b=some r):∃ u,(binOp op t (.string sa) (.string sb)).run P w=.ok u w/\Rv E w r u:=by
 have xM:WQ a b=(sa.toList==sb.toList):=by rw[<-ha,<-hb,UO,ByteArray.toList_eq,ByteArray.toList_eq]
 have xN:Jk a b=Op.bytesLess sa.toList sb.toList:=by rw[<-ha,<-hb,natsLess_iff,ByteArray.toList_eq,ByteArray.toList_eq]
 by_cases cy:op=.add
 ·subst cy
  simp only[strBin] at hr
  split at hr
  ·rename_i al
   simp only[Qa] at hr;subst hr
   have h1:a.length=sa.size:=by rw[<-ha];simp
   have h2:b.length=sb.size:=by rw[<-hb];simp
   refine⟨.string (sa++sb),?_,sa++sb,rfl,?_⟩
   ·have:¬(9223372036854775807 < ((sa.size:Int)+(sb.size:Int))):=by omega
    have e:IntKind.i64.max=9223372036854775807:=by decide
    simp[binOp,Op.stringOp,e,this]
   ·rw[<-ha,<-hb,<-QQ,ByteArray.data_append,Zi]
  ·simp at hr
 ·cases op<;>simp only[strBin,xM,xN,Qa,reduceCtorEq] at hr<;>try subst hr
  all_goals first
   | (refine⟨_,?_,rfl⟩;simp[binOp,Op.stringOp];done)
   | exact absurd rfl cy
theorem binA_sound{op:BinOp}{x y r:AV}{vx vy:Value}{t:TypeId}{X Y:Operand}(hx:Rv E w x vx)(hy:Rv E w y vy)(hr:binA op x y=some r)
  (hb:(∃ a,x=.bool a)->P.underlying t=some .bool):∃ u,(do eqGuard op t X Y vx vy;binOp op t vx vy:Sem Value).run P w=.ok u w/\Rv E w r u:=by
 cases x<;>cases y<;>simp only[binA,reduceCtorEq] at hr
 case bool.bool a b=>
  have hx:vx=.bool a:=hx
  have hy:vy=.bool b:=hy
  subst hx;subst hy
  have hg:(eqGuard op t X Y (.bool a) (.bool b)).run P w=.ok () w:=by unfold eqGuard;cases op<;>simp
  have gR:∀ n,(Op.equalIn (n+1) t (.bool a) (.bool b)).run P w=.ok (a==b) w:=fun n=>by
   simp[Op.equalIn,underlying,hb ⟨a,rfl⟩]
  have hq:(Op.equal t (.bool a) (.bool b)).run P w=.ok (a==b) w:=gR 9999
  simp only[Sem.run_bind,hg,Result.andThen]
  exact UF hr hq (fun h=>by subst h;rfl) (fun h=>by subst h;rfl)
 case int.int k a k' b=>
  have hx:vx=.int k a:=hx
  have hy:vy=.int k' b:=hy
  subst hx;subst hy
  have hg:(eqGuard op t X Y (.int k a) (.int k' b)).run P w=.ok () w:=by unfold eqGuard;cases op<;>simp
  simp only[Sem.run_bind,hg,Result.andThen]
  cases cH:KK op
  ·simp only[cH,Qq] at hr
   split at hr
   ·rename_i hk;subst hk;exact intBin_sound hr
   ·simp at hr
  ·simp only[cH,Qi] at hr;exact shiftBin_sound cH hr
 case str.str a b=>
  obtain⟨sa,rfl,ha⟩:=hx
  obtain⟨sb,rfl,bw⟩:=hy
  have hg:(eqGuard op t X Y (.string sa) (.string sb)).run P w=.ok () w:=by unfold eqGuard;cases op<;>simp
  simp only[Sem.run_bind,hg,Result.andThen]
  exact strBin_sound ha bw hr
inductive NilV:Nat->Value->Bool->Prop
 | p0:NilV 0 (.pointer none) true
 | p1 (a:Addr):NilV 0 (.pointer (some a)) false
 | s0:NilV 1 (.slice none 0 0) true
 | s1 (a:Addr) (n k:Nat):NilV 1 (.slice (some a) n k) false
 | m0:NilV 2 (.map none) true
 | m1 (b:Nat):NilV 2 (.map (some b)) false
 | f0:NilV 3 .nilFunc true
 | f1 (f:Fn) (x y:Array Value):NilV 3 (.func f x y) false
 | i0:NilV 4 .nilIface true
 | i1 (t:TypeId) (y:Value):NilV 4 (.iface t y) false
theorem isNil_sound{c:Nat}{x:AV}{v:Value}{b:Bool}(hc:c < 5)(hx:Rv E w x v)(hb:isNil c x=some b):NilV c v b:=by
 obtain rfl | rfl | rfl | rfl | rfl:c=0\/c=1\/c=2\/c=3\/c=4:=by omega
 all_goals (cases x<;>simp[isNil] at hb<;>subst hb)
 all_goals first
  | (have hx:v=_:=hx;subst hx;constructor;done)
  | (obtain⟨_,_,hx⟩:=hx;subst hx;constructor;done)
  | (obtain⟨_,hx,_⟩:=hx;subst hx;constructor;done)
  | (obtain⟨_,_,hx,_⟩:=hx;subst hx;constructor;done)
  | (obtain⟨_,_,_,_,_,hx,_⟩:=hx;subst hx;constructor;done)
theorem nilClass_lt{d:TypeDesc}{c:Nat}(h:Yy d=some c):c < 5:=by
 cases d<;>simp[Yy] at h<;>omega
theorem eqNilA_sound{op:BinOp}{x y r:AV}{vx vy:Value}{t:TypeId}{d:TypeDesc}{c:Nat}{X Y:Operand}(hd:P.underlying t=some d)(hc:Yy d=some c)
  (cy:op=.eql\/op=.neq) (hk:c=4->(∃ v,X=.const v)\/(∃ v,Y=.const v))
  (hx:Rv E w x vx) (hy:Rv E w y vy) (hr:Rg c op x y=some r):∃ u,(do eqGuard op t X Y vx vy;binOp op t vx vy:Sem Value).run P w=.ok u w/\Rv E w r u:=by
 unfold Rg at hr
 cases ha:isNil c x with
 | none=>simp[ha] at hr
 | some a=>
  cases hb:isNil c y with
  | none=>simp[ha,hb] at hr
  | some b=>
   simp only[ha,hb,Qg] at hr
   cases ek:a||b
   ·simp[ek] at hr
   ·simp only[ek,Qi] at hr
    have h1:=isNil_sound (nilClass_lt hc) hx ha
    have h2:=isNil_sound (nilClass_lt hc) hy hb
    clear ha hb hx hy
    have hg:(eqGuard op t X Y vx vy).run P w=.ok () w:=by
     unfold eqGuard
     rcases cy with rfl | rfl<;>cases d<;>simp[Yy] at hc<;>subst hc<;>cases h1<;>cases h2<;>
      (first | (simp;done) | (rcases hk rfl with⟨v,rfl⟩|⟨v,rfl⟩<;>simp;done))
    have gR:∀ n,(Op.equalIn (n+1) t vx vy).run P w=.ok (a==b) w:=fun n=>by
     simp only[Op.equalIn,underlying,Sem.run_bind,run_program,Result.andThen,hd]
     cases d<;>simp[Yy] at hc<;>subst hc<;>cases h1<;>cases h2<;>first | (simp;done) | (simp at ek;done)
    have hq:(Op.equal t vx vy).run P w=.ok (a==b) w:=gR 9999
    simp only[Sem.run_bind,hg,Result.andThen]
    have rX:∀(_:op=.eql),binOp op t vx vy=(do pure (.bool (<- Op.equal t vx vy)):Sem Value):=fun h=>by
     subst h
     cases d<;>simp[Yy] at hc<;>subst hc<;>cases h1<;>cases h2<;>rfl
    have ph:∀(_:op=.neq),binOp op t vx vy=(do pure (.bool (!(<- Op.equal t vx vy))):Sem Value):=fun h=>by
     subst h
     cases d<;>simp[Yy] at hc<;>subst hc<;>cases h1<;>cases h2<;>rfl
    exact UF hr hq rX ph
theorem unA_sound{op:UnOp}{x r:AV}{v:Value}(hx:Rv E w x v)(hr:unA op x=some r):∃ u,(Op.unary op v).run P w=.ok u w/\Rv E w r u:=by
 cases op<;>cases x<;>simp[unA] at hr<;>subst hr<;>(have hx:v=_:=hx)<;>subst hx
 ·exact⟨_,rfl,by simp[wr_eq,Rv]⟩
 ·exact⟨_,rfl,rfl⟩
end
end Go.AM
namespace Go.AM
section
variable {E:Env} {st:St} {w:World} {P:Program}
theorem faddrA_sound{off:Nat}{x r:AV}{v:Value}(hx:Rv E w x v)(hr:WG off x=some r):∃ a,v=.pointer (some a)/\Rv E w r (.pointer (some (a.add off))):=by
 cases x<;>simp[WG] at hr<;>subst hr
 ·obtain⟨b,hb,rfl⟩:=hx
  exact⟨_,rfl,b,hb,by rw[Wb]⟩
 ·obtain⟨a,rfl,hf,hm⟩:=hx
  exact⟨_,rfl,a,by rw[add_add],hf,hm⟩
theorem fieldAt_sound{s:TypeId}{fs:Array Field}{f:Nat}{fd:Field}{i:TypeInfo}{x r:AV}{v:Value}(hs:P.underlying s=some (.struct fs))(hf:fs[f]?=some fd)
  (hi:P.info? fd.type=some i) (hz:i.size≠0) (hx:Rv E w x v) (hr:WG fd.offset x=some r):∃ u,(Instr.fieldAt s v f).run P w=.ok u w/\Rv E w r u:=by
 obtain⟨a,rfl,h⟩:=faddrA_sound hx hr
 exact⟨_,by simp[Instr.fieldAt,underlying,hs,hf,Instr.sureAddr,fieldPlace,VW hi,hz],h⟩
theorem iaddrA_sound{t e:TypeId}{i:TypeInfo}{x y r:AV}{v u:Value}(ht:P.underlying t=some (.slice e))(hi:P.info? e=some i)
  (hx:Rv E w x v) (hy:Rv E w y u) (hr:VC i.size x y=some r):∃ q,(Instr.indexAt t v u).run P w=.ok q w/\Rv E w r q:=by
 unfold VC at hr
 cases y<;>try (simp only[reduceCtorEq] at hr;done)
 rename_i k n
 have hy:u=.int k n:=hy
 subst hy
 cases n<;>try (simp only[reduceCtorEq] at hr;done)
 rename_i n
 simp only at hr
 cases x<;>simp only[reduceCtorEq] at hr
 ·rename_i m cs ex
  cases hb:(n+1).ble m
  ·simp[hb] at hr
  ·simp only[hb,Qi] at hr
   have hb:=Qk hb
   cases cs with
   | nil=>simp at hr
   | cons c cs=>
    simp only[Qa] at hr;subst hr
    obtain⟨a,cap,rfl,h1,h2,h3,h4⟩:=hx
    refine⟨.pointer (some (a.add (n*i.size))),?_,a,rfl,h3 (by simp),h4⟩
    have am:n < m:=by omega
    simp[Instr.indexAt,asIntOf,underlying,ht,am,VW hi]
 ·rename_i id off m s cap lo
  cases hb:(n+1).ble m&&s.beq i.size
  ·simp[hb] at hr
  ·simp only[hb,Qi,Qa] at hr;subst hr
   simp only[Qd] at hb
   have hb:=Qk hb.1
   obtain⟨b,c,e',m',h0,rfl,h1,h2⟩:=hx
   refine⟨.pointer (some ((⟨b,off,none⟩:Addr).add (n*i.size))),?_,b,h0,by rw[Wb]⟩
   have am:n < m:=by omega
   simp[Instr.indexAt,asIntOf,underlying,ht,am,VW hi]
theorem aaddrA_sound{t e:TypeId}{len:Nat}{i:TypeInfo}{x y r:AV}{v u:Value}(ht:P.underlying t=some (.array len e))(hi:P.info? e=some i)
  (hx:Rv E w x v) (hy:Rv E w y u) (hr:UC len i.size x y=some r):∃ q,(Instr.indexAt t v u).run P w=.ok q w/\Rv E w r q:=by
 unfold UC at hr
 cases y<;>try (simp only[reduceCtorEq] at hr;done)
 rename_i k n
 have hy:u=.int k n:=hy
 subst hy
 cases n<;>try (simp only[reduceCtorEq] at hr;done)
 rename_i n
 simp only at hr
 cases hb:(n+1).ble len
 ·simp[hb] at hr
 ·simp only[hb,Qi] at hr
  have hb:=Qk hb
  obtain⟨a,rfl,h⟩:=faddrA_sound hx hr
  refine⟨_,?_,h⟩
  have am:n < len:=by omega
  simp[Instr.indexAt,asIntOf,underlying,ht,am,VW hi,Instr.sureAddr]
theorem partA_sound{t:TypeId}{d:TypeDesc}{i:TypeInfo}{off:Nat}{cs:List AV}{vs:List Value}{r:AV}(hd:P.underlying t=some d)(hi:P.info? t=some i)
  (hx:R2 E w cs vs) (hr:partA (Uh d) off i.size cs=some r):∃ u,(part t vs.toArray off).run P w=.ok u w/\Rv E w r u:=by
 unfold partA at hr
 cases ke:Uh d with
 | true=>
  simp only[ke,Qi] at hr
  cases hb:(off+i.size).ble cs.length
  ·simp[hb] at hr
  ·simp only[hb,Qi,Qa] at hr;subst hr
   refine⟨.agg (vs.toArray.extract off (off+i.size)),?_,_,rfl,?_⟩
   ·simp[part,Sf hd,ke,VW hi]
   ·have:=(hx.drop off).take i.size
    simpa [List.extract_eq_take_drop] using this
 | false=>
  simp only[ke,Qq] at hr
  obtain⟨u,h1,h2⟩:=hx.get _ hr
  exact⟨u,by simp[part,Sf hd,ke,h1],h2⟩
theorem fieldA_sound{s:TypeId}{fs:Array Field}{f:Nat}{fd:Field}{d:TypeDesc}{i:TypeInfo}{x r:AV}{v:Value}(hs:P.underlying s=some (.struct fs))(hf:fs[f]?=some fd)
  (hd:P.underlying fd.type=some d) (hi:P.info? fd.type=some i) (hx:Rv E w x v) (hr:TN (Uh d) fd.offset i.size x=some r):
  ∃ u,(Instr.field s v f).run P w=.ok u w/\Rv E w r u:=by
 cases x<;>simp only[TN,reduceCtorEq] at hr
 obtain⟨vs,rfl,h⟩:=hx
 obtain⟨u,h1,h2⟩:=partA_sound (vs:=vs.toList) hd hi h hr
 exact⟨u,by simpa [Instr.field,underlying,hs,hf,asAgg] using h1,h2⟩
theorem aindexA_sound{t e:TypeId}{len:Nat}{d:TypeDesc}{i:TypeInfo}{x y r:AV}{v u:Value}(ht:P.underlying t=some (.array len e))
  (hd:P.underlying e=some d) (hi:P.info? e=some i) (hx:Rv E w x v) (hy:Rv E w y u) (hr:aindexA (Uh d) len i.size x y=some r):
  ∃ q,(Instr.index t v u).run P w=.ok q w/\Rv E w r q:=by
 unfold aindexA at hr
 cases y<;>try (simp only[reduceCtorEq] at hr;done)
 rename_i k n
 have hy:u=.int k n:=hy
 subst hy
 cases n<;>try (simp only[reduceCtorEq] at hr;done)
 rename_i n
 simp only at hr
 cases hb:(n+1).ble len
 ·simp[hb] at hr
 ·simp only[hb,Qi] at hr
  have hb:=Qk hb
  cases x<;>simp only[TN,reduceCtorEq] at hr
  obtain⟨vs,rfl,h⟩:=hx
  obtain⟨q,h1,h2⟩:=partA_sound (vs:=vs.toList) hd hi h hr
  have am:n < len:=by omega
  exact⟨q,by simpa [Instr.index,asIntOf,underlying,ht,am,VW hi] using h1,h2⟩
theorem sindexA_sound{t:TypeId}{x y r:AV}{v u:Value}(ht:P.underlying t=some .string)(hx:Rv E w x v)(hy:Rv E w y u)(hr:sindexA x y=some r):
  ∃ q,(Instr.index t v u).run P w=.ok q w/\Rv E w r q:=by
 unfold sindexA at hr
 cases y<;>try (simp only[reduceCtorEq] at hr;done)
 rename_i k n
 have hy:u=.int k n:=hy
 subst hy
 cases n<;>try (simp only[reduceCtorEq] at hr;done)
 rename_i n
 simp only at hr
 cases x<;>simp only[reduceCtorEq] at hr
 rename_i l
 obtain⟨s,rfl,hs⟩:=hx
 cases hl:l[n]? with
 | none=>simp[hl] at hr
 | some b=>
  simp only[hl,Qa] at hr;subst hr
  have hb:(s.data.toList)[n]?.map (·.toNat)=some b:=by rw[<-Q5,hs,hl]
  cases bw:(s.data.toList)[n]? with
  | none=>simp[bw] at hb
  | some c=>
   simp only[bw,Ql,Qa] at hb
   have am:n < s.size:=by
    have:=(Qt.1 bw).1
    simpa using this
   have hg:s[n]?=some c:=by
    rw[ByteArray.getElem?_lt' s n am]
    have:s.data[n]?=some c:=by simpa using bw
    rw[QM (by simpa using am)] at this
    injection this with this
    exact Xn some this
   exact⟨.int .u8 c.toNat,by simp[Instr.index,asIntOf,underlying,ht,hg],by rw[<-hb];rfl⟩
theorem convA_sound{s t:TypeId}{ds:TypeDesc}{k:IntKind}{x r:AV}{v:Value}(hs:P.underlying s=some ds)(ht:P.underlying t=some (.int k))(hx:Rv E w x v)(hr:convA k x=some r):
  ∃ u,(convert s t v).run P w=.ok u w/\Rv E w r u:=by
 cases x<;>simp only[convA,reduceCtorEq] at hr
 rename_i k' n
 have hx:v=.int k' n:=hx
 subst hx
 simp only[Qa] at hr;subst hr
 refine⟨.int k (k.wrap n),?_,by simp[Rv,wr_eq]⟩
 simp only[convert,underlying,Sem.run_bind,run_program,Result.andThen,hs,ht]
 simp[Conv.intToInt]
theorem extractA_sound{i:Nat}{x r:AV}{v:Value}(hx:Rv E w x v)(hr:WJ i x=some r):∃ u,(Instr.extract v i).run P w=.ok u w/\Rv E w r u:=by
 cases x<;>simp only[WJ,reduceCtorEq] at hr
 obtain⟨vs,rfl,h⟩:=hx
 obtain⟨u,h1,h2⟩:=h.get _ hr
 refine⟨u,?_,h2⟩
 have:vs[i]?=some u:=by simpa using h1
 simp[Instr.extract,this]
theorem RvEs.length:∀{es:List (AV × AV)} {l:List MapEntry},RvEs E w es l->es.length=l.length
 | [],_,h=>by subst h;rfl
 | (_,_)::es,_,⟨x,xs,h,_,_,h2⟩=>by subst h;simp[RvEs.length h2]
def lenOk(x:AV)(d:TypeDesc):Prop:=
 match x with
 | .str _=>d=.string
 | .nilmap=>∃ k e,d=.map k e
 | .map _=>∃ k e,d=.map k e
 | _=>∃ e,d=.slice e
theorem lenA_sound{t ty:TypeId}{ts:Array TypeId}{d:TypeDesc}{x r:AV}{v:Value}(be:ts[0]?=some t)(ht:P.underlying t=some d)
  (bB:lenOk x d)
  (hs:Sat E st w) (hx:Rv E w x v) (hr:Wm st x=some r):∃ u,(Builtin.len_ ts ty #[v]).run P w=.ok u w/\Rv E w r u:=by
 unfold lenOk at bB
 cases x<;>simp only[Wm,reduceCtorEq] at hr<;>try (simp only[Qa] at hr;subst hr)
 ·obtain⟨s,rfl,hl⟩:=hx
  simp only at bB;subst bB
  have:s.size=s.data.toList.length:=by simp
  exact⟨goInt s.size,by simp[Builtin.len_,be,underlying,ht],by rw[<-hl];simp[Rv,goInt]⟩
 ·have hx:v=.slice none 0 0:=hx
  obtain⟨e,rfl⟩:=bB;subst hx
  exact⟨goInt 0,by simp[Builtin.len_,be,underlying,ht],rfl⟩
 ·obtain⟨e,rfl⟩:=bB
  obtain⟨a,cap,rfl,_⟩:=hx
  exact⟨goInt _,by simp[Builtin.len_,be,underlying,ht],rfl⟩
 ·obtain⟨e,rfl⟩:=bB
  obtain⟨b,c,e',m',h0,rfl,_⟩:=hx
  exact⟨goInt _,by simp[Builtin.len_,be,underlying,ht],rfl⟩
 ·have hx:v=.map none:=hx
  obtain⟨k,e,rfl⟩:=bB;subst hx
  exact⟨goInt 0,by simp[Builtin.len_,be,underlying,ht],rfl⟩
 ·obtain⟨k,e,rfl⟩:=bB
  rename_i id
  obtain⟨b,hb,rfl⟩:=hx
  cases ho:st.get id with
  | none=>simp[ho] at hr
  | some o=>
   cases o with
   | loop s=>simp[ho] at hr
   | map es=>
    simp only[ho,Qa] at hr;subst hr
    obtain⟨l,clock,h1,h2,_⟩:=hs.obj id _ b ho hb
    have hg:(getObj b).run P w=.ok (.map l clock) w:=by simp[getObj,Sem.run,h1]
    exact⟨goInt l.size,by simp[Builtin.len_,be,underlying,ht,hg],by rw[RvEs.length h2];simp[Rv,goInt]⟩
   | row _=>simp[ho] at hr
   | fro _=>simp[ho] at hr
   | fmap _=>simp[ho] at hr
   | iter _ _=>simp[ho] at hr
theorem capA_sound{t ty e:TypeId}{ts:Array TypeId}{x r:AV}{v:Value}(be:ts[0]?=some t)(ht:P.underlying t=some (.slice e))(hx:Rv E w x v)(hr:capA x=some r):
  ∃ u,(Builtin.cap_ ts ty #[v]).run P w=.ok u w/\Rv E w r u:=by
 unfold capA at hr
 split at hr<;>simp only[Qa,reduceCtorEq] at hr<;>subst hr
 ·have hx:v=.slice none 0 0:=hx
  subst hx
  exact⟨goInt 0,by simp[Builtin.cap_,be,underlying,ht],rfl⟩
 ·obtain⟨a,cap,rfl,_,hc,_⟩:=hx
  exact⟨goInt cap,by simp[Builtin.cap_,be,underlying,ht],by rw[hc rfl];rfl⟩
 ·obtain⟨b,c,e',m',h0,rfl,_,hc,_⟩:=hx
  exact⟨goInt c,by simp[Builtin.cap_,be,underlying,ht],by rw[hc _ rfl];rfl⟩
theorem maxA_sound{x y r:AV}{v u:Value}(hx:Rv E w x v)(hy:Rv E w y u)(hr:maxA x y=some r):∃ q,(Builtin.max2 v u).run P w=.ok q w/\Rv E w r q:=by
 unfold maxA at hr
 split at hr<;>simp only[Qa,reduceCtorEq] at hr
 subst hr
 rename_i k a k' b
 have hx:v=.int k a:=hx
 have hy:u=.int k' b:=hy
 subst hx;subst hy
 exact⟨_,rfl,rfl⟩
theorem minA_sound{x y r:AV}{v u:Value}(hx:Rv E w x v)(hy:Rv E w y u)(hr:minA x y=some r):∃ q,(Builtin.min2 v u).run P w=.ok q w/\Rv E w r q:=by
 unfold minA at hr
 split at hr<;>simp only[Qa,reduceCtorEq] at hr
 subst hr
 rename_i k a k' b
 have hx:v=.int k a:=hx
 have hy:u=.int k' b:=hy
 subst hx;subst hy
 exact⟨_,rfl,rfl⟩
theorem Sw{f:AV->AV->Option AV}{g:Value->Value->Sem Value}(hf:∀ x y r v u,Rv E w x v->Rv E w y u->f x y=some r->∃ q,(g v u).run P w=.ok q w/\Rv E w r q):
  ∀(l:List AV) (x r:AV) (v:Value) (vs:List Value),Rv E w x v->R2 E w l vs->foldA f x l=some r->∃ q,(vs.foldlM g v).run P w=.ok q w/\Rv E w r q
 | [],x,r,v,vs,hx,hl,hr=>by
  cases hl;simp only[foldA,Qa] at hr;subst hr;exact⟨v,by simp,hx⟩
 | y::l,x,r,v,_,hx,⟨u,us,rfl,h1,h2⟩,hr=>by
  simp only[foldA] at hr
  cases hz:f x y with
  | none=>simp[hz] at hr
  | some z=>
   simp only[hz,Qg] at hr
   obtain⟨q,h3,h4⟩:=hf x y z v u hx h1 hz
   obtain⟨q',h5,h6⟩:=Sw hf l z r q us h4 h2 hr
   exact⟨q',by simp[h3,h5],h6⟩
end
end Go.AM
namespace Go.AM
section
variable {E:Env} {st:St} {w:World} {P:Program}
theorem V3.new_prefix{cs:List AV}{vs:List Value}{arr:Array Value}{b:Nat}{e:TypeId}{fr:Nat × Nat}(h:R2 E w cs vs)(hb:w.heap[b]?=some (.cells arr e fr))
  (hp:∀(j:Nat) v,vs[j]?=some v->arr[j]?=some v):V3 E w ⟨b,0,none⟩ 0 cs:=
 V3.of_get fun j c hc=>by
  obtain⟨v,h1,h2⟩:=h.get j hc
  refine⟨v,?_,h2⟩
  rw[Wb]
  simp only[Q7]
  rw[cell_of_row w b j arr e fr hb]
  exact hp j v h1
theorem Vz(w:World)(o:Obj):(w.alloc o).heap[w.heap.size]?=some o:=heap_alloc_new w o
theorem Yn(w:World)(c:Array Value)(e:TypeId)(fr:Nat × Nat):(w.alloc (.cells c e fr)).shape? w.heap.size=some (e,c.size):=by
 unfold World.shape?;rw[Vz]
theorem box_fz_sound{e:TypeId}{x:AV}{v:Value}(hs:Sat E st w)(hx:Rv E w x v):
  ∃ w' E',(Instr.box e v).run P w=.ok (.pointer (some ⟨w.heap.size,0,none⟩)) w'/\Ext E w E' w'/\Sat E' st w'/\Rv E' w' (.fptr x.cells 0) (.pointer (some ⟨w.heap.size,0,none⟩)):=by
 obtain⟨h1,h2⟩:=hs.allocFz (.cells v.cells e)
 refine⟨_,_,by simp[Instr.box,newVar,newRow],h2,h1,⟨w.heap.size,0,none⟩,by rw[Wb],Or.inl rfl,?_⟩
 exact V3.new (vs:=v.cells) (R2.mono h2 _ _ hx.cells) (Vz w _)
theorem box_sound{e:TypeId}{x:AV}{v:Value}(hs:Sat E st w)(hx:Rv E w x v):
  ∃ w' E',(Instr.box e v).run P w=.ok (.pointer (some ⟨w.heap.size,0,none⟩)) w'/\Ext E w E' w'/\Sat E' (st.new (.row x.cells)) w' ∧
   Rv E' w' (.ptr st.next 0) (.pointer (some ⟨w.heap.size,0,none⟩)):=by
 obtain⟨h1,h2⟩:=hs.alloc (.cells v.cells e) (.row x.cells) fun E' aK=>⟨⟨v.cells,e,(0,0),Vz w _,by rw[hx.cells.length];simp,.inl rfl⟩,
  V3.new (vs:=v.cells) (R2.mono aK _ _ hx.cells) (Vz w _)⟩
 exact⟨_,_,by simp[Instr.box,newVar,newRow],h2,h1,w.heap.size,by simp[Env.link],rfl⟩
theorem Wc{t:TypeId}{i:TypeInfo}{z:Value}(hi:P.info? t=some i)(hz:i.zero=some z):(zeroValue t).run P w=.ok z w:=by
 simp[zeroValue,typeInfo,hi,hz]
theorem alloc_sound{t:TypeId}{i:TypeInfo}{z:Value}{zs:List AV}(hi:P.info? t=some i)(hz:i.zero=some z)(aT:∀ E w,R2 E w zs z.cells.toList)(hs:Sat E st w):
  ∃ w' E',(Instr.alloc t true (.tuple #[])).run P w=.ok (.pointer (some ⟨w.heap.size,0,none⟩)) w'/\Ext E w E' w'/\Sat E' (st.new (.row zs)) w' ∧
   Rv E' w' (.ptr st.next 0) (.pointer (some ⟨w.heap.size,0,none⟩)):=by
 obtain⟨h1,h2⟩:=hs.alloc (.cells z.cells t) (.row zs) fun E' aK=>⟨⟨z.cells,t,(0,0),Vz w _,by rw[(aT E w).length];simp,.inl rfl⟩,
  V3.new (vs:=z.cells) (aT _ _) (Vz w _)⟩
 exact⟨_,_,by simp[Instr.alloc,newVar,newRow,Wc hi hz],h2,h1,w.heap.size,by simp[Env.link],rfl⟩
theorem alloc_link_sound{t:TypeId}{i:TypeInfo}{z:Value}{zs:List AV}{id:Nat}(hi:P.info? t=some i)(hz:i.zero=some z)(aT:∀ E w,R2 E w zs z.cells.toList)(hs:Sat E st w)
  (aZ:id < st.next) (hβ:E.β id=none) (hr:¬ E.Rs id) (hg:st.get id=some (.row zs)):
  ∃ w',(Instr.alloc t true (.tuple #[])).run P w=.ok (.pointer (some ⟨w.heap.size,0,none⟩)) w'/\Ext E w (E.link id w.heap.size) w'/\Sat (E.link id w.heap.size) st w' ∧
   Rv (E.link id w.heap.size) w' (.ptr id 0) (.pointer (some ⟨w.heap.size,0,none⟩)):=by
 obtain⟨h1,h2⟩:=hs.link (.cells z.cells t) id (.row zs) aZ hβ hr hg fun E' aK=>⟨⟨z.cells,t,(0,0),Vz w _,by rw[(aT E w).length];simp,.inl rfl⟩,
  V3.new (vs:=z.cells) (aT _ _) (Vz w _)⟩
 exact⟨_,by simp[Instr.alloc,newVar,newRow,Wc hi hz],h2,h1,w.heap.size,by simp[Env.link],rfl⟩
theorem makeMap_sound{t:TypeId}{kt et:TypeId}{r:Option Value}(ht:P.underlying t=some (.map kt et))(hr:∀ v,r=some v->∃ k n,v=.int k n)(hs:Sat E st w):
  ∃ w' E',(Instr.makeMap t r).run P w=.ok (.map (some w.heap.size)) w'/\Ext E w E' w'/\Sat E' (st.new (.map [])) w'/\Rv E' w' (.map st.next) (.map (some w.heap.size)):=by
 obtain⟨h1,h2⟩:=hs.alloc (.map #[] 0) (.map []) fun E' _=>⟨#[],0,Vz w _,rfl,by simp[Je]⟩
 refine⟨_,_,?_,h2,h1,w.heap.size,by simp[Env.link],rfl⟩
 cases r with
 | none=>simp[Instr.makeMap]
 | some v=>obtain⟨k,n,rfl⟩:=hr v rfl;simp[Instr.makeMap,underlying,ht,asInt,asIntOf]
def RvParts(E:Env)(w:World):List (Nat × Nat × AV)->List (Nat × Value)->(Nat->Option (Nat × Nat))->Prop
 | [],l,_=>l=[]
 | (off,n,x)::ps,l,place=>∃ i v vs,l=(i,v)::vs/\place i=some (off,n)/\Rv E w x v/\RvParts E w ps vs place
theorem foldl_set(vs:List Value)(off:Nat):∀(k:Nat) (cs:Array Value),off+k+vs.length<=cs.size ->
  ((vs.zipIdx k).foldl (fun (cs:Array Value) (p:Value × Nat)=>cs.setIfInBounds (off+p.2) p.1) cs).toList=cs.toList.take (off+k)++(vs++cs.toList.drop (off+k+vs.length)):=by
 induction vs with
 | nil=>intro k cs h;simp
 | cons v vs ih=>
  intro k cs h
  simp only[QC] at h
  simp only[Zd,Xt]
  rw[ih (k+1) _ (by simp;omega)]
  have am:off+k < cs.size:=by omega
  rw[Array.toList_setIfInBounds]
  have e1:(cs.toList.set (off+k) v).take (off+(k+1))=cs.toList.take (off+k)++[v]:=by
   apply Zn
   intro j
   rw[X6]
   by_cases hj:j < off+(k+1)
   ·rw[Qm hj]
    by_cases fu:j=off+k
    ·subst fu
     rw[Xg (by rw[Xl];exact Nat.min_le_left ..)]
     simp[am,Zw (Nat.le_of_lt am)]
    ·rw[Xk (by simp;omega),List.getElem?_set_ne (by omega),X6,Qm (by omega)]
   ·rw[Qe hj,Za (by simp;omega)]
  have e2:(cs.toList.set (off+k) v).drop (off+(k+1)+vs.length)=cs.toList.drop (off+k+(vs.length+1)):=by
   rw[List.drop_set_of_lt (by omega)]
   congr 1;omega
  rw[e1,e2];simp
theorem Ki{place:Nat->Option (Nat × Nat)}:∀(ps:List (Nat × Nat × AV)) (l:List (Nat × Value)) (cs r:List AV) (vs:Array Value),
  RvParts E w ps l place->R2 E w cs vs.toList->VN cs ps=some r->∃ out,Instr.fill place vs l=some out/\R2 E w r out.toList
 | [],l,cs,r,vs,hp,hc,hr=>by
  have hp:l=[]:=hp
  subst hp
  simp only[VN,Qa] at hr;subst hr
  exact⟨vs,rfl,hc⟩
 | (off,n,x)::ps,_,cs,r,vs,⟨i,v,l,rfl,bC,hx,hp⟩,hc,hr=>by
  simp only[VN] at hr
  cases aj:x.cells.length.beq n&&(off+n).ble cs.length
  ·simp[aj] at hr
  ·simp only[aj,Qi] at hr
   simp only[Qd] at aj
   have c1:=Qj aj.1
   have c2:=Qk aj.2
   have hl:=hc.length
   have bJ:=hx.cells.length
   have e1:v.cells.size=n:=by rw[<-c1,bJ];simp
   have cI:vs.size=vs.toList.length:=by simp
   have iM:=foldl_set v.cells.toList off 0 vs (by simp;omega)
   have cT:R2 E w (setCells cs off x.cells) ((v.cells.zipIdx.foldl (fun (cs:Array Value) (p:Value × Nat)=>cs.setIfInBounds (off+p.2) p.1) vs)).toList:=by
    have:(v.cells.zipIdx.foldl (fun (cs:Array Value) (p:Value × Nat)=>cs.setIfInBounds (off+p.2) p.1) vs) =
      ((v.cells.toList.zipIdx 0).foldl (fun (cs:Array Value) (p:Value × Nat)=>cs.setIfInBounds (off+p.2) p.1) vs):=by
     rw[<-Z4,Array.toList_zipIdx]
    rw[this,iM]
    simp only[XA,setCells]
    rw[bJ]
    exact(hc.take off).append (hx.cells.append (hc.drop _))
   obtain⟨out,h1,h2⟩:=Ki ps l _ r _ hp cT hr
   refine⟨out,?_,h2⟩
   simp only[Instr.fill,bC,e1]
   rw[Qe (by simp;omega)]
   exact h1
end
end Go.AM
namespace Go.AM
theorem hiOk_le{h n lw c:Nat}{cap:Option Nat}(hh:hiOk h n cap lw=true)(h1:n<=c)(h2:∀ k,cap=some k->c=k)(h3:lw<=c):h<=c:=by
 simp only[hiOk,XB] at hh
 rcases hh with hh | hh
 ·have:=Qk hh;omega
 ·cases cap with
  | none=>have:=Qk hh;omega
  | some k=>have:=Qk hh;have:=h2 k rfl;omega
section
variable {E:Env} {st:St} {w:World} {P:Program}
theorem bndA_sound{x:AV}{v:Value}{n:Nat}(hx:Rv E w x v)(h:bndA x=some n):∃ k,v=.int k (n:Int):=by
 unfold bndA at h
 split at h<;>simp only[Qa,reduceCtorEq] at h
 subst h
 exact⟨_,hx⟩
def RvO(E:Env)(w:World):Option AV->Option Value->Prop
 | none,v=>v=none
 | some x,v=>∃ u,v=some u/\Rv E w x u
theorem KR{x:Option AV}{v:Option Value}{n:Option Nat}(hx:RvO E w x v)(h:JC x=some n):
  (n=none/\v=none)\/(∃ k m,n=some m/\v=some (.int k ((m:Nat):Int))):=by
 cases x with
 | none=>simp only[JC,Qa] at h;exact .inl ⟨h.symm,hx⟩
 | some x=>
  obtain⟨u,rfl,hu⟩:=hx
  simp only[JC] at h
  cases hb:bndA x with
  | none=>simp[hb] at h
  | some m=>
   simp only[hb,Ql,Qa] at h
   obtain⟨k,rfl⟩:=bndA_sound hu hb
   exact .inr ⟨k,m,h.symm,rfl⟩
theorem Ue{isS:Bool}{len cap l h m:Nat}{lo hi mx:Option Value}{nl nh nm:Option Nat}
  (hl:(nl=none/\lo=none)\/(∃ k m,nl=some m/\lo=some (.int k ((m:Nat):Int)))) (hh:(nh=none/\hi=none)\/(∃ k m,nh=some m/\hi=some (.int k ((m:Nat):Int))))
  (hm:(nm=none/\mx=none)\/(∃ k m,nm=some m/\mx=some (.int k ((m:Nat):Int)))) (el:nl.getD 0=l) (eh:nh.getD len=h) (em:nm.getD cap=m)
  (h1:l<=h) (h2:h<=m) (h3:m<=cap) (h4:nm.isSome=true->nh.isSome=true):
  (Instr.sliceBounds isS len cap lo hi mx).run P w=.ok (l,h,m) w:=by
 have sb:∀(k:IntKind) (a y:Nat) (c:BoundsCode),a<=y->(Instr.sliceBound (.int k (a:Int)) y c).run P w=.ok a w:=fun k a y c aR=>by
  have:=run_sliceBound (P:=P) w k (a:Int) y c (by omega) (by omega)
  simpa using this
 rcases hm with⟨rfl,rfl⟩|⟨km,m',rfl,rfl⟩
 ·rcases hh with⟨rfl,rfl⟩|⟨kh,h',rfl,rfl⟩<;>rcases hl with⟨rfl,rfl⟩|⟨kl,l',rfl,rfl⟩<;>simp only[X5,Q9] at el eh em<;>subst el<;>subst eh<;>subst em<;>
   simp[Instr.sliceBounds,sb,h1,h2]
 ·rcases hh with⟨rfl,rfl⟩|⟨kh,h',rfl,rfl⟩
  ·simp at h4
  ·rcases hl with⟨rfl,rfl⟩|⟨kl,l',rfl,rfl⟩<;>simp only[X5,Q9] at el eh em<;>subst el<;>subst eh<;>subst em<;>
   simp[Instr.sliceBounds,sb,h1,h2,h3]
theorem sliceA_sound{t e:TypeId}{i:TypeInfo}{x r:AV}{v:Value}{lo hi mx:Option AV}{vl vh vm:Option Value}(ht:P.underlying t=some (.slice e))(cj:P.info? e=some i)
  (hx:Rv E w x v) (hl:RvO E w lo vl) (hh:RvO E w hi vh) (hm:RvO E w mx vm) (hr:Ys i.size x lo hi mx=some r):
  ∃ u,(Instr.sliceAt t v vl vh vm).run P w=.ok u w/\Rv E w r u:=by
 unfold Ys at hr
 cases db:JC lo with
 | none=>simp[db] at hr
 | some nl=>
 cases kg:JC hi with
 | none=>simp[db,kg] at hr
 | some nh=>
 cases gk:JC mx with
 | none=>simp[db,kg,gk] at hr
 | some nm=>
 simp only[db,kg,gk,Qg] at hr
 have kl:=KR hl db
 have kh:=KR hh kg
 have km:=KR hm gk
 have bz:∀ v,(Instr.sliceAt t v vl vh vm).run P w=(Instr.slice t v vl vh vm).run P w:=fun v=>by simp[Instr.sliceAt,underlying,ht]
 have aD:∀(a:Option Addr) (len cap l h m:Nat),(Instr.sliceBounds true len cap vl vh vm).run P w=.ok (l,h,m) w ->
   (Instr.slice t (.slice a len cap) vl vh vm).run P w=.ok (.slice (if m=l then a else a.map (·.add (l*i.size))) (h - l) (m - l)) w:=fun a len cap l h m hb=>by
  simp[Instr.slice,underlying,ht,hb,VW cj]
 cases x<;>simp only[TF,reduceCtorEq] at hr
 ·
  have hx:v=.slice none 0 0:=hx
  subst hx
  cases hc:((nl.getD 0).beq 0&&(nh.getD 0).beq 0&&(nm.getD 0).beq 0&&(nm.isNone||nh.isSome))
  ·simp[hc] at hr
  ·simp only[hc,Qi,Qa] at hr;subst hr
   simp only[Qd] at hc
   have c1:=Qj hc.1.1.1
   have c2:=Qj hc.1.1.2
   have c3:=Qj hc.1.2
   have h4:nm.isSome=true->nh.isSome=true:=fun hs=>by
    have:=hc.2
    cases nm with
    | none=>simp at hs
    | some m=>simpa using this
   have hb:=Ue (P:=P) (w:=w) (isS:=true) (len:=0) (cap:=0) kl kh km c1 c2 c3 (Qw 0) (Qw 0) (Qw 0) h4
   exact⟨.slice none 0 0,by rw[bz,aD none 0 0 0 0 0 hb];simp,rfl⟩
 ·
  rename_i n cs ex
  obtain⟨a,cap,rfl,h1,h2,h3,h4⟩:=hx
  have fin:∀(l h m:Nat) (rY:Bool),nl.getD 0=l->nh.getD n=h->nm.getD cap=m->l<=h->h<=m->m<=cap->(nm.isSome=true->nh.isSome=true)->(rY=true->m=h) ->
    ∃ u,(Instr.sliceAt t (.slice (some a) n cap) vl vh vm).run P w=.ok u w/\Rv E w (.lst (h - l) ((cs.drop (l*i.size)).take ((h - l)*i.size)) rY) u:=fun l h m rY el eh em k1 k2 k3 k4 k5=>by
   have hb:=Ue (P:=P) (w:=w) (isS:=true) kl kh km el eh em k1 k2 k3 k4
   rw[bz,aD _ _ _ _ _ _ hb]
   by_cases iN:m=l
   ·have wu:h=l:=by omega
    exact⟨_,rfl,a,m - l,by simp[iN],by omega,fun _=>by omega,by simp[wu],by simp[wu,V3]⟩
   ·refine⟨_,rfl,a.add (l*i.size),m - l,by simp[iN],by omega,fun he=>by have:=k5 he;omega,fun az=>?_,(h4.at _).take _⟩
    rw[Si]
    exact h3 (by rintro rfl;simp at az)
  cases nm with
  | none=>
   simp only at hr
   cases hc:((nl.getD 0).ble (nh.getD n)&&(nh.getD n).ble n&&(nh.getD n*i.size).ble cs.length)
   ·simp[hc] at hr
   ·simp only[hc,Qi,Qa] at hr;subst hr
    simp only[Qd] at hc
    have c1:=Qk hc.1.1
    have c2:=Qk hc.1.2
    exact fin _ _ cap _ rfl rfl rfl c1 (by omega) (Qw _) (by simp) fun he=>by
     simp only[Qd] at he
     have:=Qj he.2
     have:=h2 he.1
     omega
  | some m=>
   simp only at hr
   cases hc:((nl.getD 0).ble (nh.getD n)&&(nh.getD n).ble m&&m.ble n&&(nh.getD n*i.size).ble cs.length&&nh.isSome)
   ·simp[hc] at hr
   ·simp only[hc,Qi,Qa] at hr;subst hr
    simp only[Qd] at hc
    have c1:=Qk hc.1.1.1.1
    have c2:=Qk hc.1.1.1.2
    have c3:=Qk hc.1.1.2
    exact fin _ _ m _ rfl rfl rfl c1 c2 (by omega) (fun _=>hc.2) fun he=>(Qj he).symm
 ·
  rename_i id off n s cap lw
  obtain⟨b,c,e',mm,h0,rfl,h1,h2,h3,h4,h5⟩:=hx
  cases cP:(s.beq i.size&&(nl.getD 0).ble (nh.getD n)&&hiOk (nh.getD n) n cap lw)
  ·simp[cP] at hr
  ·simp only[cP,Qi] at hr
   simp only[Qd] at cP
   have es:=Qj cP.1.1
   have c1:=Qk cP.1.2
   have c2:nh.getD n<=c:=hiOk_le cP.2 h1 h2 h5
   subst es
   have fin:∀(m:Nat) (gS:Option Nat) (rZ:Nat),rZ<=m - nl.getD 0->nm.getD c=m->nh.getD n<=m->m<=c->(nm.isSome=true->nh.isSome=true)->(nl.getD 0=0\/nl.getD 0 < m)->(∀ k,gS=some k->m - nl.getD 0=k) ->
     ∃ u,(Instr.sliceAt t (.slice (some ⟨b,off,none⟩) n c) vl vh vm).run P w=.ok u w/\Rv E w (.own id (off+nl.getD 0*i.size) (nh.getD n - nl.getD 0) i.size gS rZ) u:=fun m gS rZ k0 em k2 k3 k4 k5 k6=>by
    have hb:=Ue (P:=P) (w:=w) (isS:=true) kl kh km rfl rfl em c1 k2 k3 k4
    rw[bz,aD _ _ _ _ _ _ hb]
    have si:off+nl.getD 0*i.size+(m - nl.getD 0)*i.size<=mm:=by
     have:nl.getD 0*i.size+(m - nl.getD 0)*i.size=m*i.size:=by rw[<-Xv];congr 1;omega
     have:m*i.size<=c*i.size:=XL _ k3
     omega
    refine⟨_,rfl,b,m - nl.getD 0,e',mm,h0,?_,by omega,k6,h3,si,k0⟩
    by_cases iN:m=nl.getD 0
    ·have:nl.getD 0=0:=by omega
     simp[iN,this]
    ·simp[iN,Wb]
   have emp:∀(ex:Bool),nm=none->nh.getD n=nl.getD 0->(ex=true->c=nl.getD 0)->r=.lst 0 [] ex ->
     ∃ u,(Instr.sliceAt t (.slice (some ⟨b,off,none⟩) n c) vl vh vm).run P w=.ok u w/\Rv E w r u:=fun ex em k1 k2 k3=>by
    subst em;subst k3
    have hb:=Ue (P:=P) (w:=w) (isS:=true) (m:=c) kl kh km rfl rfl rfl c1 (by omega) (Qw _) (by simp)
    rw[bz,aD _ _ _ _ _ _ hb]
    by_cases iN:c=nl.getD 0
    ·exact⟨_,rfl,⟨b,off,none⟩,c - nl.getD 0,by rw[Qm iN,k1,ZJ],by omega,fun _=>by omega,by simp,trivial⟩
    ·exact⟨_,rfl,(⟨b,off,none⟩:Addr).add (nl.getD 0*i.size),c - nl.getD 0,by rw[Qe iN,k1,ZJ];rfl,by omega,fun he=>absurd (k2 he) iN,by simp,trivial⟩
   cases nm with
   | none=>
    cases cap with
    | none=>
     simp only at hr
     cases hc:((nl.getD 0).beq 0||(nl.getD 0+1).ble (nh.getD n))
     ·simp only[hc,Qq,Qa] at hr
      have:nh.getD n=nl.getD 0:=by
       have:=(XM.1 hc).2
       have:¬(nl.getD 0+1<=nh.getD n):=fun h=>by rw[Qo h] at this;simp at this
       omega
      exact emp false rfl this (by simp) hr.symm
     ·simp only[hc,Qi,Qa] at hr;subst hr
      refine fin c none _ (by omega) rfl (by omega) (Qw _) (by simp) ?_ (by simp)
      rcases Z1.1 hc with hc | hc
      ·exact .inl (Qj hc)
      ·have:=Qk hc;right;omega
    | some c'=>
     have:=h2 c' rfl
     subst this
     simp only at hr
     cases hc:((nl.getD 0).beq 0||(nl.getD 0+1).ble c)
     ·simp only[hc,Qq,Qa] at hr
      have:¬(nl.getD 0+1<=c):=fun h=>by
       have h2:=(XM.1 hc).2
       rw[Qo h] at h2;simp at h2
      exact emp true rfl (by omega) (fun _=>by omega) hr.symm
     ·simp only[hc,Qi,Qa] at hr;subst hr
      refine fin c (some _) 0 (by omega) rfl (by omega) (Qw _) (by simp) ?_ (by simp)
      rcases Z1.1 hc with hc | hc
      ·exact .inl (Qj hc)
      ·have:=Qk hc;right;omega
   | some m=>
    simp only at hr
    cases hc:((nh.getD n).ble m&&m.ble n&&nh.isSome&&((nl.getD 0).beq 0||(nl.getD 0+1).ble m))
    ·simp[hc] at hr
    ·simp only[hc,Qi,Qa] at hr;subst hr
     simp only[Qd] at hc
     have d1:=Qk hc.1.1.1
     have d2:=Qk hc.1.1.2
     refine fin m (some _) 0 (by omega) rfl d1 (by omega) (fun _=>hc.1.2) ?_ (by simp)
     rcases Z1.1 hc.2 with hc | hc
     ·exact .inl (Qj hc)
     ·have:=Qk hc;right;omega
theorem sliceSA_sound{t:TypeId}{x r:AV}{v:Value}{lo hi:Option AV}{vl vh:Option Value}(ht:P.underlying t=some .string)
  (hx:Rv E w x v) (hl:RvO E w lo vl) (hh:RvO E w hi vh) (hr:sliceSA x lo hi=some r):
  ∃ u,(Instr.sliceAt t v vl vh none).run P w=.ok u w/\Rv E w r u:=by
 unfold sliceSA at hr
 cases db:JC lo with
 | none=>simp[db] at hr
 | some nl=>
 cases kg:JC hi with
 | none=>simp[db,kg] at hr
 | some nh=>
 simp only[db,kg,Qg] at hr
 have kl:=KR hl db
 have kh:=KR hh kg
 cases x<;>simp only[sliceSN,reduceCtorEq] at hr
 rename_i l
 obtain⟨s,rfl,hs⟩:=hx
 have al:l.length=s.size:=by rw[<-hs];simp
 cases hc:((nl.getD 0).ble (nh.getD l.length)&&(nh.getD l.length).ble l.length)
 ·simp[hc] at hr
 ·simp only[hc,Qi,Qa] at hr;subst hr
  simp only[Qd] at hc
  have c1:=Qk hc.1
  have c2:=Qk hc.2
  rw[al] at c1 c2
  have hb:=Ue (P:=P) (w:=w) (isS:=false) (len:=s.size) (cap:=s.size) (mx:=none) (nm:=none) kl kh (.inl ⟨rfl,rfl⟩) rfl rfl rfl c1 c2 (Qw _) (by simp)
  refine⟨.string (s.extract (nl.getD 0) (nh.getD s.size)),by simp[Instr.sliceAt,Instr.slice,underlying,ht,hb],_,rfl,?_⟩
  rw[al,<-hs,<-List.map_drop,<-List.map_take]
  congr 1
  simp[List.extract_eq_take_drop]
end
end Go.AM
namespace Go.AM
section
variable {E:Env} {st:St} {w:World} {P:Program}
theorem bslice_sound{t e:TypeId}{i:TypeInfo}{n:Nat}{z:Value}{zs r:List AV}{ps:List (Nat × Nat × AV)}{l:Array (Nat × Value)}
  (ht:P.underlying t=some (.slice e)) (hi:P.info? e=some i) (hz:i.zero=some z) (hn:n*i.size<=16777216)
  (aT:∀ E w,R2 E w zs ((Array.range (n*i.size)).map ((if n*i.size=0 then #[] else z.cells)[· % (if n*i.size=0 then #[] else z.cells).size]!)).toList)
  (hp:RvParts E w ps l.toList (fun k=>some (k*i.size,i.size))) (hr:VN zs ps=some r) (hs:Sat E st w):
  ∃ w' E',(Instr.buildSlice t n l).run P w=.ok (.slice (some ⟨w.heap.size,0,none⟩) n n) w'/\Ext E w E' w'/\Sat E' st w'/\Rv E' w' (.lst n r true) (.slice (some ⟨w.heap.size,0,none⟩) n n):=by
 obtain⟨out,h1,h2⟩:=Ki ps l.toList zs r _ hp (aT E w) hr
 obtain⟨k1,k2⟩:=hs.allocFz (.cells out e)
 refine⟨_,_,?_,k2,k1,⟨w.heap.size,0,none⟩,n,rfl,Qw _,fun _=>rfl,fun _=>Or.inl rfl,?_⟩
 ·have en:¬(n*i.size > 2 ^ 24):=by omega
  simp only[Instr.buildSlice,Sem.run_bind,underlying,run_program,Result.andThen,ht,Sem.run_pure,VW hi,en,Xz,Sem.run_ite]
  by_cases h0:n*i.size=0
  ·simp only[h0,Xj] at h1 ⊢
   simp only[Sem.run_pure,h1]
   simp[newRow]
  ·simp only[h0,Xz] at h1 ⊢
   simp only[Wc hi hz]
   simp[h1,newRow]
 ·exact V3.new (vs:=out) (R2.mono k2 _ _ h2) (Vz w _)
theorem bsliceO_sound{t e:TypeId}{i:TypeInfo}{n:Nat}{z:Value}{zs r:List AV}{ps:List (Nat × Nat × AV)}{l:Array (Nat × Value)}
  (ht:P.underlying t=some (.slice e)) (hi:P.info? e=some i) (hz:i.zero=some z) (hn:n*i.size<=16777216)
  (aT:∀ E w,R2 E w zs ((Array.range (n*i.size)).map ((if n*i.size=0 then #[] else z.cells)[· % (if n*i.size=0 then #[] else z.cells).size]!)).toList)
  (hp:RvParts E w ps l.toList (fun k=>some (k*i.size,i.size))) (hr:VN zs ps=some r) (kj:r.length=n*i.size) (hs:Sat E st w):
  ∃ w' E',(Instr.buildSlice t n l).run P w=.ok (.slice (some ⟨w.heap.size,0,none⟩) n n) w'/\Ext E w E' w'/\Sat E' ((st.new (.row r)).tag st.next e) w'/\Rv E' w' (.own st.next 0 n i.size (some n) 0) (.slice (some ⟨w.heap.size,0,none⟩) n n):=by
 obtain⟨out,h1,h2⟩:=Ki ps l.toList zs r _ hp (aT E w) hr
 have iP:=h2.length
 simp only[Xm] at iP
 obtain⟨k1,k2⟩:=hs.alloc (.cells out e) (.row r) fun E' hx=>⟨⟨out,e,(0,0),Vz w _,by omega,.inl rfl⟩,V3.new (vs:=out) (R2.mono hx _ _ h2) (Vz w _)⟩
 refine⟨_,_,?_,k2,k1.tag (b:=w.heap.size) (by simp[Env.link]) (Yn w _ e (0,0)),w.heap.size,n,e,_,by simp[Env.link],rfl,Qw _,fun k hk=>by injection hk,Yn w _ e (0,0),by omega,X3 _⟩
 have en:¬(n*i.size > 2 ^ 24):=by omega
 simp only[Instr.buildSlice,Sem.run_bind,underlying,run_program,Result.andThen,ht,Sem.run_pure,VW hi,en,Xz,Sem.run_ite]
 by_cases h0:n*i.size=0
 ·simp only[h0,Xj] at h1 ⊢
  simp only[Sem.run_pure,h1]
  simp[newRow]
 ·simp only[h0,Xz] at h1 ⊢
  simp only[Wc hi hz]
  simp[h1,newRow]
theorem JQ{a:Addr}{vs:List Value}{w w2:World}(hh:w2.heap=w.heap)(h:∀(j:Nat) v,vs[j]?=some v->w.cell? (a.add (0+j))=some v):
  (loadCells a vs.length).run P w2=.ok vs.toArray w2:=
 run_loadCells_list (P:=P) w2 a vs fun j v hj=>by
  have:=h j v hj
  have e:w2.cell? (a.add j)=w.cell? (a.add j):=by unfold World.cell?;rw[hh]
  rw[e];simpa using this
theorem row_at{id b off:Nat}{cs:List AV}(hs:Sat E st w)(hb:E.β id=some b)(hg:st.get id=some (.row cs)\/st.get id=some (.fro cs)):V3 E w ⟨b,off,none⟩ 0 (cs.drop off):=by
 have e:(⟨b,off,none⟩:Addr)=(⟨b,0,none⟩:Addr).add off:=by rw[Wb];simp
 rw[e]
 rcases hg with hg | hg
 ·exact(hs.obj id _ b hg hb).2.at off
 ·exact(hs.obj id _ b hg hb).2.at off
theorem S8{sz n:Nat}{x:AV}{ys:List AV}{v:Value}(hs:Sat E st w)(hx:Rv E w x v)(hc:Wd sz st x=some (n,ys)):
  ∃ vs:List Value,(∀ w2,(Builtin.lenOf v).run P w2=.ok n w2)/\(∀ w2:World,w2.heap=w.heap->(Builtin.firstCells sz n v).run P w2=.ok vs.toArray w2)/\R2 E w ys vs/\vs.length=n*sz:=by
 have mem:∀(a:Addr) (c:Nat) (ds:List AV),v=.slice (some a) n c->V3 E w a 0 ds->ds.length=n*sz->ds=ys ->
   ∃ vs:List Value,(∀ w2,(Builtin.lenOf v).run P w2=.ok n w2)/\(∀ w2:World,w2.heap=w.heap->(Builtin.firstCells sz n v).run P w2=.ok vs.toArray w2)/\R2 E w ys vs/\vs.length=n*sz:=fun a c ds hv hm hl he=>by
  subst hv;subst he
  obtain⟨vs,h1,h2⟩:=hm.vals
  have al:vs.length=n*sz:=by rw[<-h1.length];exact hl
  refine⟨vs,fun w2=>rfl,fun w2 hh=>?_,h1,al⟩
  have:=JQ (P:=P) hh h2
  rw[al] at this
  simpa [Builtin.firstCells] using this
 cases x<;>simp only[Wd,reduceCtorEq] at hc
 ·obtain⟨s,rfl,hl⟩:=hx
  rename_i l
  cases h1:sz.beq 1
  ·simp[h1] at hc
  ·simp only[h1,Qi,Qa,Q2] at hc
   obtain⟨rfl,rfl⟩:=hc
   have cI:=Qj h1
   have al:l.length=s.size:=by rw[<-hl];simp
   refine⟨s.data.toList.map fun b=>.int .u8 b.toNat,fun w2=>by simp[Builtin.lenOf,al],fun w2 _=>?_,?_,by simp[cI,al]⟩
   ·have:s.extract 0 l.length=s:=by rw[al];apply ByteArray.ext;simp
    simp only[Builtin.firstCells,this,Sem.run_pure]
    congr 1
    apply XN;simp
   ·rw[<-hl,Xq]
    exact R2.of_get (by simp) fun j c v h1 h2=>by
     simp only[Q5] at h1 h2
     cases hj:s.data.toList[j]? with
     | none=>simp[hj] at h1
     | some b=>
      simp only[hj,Ql,Qa,Function.comp] at h1 h2
      subst h1;subst h2;rfl
 ·have hx:v=.slice none 0 0:=hx
  subst hx
  simp only[Qa,Q2] at hc
  obtain⟨rfl,rfl⟩:=hc
  exact⟨[],fun w2=>rfl,fun w2 _=>by simp[Builtin.firstCells],rfl,by simp⟩
 ·rename_i m cs ex
  obtain⟨a,cap,rfl,h1,h2,h3,h4⟩:=hx
  cases hb:(m*sz).ble cs.length
  ·simp[hb] at hc
  ·simp only[hb,Qi,Qa,Q2] at hc
   obtain⟨rfl,rfl⟩:=hc
   have:=Qk hb
   exact mem a cap _ rfl (h4.take _) (by simp;omega) rfl
 ·rename_i id off m s cap lo
  obtain⟨b,c,e',mm,h0,rfl,h1,h2,h3,h4⟩:=hx
  cases ho:st.get id with
  | none=>simp[ho] at hc
  | some o=>
   have key:∀ cs,st.get id=some (.row cs)\/st.get id=some (.fro cs)->(bif s.beq sz&&(off+m*sz).ble cs.length then some (m,(cs.drop off).take (m*sz)) else none)=some (n,ys) ->
     ∃ vs:List Value,(∀ w2,(Builtin.lenOf (.slice (some ⟨b,off,none⟩) m c)).run P w2=.ok n w2)/\(∀ w2:World,w2.heap=w.heap->(Builtin.firstCells sz n (.slice (some ⟨b,off,none⟩) m c)).run P w2=.ok vs.toArray w2)/\R2 E w ys vs/\vs.length=n*sz:=fun cs hg hc=>by
    cases hb:s.beq sz&&(off+m*sz).ble cs.length
    ·simp[hb] at hc
    ·simp only[hb,Qi,Qa,Q2] at hc
     obtain⟨rfl,rfl⟩:=hc
     simp only[Qd] at hb
     have:=Qk hb.2
     exact mem ⟨b,off,none⟩ c _ rfl ((row_at hs h0 hg).take _) (by simp;omega) rfl
   cases o with
   | loop s=>simp[ho] at hc
   | row cs=>simp only[ho] at hc;exact key cs (.inl ho) hc
   | fro cs=>simp only[ho] at hc;exact key cs (.inr ho) hc
   | map es=>simp[ho] at hc
   | fmap es=>simp[ho] at hc
   | iter m ks=>simp[ho] at hc
end
end Go.AM
namespace Go.AM
section
variable {E:Env} {st:St} {w:World} {P:Program}
def Kt:TypeDesc->Prop:=fun d=>(∃ e,d=.slice e)\/d=.string
set_option maxHeartbeats 1000000 in
theorem append_fit{ts:Array TypeId}{t u ty e:TypeId}{du:TypeDesc}{i:TypeInfo}{base:Option Addr}{m n c:Nat}{vy:Value}{new:Array Value}{w':World}
  (be:ts[0]?=some t) (ht:P.underlying t=some (.slice e)) (hi:P.info? e=some i) (bT:ts[1]?=some u) (hu:P.underlying u=some du) (eO:Kt du)
  (hl:∀ w2,(Builtin.lenOf vy).run P w2=.ok n w2) (hf:(Builtin.firstCells i.size n vy).run P w=.ok new w) (aE:m+n<=c)
  (ax:(match base with | some a=>storeCells (a.add (m*i.size)) new.toList | none=>pure ():Sem Unit).run P w=.ok () w'):
  (Builtin.append_ ts ty #[.slice base m c,vy]).run P w=.ok (.slice base (m+n) c) w':=by
 rcases eO with⟨e0,rfl⟩ | rfl<;>
  (cases base with
   | none=>
    simp only[Sem.run_pure,Result.ok.injEq,true_and] at ax;subst ax
    simp[Builtin.append_,be,bT,underlying,ht,hu,sizeOf,typeInfo,hi,hl,hf,aE]
   | some a=>
    simp only at ax
    simp[Builtin.append_,be,bT,underlying,ht,hu,sizeOf,typeInfo,hi,hl,hf,aE,ax])
set_option maxHeartbeats 1000000 in
theorem append_grow{ts:Array TypeId}{t u ty e:TypeId}{du:TypeDesc}{i:TypeInfo}{z:Value}{base:Option Addr}{m n c:Nat}{vy:Value}{old new:Array Value}
  (be:ts[0]?=some t) (ht:P.underlying t=some (.slice e)) (hi:P.info? e=some i) (hz:i.zero=some z) (bT:ts[1]?=some u) (hu:P.underlying u=some du) (eO:Kt du)
  (hl:∀ w2,(Builtin.lenOf vy).run P w2=.ok n w2) (hf:(Builtin.firstCells i.size n vy).run P w.drew=.ok new w.drew) (eC:(Builtin.firstCells i.size m (.slice base m c)).run P w.drew=.ok old w.drew)
  (aE:¬(m+n<=c)) (oE:((m+n:Nat):Int)<=9223372036854775807) (mB:Builtin.nextslicecap (m+n) c*i.bytes<=281474976710656):
  (Builtin.append_ ts ty #[.slice base m c,vy]).run P w=.ok (.slice (some ⟨w.heap.size,0,none⟩) (m+n) (grownCap w (m+n) c e))
   (w.drew.alloc (.cells (old++new++Builtin.zeroCells z.cells (grownCap w (m+n) c e - (m+n))) e)):=by
 have kn:¬(9223372036854775807 < ((m:Int)+(n:Int))):=by omega
 have ko:¬(281474976710656 < Builtin.nextslicecap (m+n) c*i.bytes):=by omega
 have rl:IntKind.i64.max=9223372036854775807:=by decide
 have pi:(Builtin.firstCells i.size n vy).run P { w with drawn:=w.drawn+1 }=.ok new { w with drawn:=w.drawn+1 }:=hf
 have xO:(Builtin.firstCells i.size m (.slice base m c)).run P { w with drawn:=w.drawn+1 }=.ok old { w with drawn:=w.drawn+1 }:=eC
 rcases eO with⟨e0,rfl⟩ | rfl<;>
  simp[Builtin.append_,be,bT,underlying,ht,hu,sizeOf,typeInfo,zeroValue,hi,hz,hl,hf,eC,aE,kn,ko,rl,Question.forced,newRow,grownCap]
theorem Sat.congr{E:Env}{st st2:St}{w:World}(h:Sat E st w)(hg:∀ i,st2.get i=st.get i)(hn:st2.next=st.next)(iQ:st2.bt=st.bt):Sat E st2 w:=
 ⟨fun i b hb=>by rw[hn];exact h.dom i b hb,h.fz,fun i o b h1 h2=>h.obj i o b (by rw[<-hg];exact h1) h2,
  fun i i' o o' b h1 h2=>h.sep i i' o o' b (by rw[<-hg];exact h1) (by rw[<-hg];exact h2),fun i o b h1=>h.lv i o b (by rw[<-hg];exact h1),fun i hi=>⟨(h.rs i hi).1,by rw[hn];exact(h.rs i hi).2⟩,h.dz,fun id t ht=>h.bt id t (by rw[<-iQ];exact ht)⟩
theorem Sat.rename{E:Env}{st:St}{w:World}(h:Sat E st w){id b:Nat}{o:AO}(hg:st.get id=some o)(hl:o.live=true)(hb:E.β id=some b):
  Sat (E.link st.next b) ((st.del id).new o) w/\Ext E w (E.link st.next b) w:=by
 have hβ:E.β st.next=none:=by
  cases hc:E.β st.next with
  | none=>rfl
  | some c=>have:=(h.dom _ _ hc).1;omega
 have hx:Ext E w (E.link st.next b) w:=⟨⟨fun i c hc=>by
  show (if i=st.next then _ else _)=_
  rw[Qe (by rintro rfl;rw[hβ] at hc;simp at hc)];exact hc,fun _ h=>h,fun _ _=>rfl,Qw _,fun _ _ h=>h,rfl,rfl,rfl,fun _ _=>rfl⟩,fun _ h=>h,fun _ _ h=>h⟩
 have aN:∀ i c,(E.link st.next b).β i=some c->(i=st.next/\c=b)\/(i≠st.next/\E.β i=some c):=fun i c hc=>by
  have:(if i=st.next then some b else E.β i)=some c:=hc
  by_cases hi:i=st.next
  ·rw[Qm hi] at this;injection this with this;exact .inl ⟨hi,this.symm⟩
  ·rw[Qe hi] at this;exact .inr ⟨hi,this⟩
 have ck:∀ i o',((st.del id).new o).get i=some o'->(i=st.next/\o'=o)\/(i≠st.next/\i≠id/\st.get i=some o'):=fun i o' ho=>by
  rw[St.get_new] at ho
  by_cases hi:i=st.next
  ·rw[Qm (by simpa using hi)] at ho;injection ho with ho;exact .inl ⟨hi,ho.symm⟩
  ·rw[Qe (by simpa using hi),St.get_del] at ho
   by_cases cj:i=id
   ·rw[Qm cj] at ho;simp at ho
   ·rw[Qe cj] at ho;exact .inr ⟨hi,cj,ho⟩
 have bR:=h.obj id o b hg hb
 refine⟨⟨fun i c hc=>?_,h.fz,fun i o' c h1 h2=>?_,fun i i' o1 o2 c h1 h2 l1 l2 b1 b2=>?_,fun i o' c h1 h2 h3=>?_,fun i hi=>⟨by
  show (if i=st.next then _ else _)=_
  rw[Qe (by rintro rfl;have:=(h.rs _ hi).2;omega)];exact(h.rs i hi).1,by have:=(h.rs i hi).2;simp;omega⟩,h.dz,JW.mono h.bt hx.toExt0 rfl⟩,hx⟩
 ·rcases aN i c hc with⟨rfl,rfl⟩|⟨_,hc⟩
  ·exact⟨by simp,(h.dom id _ hb).2⟩
  ·have:=h.dom i c hc;exact⟨by simp;omega,this.2⟩
 ·rcases ck i o' h1 with⟨rfl,rfl⟩|⟨n1,n2,h1⟩<;>rcases aN _ c h2 with⟨e1,e2⟩|⟨e1,h2⟩
  ·subst e2;exact Wv.mono hx rfl bR
  ·exact absurd rfl e1
  ·exact absurd e1 n1
  ·exact Wv.mono hx rfl (h.obj i o' c h1 h2)
 ·rcases ck i o1 h1 with⟨e1,f1⟩|⟨n1,m1,h1⟩<;>rcases ck i' o2 h2 with⟨e2,f2⟩|⟨n2,m2,h2⟩
  ·rw[e1,e2]
  ·rcases aN i c b1 with⟨_,e3⟩|⟨n3,_⟩
   ·rcases aN i' c b2 with⟨e4,_⟩|⟨_,d2⟩
    ·exact absurd e4 n2
    ·subst e3;exact absurd (h.sep i' id o2 o _ h2 hg l2 hl d2 hb) m2
   ·exact absurd e1 n3
  ·rcases aN i' c b2 with⟨_,e3⟩|⟨n3,_⟩
   ·rcases aN i c b1 with⟨e4,_⟩|⟨_,d1⟩
    ·exact absurd e4 n1
    ·subst e3;exact absurd (h.sep i id o1 o _ h1 hg l1 hl d1 hb) m1
   ·exact absurd e2 n3
  ·rcases aN i c b1 with⟨e3,_⟩|⟨_,b1⟩
   ·exact absurd e3 n1
   ·rcases aN i' c b2 with⟨e4,_⟩|⟨_,b2⟩
    ·exact absurd e4 n2
    ·exact h.sep i i' o1 o2 c h1 h2 l1 l2 b1 b2
 ·rcases ck i o' h1 with⟨e1,f1⟩|⟨n1,m1,h1⟩<;>rcases aN i c h3 with⟨e2,e3⟩|⟨n2,h3⟩
  ·subst e3;exact h.lv id o c hg hl hb
  ·exact absurd e1 n2
  ·exact absurd e2 n1
  ·exact h.lv i o' c h1 h2 h3
def TagR(E':Env)(w':World)(e:TypeId)(w:World)(vx:Value)(r:AV):Prop:=∀ id off n sz cap lo,r=.own id off n sz cap lo->∀ b,E'.β id=some b ->
 ∃ t m,w'.shape? b=some (t,m)/\(t=e\/∃ (a:Addr) (n0 c0 m0:Nat),vx=.slice (some a) n0 c0/\w.shape? a.block=some (t,m0))
def FitRun(P:Program)(w:World)(sz n:Nat)(vs:List Value)(S:Value->Sem Value):Prop:=∀(base:Option Addr) (m c:Nat) (w':World),m+n<=c ->
 (match base with | some a=>storeCells (a.add (m*sz)) vs | none=>pure ():Sem Unit).run P w=.ok () w'->(S (.slice base m c)).run P w=.ok (.slice base (m+n) c) w'
def GrowRun(P:Program)(w:World)(i:TypeInfo)(z:Value)(e:TypeId)(n:Nat)(vs:List Value)(S:Value->Sem Value):Prop:=∀(base:Option Addr) (m c:Nat) (ovs:List Value),¬(m+n<=c) ->
 ((m+n:Nat):Int)<=9223372036854775807->Builtin.nextslicecap (m+n) c*i.bytes<=281474976710656->(Builtin.firstCells i.size m (.slice base m c)).run P w.drew=.ok ovs.toArray w.drew ->
 (S (.slice base m c)).run P w=.ok (.slice (some ⟨w.heap.size,0,none⟩) (m+n) (grownCap w (m+n) c e)) (w.drew.alloc (.cells (ovs.toArray++vs.toArray++Builtin.zeroCells z.cells (grownCap w (m+n) c e - (m+n))) e))
theorem UP{e:TypeId}{i:TypeInfo}{z:Value}{base:Option Addr}{m n c:Nat}{os ys:List AV}{ovs vs:List Value}{S:Value->Sem Value}
  (aT:z.cells.size=i.size) (hs:Sat E st w) (hG:GrowRun P w i z e n vs S)
  (eC:∀ w2:World,w2.heap=w.heap->(Builtin.firstCells i.size m (.slice base m c)).run P w2=.ok ovs.toArray w2)
  (ho:R2 E w os ovs) (iP:ovs.length=m*i.size) (hy:R2 E w ys vs) (eP:vs.length=n*i.size)
  (aE:¬(m+n<=c)) (mB:(m+n)*i.bytes<=140737488355328) (oE:m+n<=140737488355328):
  ∃ q w' E',(S (.slice base m c)).run P w=.ok q w'/\Ext E w E' w'/\Sat E' (st.new (.row (os++ys))) w'/\Rv E' w' (.own st.next 0 (m+n) i.size none (m+n)) q/\TagR E' w' e w (.slice base m c) (.own st.next 0 (m+n) i.size none (m+n)):=by
 obtain⟨cr,aL⟩:=hs.drew
 have eV:=grownCap_ge w (m+n) c e
 have pj:(ovs.toArray++vs.toArray++Builtin.zeroCells z.cells (grownCap w (m+n) c e - (m+n))).size=grownCap w (m+n) c e*i.size:=by
  simp only[Array.size_append,size_zeroCells,List.size_toArray,iP,eP,aT]
  rw[<-Xv,<-Xv];congr 1;omega
 have aV:=hG base m c ovs aE (by omega) (growslice_fits (by omega) mB) (eC w.drew rfl)
 have eT:R2 E w (os++ys) (ovs++vs):=ho.append hy
 obtain⟨bD,bY⟩:=cr.alloc (.cells (ovs.toArray++vs.toArray++Builtin.zeroCells z.cells (grownCap w (m+n) c e - (m+n))) e) (.row (os++ys)) fun E' aK=>
  ⟨⟨_,e,(0,0),Vz w.drew _,by
   rw[pj,eT.length,QJ,iP,eP,<-Xv]
   exact XL _ eV,.inl rfl⟩,
  V3.new_prefix (vs:=ovs++vs) (R2.mono (aL.trans aK) _ _ eT) (Vz w.drew _) fun j v hj=>by
   have e0:ovs.toArray++vs.toArray=(ovs++vs).toArray:=by simp
   rw[e0]
   have am:=(Qt.1 hj).1
   rw[Zg (by simpa using am)]
   simpa using hj⟩
 refine⟨_,_,_,aV,aL.trans bY,bD,⟨w.heap.size,grownCap w (m+n) c e,e,_,by simp[Env.link],rfl,eV,by simp,Yn w.drew _ e (0,0),?_,eV⟩,fun id off n' sz cap lo dO b hb=>?_⟩
 ·rw[pj];simp
 ·injection dO with h1 _ _ _ _ _
  subst h1
  have:some w.drew.heap.size=some b:=by rw[<-hb];simp[Env.link]
  injection this with this
  subst this
  exact⟨e,_,Yn w.drew _ e (0,0),.inl rfl⟩
theorem appendA_core{e:TypeId}{i:TypeInfo}{z:Value}{x r:AV}{n:Nat}{vx:Value}{ys:List AV}{vs:List Value}{af:St}{S:Value->Sem Value}
  (aT:z.cells.size=i.size) (hs:Sat E st w) (hx:Rv E w x vx) (hF:FitRun P w i.size n vs S) (hG:GrowRun P w i z e n vs S)
  (hy:R2 E w ys vs) (eP:vs.length=n*i.size) (hr:VX i.bytes i.size st x n ys=some (r,af)):
  ∃ q w' E',(S vx).run P w=.ok q w'/\Ext E w E' w'/\Sat E' af w'/\Rv E' w' r q/\TagR E' w' e w vx r:=by
 unfold VX at hr
 cases gO:n.beq 0
 ·
  have hn:0 < n:=by
   rcases Nat.eq_zero_or_pos n with h | h
   ·subst h;simp at gO
   ·exact h
  simp only[gO,Qq] at hr
  cases x<;>try (simp only[reduceCtorEq] at hr;done)
  ·
   have hx:vx=.slice none 0 0:=hx
   subst hx
   cases hc:((n*i.bytes).ble 140737488355328&&n.ble 140737488355328)
   ·simp[hc] at hr
   ·simp only[hc,Qi,Qa,Q2] at hr
    obtain⟨rfl,rfl⟩:=hr
    simp only[Qd] at hc
    have c1:=Qk hc.1
    have c2:=Qk hc.2
    have:=UP (E:=E) (w:=w) (st:=st) (base:=none) (m:=0) (c:=0) (os:=[]) (ovs:=[]) aT hs hG (fun w2 _=>by simp[Builtin.firstCells]) rfl (by simp) hy eP (by omega) (by simpa using c1) (by omega)
    simpa using this
  ·
   rename_i m cs ex
   cases ex with
   | false=>simp at hr
   | true=>
    simp only at hr
    obtain⟨a,cap,rfl,h1,h2,h3,h4⟩:=hx
    have:=h2 rfl
    subst this
    cases hc:(((cap+n)*i.bytes).ble 140737488355328&&(cap+n).ble 140737488355328&&(cap*i.size).ble cs.length)
    ·simp[hc] at hr
    ·simp only[hc,Qi,Qa,Q2] at hr
     obtain⟨rfl,rfl⟩:=hr
     simp only[Qd] at hc
     have c1:=Qk hc.1.1
     have c2:=Qk hc.1.2
     have c3:=Qk hc.2
     obtain⟨ovs,k1,k2⟩:=(h4.take (cap*i.size)).vals
     have iP:ovs.length=cap*i.size:=by rw[<-k1.length];simp;omega
     exact UP (E:=E) (w:=w) (st:=st) (base:=some a) (m:=cap) (c:=cap) aT hs hG (fun w2 hh=>by
      have:=JQ (P:=P) hh k2
      rw[iP] at this
      simpa [Builtin.firstCells] using this) k1 iP hy eP (by omega) c1 c2
  ·
   rename_i id off m s cap lo
   obtain⟨b,c,e',mm,h0,rfl,h1,h2,h3,h4,h5⟩:=hx
   cases ho:st.get id with
   | none=>simp[ho] at hr
   | some o=>
    cases o with
    | loop s=>simp[ho] at hr
    | fro cs=>simp[ho] at hr
    | map es=>simp[ho] at hr
    | fmap es=>simp[ho] at hr
    | iter m ks=>simp[ho] at hr
    | row cs=>
     simp only[ho] at hr
     cases hc:(s.beq i.size&&((m+n)*i.bytes).ble 140737488355328&&(m+n).ble 140737488355328&&(off+m*i.size).ble cs.length&&ys.all AV.one)
     ·simp[hc] at hr
     ·simp only[hc,Qi] at hr
      simp only[Qd] at hc
      have es:=Qj hc.1.1.1.1
      have c1:=Qk hc.1.1.1.2
      have c2:=Qk hc.1.1.2
      have c3:=Qk hc.1.2
      have c4:=hc.2
      subst es
      have bA:=hy.one c4
      have aH:=(row_at (off:=off) hs h0 (.inl ho)).take (m*i.size)
      obtain⟨ovs,k1,k2⟩:=aH.vals
      have iP:ovs.length=m*i.size:=by rw[<-k1.length];simp;omega
      have eC:∀ w2:World,w2.heap=w.heap->(Builtin.firstCells i.size m (.slice (some ⟨b,off,none⟩) m c)).run P w2=.ok ovs.toArray w2:=fun w2 hh=>by
       have:=JQ (P:=P) hh k2
       rw[iP] at this
       simpa [Builtin.firstCells] using this
      have pk:ys.length=n*i.size:=by rw[hy.length];exact eP
      have grow:¬(m+n<=c)->r=.own st.next 0 (m+n) i.size none (m+n)->af=st.new (.row ((cs.drop off).take (m*i.size)++ys)) ->
        ∃ q w' E',(S (.slice (some ⟨b,off,none⟩) m c)).run P w=.ok q w'/\Ext E w E' w'/\Sat E' af w'/\Rv E' w' r q/\TagR E' w' e w (.slice (some ⟨b,off,none⟩) m c) r:=fun xP e1 e2=>by
       subst e1;subst e2
       exact UP (E:=E) (w:=w) (st:=st) aT hs hG eC k1 iP hy eP xP c1 c2
      have place:m+n<=c->off+(m+n)*i.size<=cs.length->r=.own id off (m+n) i.size cap lo->af=st.put id (.row (setCells cs (off+m*i.size) ys)) ->
        ∃ q w' E',(S (.slice (some ⟨b,off,none⟩) m c)).run P w=.ok q w'/\Ext E w E' w'/\Sat E' af w'/\Rv E' w' r q/\TagR E' w' e w (.slice (some ⟨b,off,none⟩) m c) r:=fun aE d8 e1 e2=>by
       subst e1;subst e2
       rw[Xv] at d8
       obtain⟨w',r1,r2,r3⟩:=write_row (P:=P) (off:=off+m*i.size) hs ho h0 hy (by omega) bA
       exact⟨_,w',E,hF _ _ _ _ aE (by simpa [Wb] using r1),r3,r2,⟨b,c,e',mm,h0,rfl,aE,h2,r3.shape _ _ h3,h4,h5⟩,fun fJ pl n' wv gS gm dO b' bw=>by
        injection dO with g1 _ _ _ _ _
        subst g1
        rw[h0] at bw;injection bw with bw;subst bw
        exact⟨e',mm,r3.shape _ _ h3,.inr ⟨_,_,_,mm,rfl,h3⟩⟩⟩
      generalize dd:KY (m+n) lo cap=fits at hr
      unfold KY at dd
      have mC:fits=some true->m+n<=c:=fun h=>by
       subst h
       cases cap with
       | some c'=>have:=h2 c' rfl;subst this;simp only[Qa] at dd;exact Qk dd
       | none=>
        cases hb:(m+n).ble lo
        ·simp[hb] at dd
        ·exact QY (Qk hb) h5
      have mD:fits=some false->¬(m+n<=c):=fun h aR=>by
       subst h
       cases cap with
       | some c'=>have:=h2 c' rfl;subst this;simp only[Qa] at dd;rw[Qo aR] at dd;simp at dd
       | none=>cases hb:(m+n).ble lo<;>simp[hb] at dd
      cases fits with
      | some ft=>
       cases ft with
       | true=>
        simp only at hr
        cases d8:(off+(m+n)*i.size).ble cs.length
        ·simp[d8] at hr
        ·simp only[d8,Qi,Qa,Q2] at hr
         exact place (mC rfl) (Qk d8) hr.1.symm hr.2.symm
       | false=>
        simp only[Qa,Q2] at hr
        exact grow (mD rfl) hr.1.symm hr.2.symm
      | none=>
       simp only at hr
       cases cU:(off.beq 0&&(m*i.size).beq cs.length)
       ·simp[cU] at hr
       ·simp only[cU,Qi,Qa,Q2] at hr
        obtain⟨rfl,rfl⟩:=hr
        simp only[Qd] at cU
        have e0:=Qj cU.1
        have e1:=Qj cU.2
        subst e0
        by_cases aE:m+n<=c
        ·
         obtain⟨⟨cur,e2,f2,gQ,aY,bv⟩,hm⟩:=hs.obj id _ b ho h0
         have bl:w.shape? b=some (e2,cur.size):=by unfold World.shape?;rw[gQ]
         rw[bl] at h3
         injection h3 with h3
         injection h3 with xQ xR
         subst xQ;subst xR
         have aR:(m+n)*i.size<=c*i.size:=XL _ aE
         rw[Xv] at aR
         obtain⟨w',cd,r1,r2,r3,r4,r5,r6,r7,r8,r9⟩:=JO (P:=P) b (m*i.size) e2 f2 vs 0 cur w gQ (bv.imp_right And.left) (by omega) bA
         have cH:∀ s,w.shape? b=some s->w'.shape? b=some s:=fun s h=>by
          unfold World.shape? at h ⊢;rw[gQ] at h;rw[r2];simpa [r3] using h
         obtain⟨q1,q2⟩:=Sat.write hs id b (.row cs) (.row (cs++ys)) ho rfl h0 r5 r6 cH r7 r8 r9 rfl fun eU=>⟨⟨cd,e2,f2,r2,by
           rw[QJ,pk,r3];omega,by rw[r3];exact bv⟩,by
          refine V3.of_get fun j d hd=>?_
          have bo:w'.cell? ((⟨b,0,none⟩:Addr).add (0+j))=cd[j]?:=by
           rw[Wb];simpa using cell_of_row w' b j cd e2 f2 r2
          rw[bo,r4 j]
          by_cases hj:j < cs.length
          ·rw[Xk hj] at hd
           rw[Qe (by omega)]
           obtain⟨v,k3,k4⟩:=hm.get j hd
           refine⟨v,?_,Rv.mono eU _ _ k4⟩
           rw[Wb] at k3
           have:=cell_of_row w b j cur e2 f2 gQ
           simp only[Q7] at k3
           rw[this] at k3;exact k3
          ·rw[Xg (by omega)] at hd
           obtain⟨v,k3,k4⟩:=hy.get _ hd
           have am:=(Qt.1 k3).1
           rw[Qm (by omega)]
           refine⟨v,?_,Rv.mono eU _ _ k4⟩
           rw[<-k3];congr 1;omega⟩
         obtain⟨q3,q4⟩:=q1.rename (id:=id) (b:=b) (o:=.row (cs++ys)) (by simp) rfl h0
         refine⟨_,w',E.link st.next b,hF _ _ _ _ aE (by simpa [Wb] using r1),q2.trans q4,?_,⟨b,c,e2,cur.size,by simp[Env.link],rfl,aE,by simp,cH _ bl,by omega,aE⟩,fun fJ pl n' wv gS gm dO b' bw=>by
          injection dO with g1 _ _ _ _ _
          subst g1
          have:some b=some b':=by rw[<-bw];simp[Env.link]
          injection this with this
          subst this
          exact⟨e2,cur.size,cH _ bl,.inr ⟨_,_,_,_,rfl,bl⟩⟩⟩
         refine q3.congr (fun j=>?_) (by simp) rfl
         simp only[St.get_new,St.get_del,St.get_put,St.next_del,St.next_put]
         by_cases hj:j=st.next
         ·simp[hj]
         ·by_cases fu:j=id<;>simp[hj,fu]
        ·
         have sj:(List.drop 0 cs).take (m*i.size)=cs:=by rw[Xw,e1,QH]
         rw[sj] at k1
         exact UP (E:=E) (w:=w) (st:=st.del id) aT (hs.del id) hG eC k1 iP hy eP aE c1 c2
 ·
  have hn:=Qj gO
  subst hn
  simp only[gO,Qi] at hr
  have gU:vs=[]:=by
   cases vs with
   | nil=>rfl
   | cons v vs=>simp at eP
  subst gU
  have fin:∀(base:Option Addr) (m c:Nat),vx=.slice base m c->m<=c->r=x->af=st ->
    ∃ q w' E',(S vx).run P w=.ok q w'/\Ext E w E' w'/\Sat E' af w'/\Rv E' w' r q/\TagR E' w' e w vx r:=fun base m c hv sn e1 e2=>by
   subst hv;subst e1;subst e2
   refine⟨_,w,E,hF _ _ _ w (by omega) ?_,Ext.refl _ _,hs,by simpa using hx,fun fJ pl n' wv gS gm dO b' bw=>?_⟩
   ·cases base<;>simp[storeCells]
   ·subst dO
    obtain⟨b,c',e',mm,h0,gq,h1,h2,h3,_⟩:=hx
    rw[h0] at bw;injection bw with bw;subst bw
    exact⟨e',mm,h3,.inr ⟨_,_,_,mm,gq,h3⟩⟩
  cases x<;>simp only[Qa,Q2,reduceCtorEq] at hr<;>obtain⟨rfl,rfl⟩:=hr
  ·exact fin none 0 0 hx (Qw _) rfl rfl
  ·obtain⟨a,cap,hv,h1,_⟩:=id hx
   exact fin _ _ _ hv h1 rfl rfl
  ·obtain⟨b,c,e',mm,h0,hv,h1,_⟩:=id hx
   exact fin _ _ _ hv h1 rfl rfl
theorem appendA_sound{ts:Array TypeId}{t u ty e:TypeId}{du:TypeDesc}{i:TypeInfo}{z:Value}{x r:AV}{n:Nat}{vx vy:Value}{ys:List AV}{vs:List Value}{af:St}
  (be:ts[0]?=some t) (ht:P.underlying t=some (.slice e)) (hi:P.info? e=some i) (hz:i.zero=some z) (bT:ts[1]?=some u) (hu:P.underlying u=some du) (eO:Kt du)
  (aT:z.cells.size=i.size) (hs:Sat E st w) (hx:Rv E w x vx)
  (hl:∀ w2,(Builtin.lenOf vy).run P w2=.ok n w2) (hf:∀ w2:World,w2.heap=w.heap->(Builtin.firstCells i.size n vy).run P w2=.ok vs.toArray w2)
  (hy:R2 E w ys vs) (eP:vs.length=n*i.size) (hr:VX i.bytes i.size st x n ys=some (r,af)):
  ∃ q w' E',(Builtin.append_ ts ty #[vx,vy]).run P w=.ok q w'/\Ext E w E' w'/\Sat E' af w'/\Rv E' w' r q/\TagR E' w' e w vx r:=
 appendA_core (S:=fun v=>Builtin.append_ ts ty #[v,vy]) aT hs hx
  (fun base m c w' aE ax=>append_fit (P:=P) (ty:=ty) be ht hi bT hu eO hl (hf w rfl) aE (by simpa using ax))
  (fun base m c ovs aE oE mB eC=>append_grow (P:=P) (w:=w) (ty:=ty) be ht hi hz bT hu eO hl (hf w.drew rfl) eC aE oE mB)
  hy eP hr
end
end Go.AM
namespace Go.AM
section
variable {E:Env} {st:St} {w:World} {P:Program}
theorem nilchkA_sound{x r:AV}{v:Value}{o:Oper}{X:Operand}{ρ:Operand->Value}(ho:o.op=.nilCheck X)(hv:ρ X=v)(hx:Rv E w x v)(hr:Jd x=some r):
  (execOp ρ o).run P w=.ok (.value v) w/\Rv E w r v:=by
 unfold Jd at hr
 split at hr<;>simp only[Qa,reduceCtorEq] at hr<;>subst hr
 ·have h0:=hx;obtain⟨b,hb,rfl⟩:=hx
  exact⟨by simp[execOp,ho,hv],h0⟩
 ·have h0:=hx;obtain⟨a,rfl,_⟩:=hx
  exact⟨by simp[execOp,ho,hv],h0⟩
 ·have h0:=hx;obtain⟨xs,ys,rfl,_⟩:=hx
  exact⟨by simp[execOp,ho,hv],h0⟩
 ·have h0:=hx;obtain⟨y,rfl,_⟩:=hx
  exact⟨by simp[execOp,ho,hv],h0⟩
theorem makeIface_sound{t:TypeId}{d:TypeDesc}{x:AV}{v:Value}(ht:P.underlying t=some d)(hd:Y3 d=true)(hx:Rv E w x v):
  (Instr.makeInterface t v).run P w=.ok (.iface t v) w/\Rv E w (.iface t x) (.iface t v):=by
 refine⟨?_,v,rfl,hx⟩
 cases d<;>simp[Y3] at hd<;>simp[Instr.makeInterface,underlying,ht]
theorem tassertA_sound{t xt:TypeId}{d:TypeDesc}{i:TypeInfo}{z:Value}{zero x r:AV}{ok:Bool}{v:Value}(ht:P.underlying t=some d)(hd:Y3 d=true)(hi:P.info? t=some i)(hz:i.zero=some z)
  (bE:Rv E w zero z) (hx:Rv E w x v) (hr:tassertA t zero ok x=some r):∃ u,(Instr.typeAssert v xt t ok).run P w=.ok u w/\Rv E w r u:=by
 have two:∀(a b:AV) (va vb:Value),Rv E w a va->Rv E w b vb->Rv E w (.tuple [a,b]) (.tuple #[va,vb]):=fun a b va vb h1 h2=>⟨#[va,vb],rfl,va,[vb],rfl,h1,vb,[],rfl,h2,rfl⟩
 cases x<;>simp only[tassertA,reduceCtorEq] at hr
 ·have hx:v=.nilIface:=hx
  subst hx
  cases ok<;>simp only[Qi,Qq,Qa,reduceCtorEq] at hr
  subst hr
  refine⟨.tuple #[z,.bool false],?_,two _ _ _ _ bE rfl⟩
  cases d<;>simp[Y3] at hd<;>simp[Instr.typeAssert,underlying,ht,Wc hi hz]
 ·obtain⟨y,rfl,hy⟩:=hx
  rename_i u x
  cases hu:u.beq t
  ·simp only[hu,Qq] at hr
   cases ok<;>simp only[Qi,Qq,Qa,reduceCtorEq] at hr
   subst hr
   have az:u≠t:=fun h=>by subst h;simp at hu
   refine⟨.tuple #[z,.bool false],?_,two _ _ _ _ bE rfl⟩
   cases d<;>simp[Y3] at hd<;>simp[Instr.typeAssert,underlying,ht,Wc hi hz,az]
  ·simp only[hu,Qi] at hr
   have:=Qj hu
   subst this
   cases ok<;>simp only[Qi,Qq,Qa] at hr<;>subst hr
   ·refine⟨y,?_,hy⟩
    cases d<;>simp[Y3] at hd<;>simp[Instr.typeAssert,underlying,ht]
   ·refine⟨.tuple #[y,.bool true],?_,two _ _ _ _ hy rfl⟩
    cases d<;>simp[Y3] at hd<;>simp[Instr.typeAssert,underlying,ht]
theorem bytes_beq(s s':ByteArray):(s.data.toList==s'.data.toList)=(s==s'):=by
 have:(s==s')=(s.data==s'.data):=by cases s;cases s';rfl
 rw[this];simp
def Uj(str:Bool):TypeDesc->Prop:=fun d=>(str=true/\d=.string)\/(str=false/\∃ k,d=.int k)
theorem keyEq_sound{str:Bool}{d:TypeDesc}{x y:AV}{v u:Value}{b:Bool}(hd:Uj str d)(hx:Rv E w x v)(hy:Rv E w y u)(h:KO str x y=some b):Instr.sameNow d v u=some b:=by
 cases x<;>cases y<;>simp only[KO,reduceCtorEq] at h
 ·have hx:v=_:=hx
  have hy:u=_:=hy
  subst hx;subst hy
  rcases hd with⟨rfl,rfl⟩|⟨rfl,k,rfl⟩
  ·simp at h
  ·simp only[Qq] at h
   simp only[Instr.sameNow]
   exact h
 ·obtain⟨s,rfl,hs⟩:=hx
  obtain⟨s',rfl,cJ⟩:=hy
  rcases hd with⟨rfl,rfl⟩|⟨rfl,k,rfl⟩
  ·simp only[Qi,Qa] at h
   rw[<-hs,<-cJ,UO] at h
   simp only[Instr.sameNow,Qa]
   rw[<-h]
   exact(bytes_beq s s').symm
  ·simp at h
theorem sameBits_of{str:Bool}{x y:AV}{v u:Value}(hx:Rv E w x v)(hy:Rv E w y u)(h:KO str x y=some true)(n:Nat):Instr.sameBits n u v=true:=by
 cases x<;>cases y<;>simp only[KO,reduceCtorEq] at h
 ·have hx:v=_:=hx
  have hy:u=_:=hy
  subst hx;subst hy
  cases str
  ·simp only[Qq,Xs,Qa,Zm] at h
   obtain⟨rfl,rfl⟩:=h
   simp[Instr.sameBits]
  ·simp at h
 ·obtain⟨s,rfl,hs⟩:=hx
  obtain⟨s',rfl,cJ⟩:=hy
  cases str
  ·simp at h
  ·simp only[Qi,Qa] at h
   rw[<-hs,<-cJ,UO] at h
   rw[bytes_beq] at h
   have h':(s'==s)=true:=by
    rw[<-bytes_beq] at h ⊢
    rw[eq_of_beq h];simp
   simp[Instr.sameBits,h']
theorem Su{str:Bool}{d:TypeDesc}{k:AV}{vk:Value}(hd:Uj str d)(hk:Rv E w k vk):∀(es:List (AV × AV)) (l:List MapEntry) (r:Option AV) (i:Nat),RvEs E w es l->Uz str k es=some r ->
  ∃ q,Instr.findNow d vk l i=some q/\(match r,q with | none,none=>True | some v,some (_,u)=>Rv E w v u | _,_=>False)
 | [],l,r,i,hl,h=>by
  cases hl;simp only[Uz,Qa] at h;subst h
  exact⟨none,rfl,trivial⟩
 | (x,v)::es,_,r,i,⟨e,l,rfl,h1,h2,h3⟩,h=>by
  simp only[Uz] at h
  cases hq:KO str k x with
  | none=>simp[hq] at h
  | some b=>
   have hs:=keyEq_sound hd hk h1 hq
   cases b with
   | true=>
    simp only[hq,Qa] at h;subst h
    exact⟨some (i,e.val),by simp[Instr.findNow,hs],h2⟩
   | false=>
    simp only[hq] at h
    obtain⟨q,h4,h5⟩:=Su hd hk es l r (i+1) h3 h
    exact⟨q,by simp[Instr.findNow,hs,h4],h5⟩
theorem Y2{str:Bool}{d:TypeDesc}{kt:TypeId}{b:Bool}{v:Value}(hk:P.underlying kt=some d)(hd:Uj str d):(Instr.checkKey b 10000 kt v).run P w=.ok () w:=by
 have:∀ n,(Instr.checkKey b (n+1) kt v).run P w=.ok () w:=fun n=>by
  rcases hd with⟨_,rfl⟩|⟨_,k,rfl⟩<;>simp[Instr.checkKey,underlying,hk]
 exact this 9999
theorem lookupA_sound{t kt et:TypeId}{d:TypeDesc}{i:TypeInfo}{z:Value}{zero m k r:AV}{str ok:Bool}{vm vk:Value}(ht:P.underlying t=some (.map kt et))(hk:P.underlying kt=some d)(hd:Uj str d)
  (hi:P.info? et=some i) (hz:i.zero=some z) (bE:Rv E w zero z) (hs:Sat E st w) (hm:Rv E w m vm) (rm:Rv E w k vk) (hr:JP str zero ok st m k=some r):
  ∃ u,(Instr.lookup t vm vk ok).run P w=.ok u w/\Rv E w r u:=by
 have two:∀(a b:AV) (va vb:Value),Rv E w a va->Rv E w b vb->Rv E w (.tuple [a,b]) (.tuple #[va,vb]):=fun a b va vb h1 h2=>⟨#[va,vb],rfl,va,[vb],rfl,h1,vb,[],rfl,h2,rfl⟩
 cases m<;>simp only[JP,reduceCtorEq] at hr
 ·have hm:vm=.map none:=hm
  subst hm
  simp only[Qa] at hr;subst hr
  refine⟨if ok then .tuple #[z,.bool false] else z,?_,?_⟩
  ·simp[Instr.lookup,underlying,ht,Y2 hk hd,Instr.findKey,hk,Instr.findNow,Wc hi hz]
  ·cases ok
   ·exact bE
   ·exact two _ _ _ _ bE rfl
 ·obtain⟨b,hb,rfl⟩:=hm
  rename_i id
  cases ho:st.get id with
  | none=>simp[ho] at hr
  | some o=>
   cases o with
   | loop s=>simp[ho] at hr
   | row _=>simp[ho] at hr
   | fro _=>simp[ho] at hr
   | iter _ _=>simp[ho] at hr
   | map es=>
    simp only[ho] at hr
    obtain⟨l,clock,h1,h2,_⟩:=hs.obj id _ b ho hb
    have hg:(getObj b).run P w=.ok (.map l clock) w:=by simp[getObj,Sem.run,h1]
    cases hf:Uz str k es with
    | none=>simp[hf] at hr
    | some q=>
     simp only[hf,Ql,Qa] at hr;subst hr
     obtain⟨q',h3,h4⟩:=Su hd rm es l.toList q 0 h2 hf
     cases q with
     | none=>
      cases q' with
      | some p=>exact h4.elim
      | none=>
       refine⟨if ok then .tuple #[z,.bool false] else z,?_,?_⟩
       ·simp[Instr.lookup,underlying,ht,Y2 hk hd,Instr.findKey,hk,hg,h3,Wc hi hz]
       ·cases ok
        ·exact bE
        ·exact two _ _ _ _ bE rfl
     | some v=>
      cases q' with
      | none=>exact h4.elim
      | some p=>
       obtain⟨j,u⟩:=p
       refine⟨if ok then .tuple #[u,.bool true] else u,?_,?_⟩
       ·simp[Instr.lookup,underlying,ht,Y2 hk hd,Instr.findKey,hk,hg,h3]
       ·cases ok
        ·exact h4
        ·exact two _ _ _ _ h4 rfl
   | fmap es=>
    simp only[ho] at hr
    obtain⟨_,l,clock,h1,h2,_⟩:=hs.obj id _ b ho hb
    have hg:(getObj b).run P w=.ok (.map l clock) w:=by simp[getObj,Sem.run,h1]
    cases hf:Uz str k es with
    | none=>simp[hf] at hr
    | some q=>
     simp only[hf,Ql,Qa] at hr;subst hr
     obtain⟨q',h3,h4⟩:=Su hd rm es l.toList q 0 h2 hf
     cases q with
     | none=>
      cases q' with
      | some p=>exact h4.elim
      | none=>
       refine⟨if ok then .tuple #[z,.bool false] else z,?_,?_⟩
       ·simp[Instr.lookup,underlying,ht,Y2 hk hd,Instr.findKey,hk,hg,h3,Wc hi hz]
       ·cases ok
        ·exact bE
        ·exact two _ _ _ _ bE rfl
     | some v=>
      cases q' with
      | none=>exact h4.elim
      | some p=>
       obtain⟨j,u⟩:=p
       refine⟨if ok then .tuple #[u,.bool true] else u,?_,?_⟩
       ·simp[Instr.lookup,underlying,ht,Y2 hk hd,Instr.findKey,hk,hg,h3]
       ·cases ok
        ·exact h4
        ·exact two _ _ _ _ h4 rfl
theorem putA_sound{str:Bool}{d:TypeDesc}{k v:AV}{vk vv:Value}(hd:Uj str d)(hk:Rv E w k vk)(hv:Rv E w v vv):∀(es eQ:List (AV × AV)) (l:List MapEntry) (i:Nat),RvEs E w es l->putA str k v es=some eQ ->
  (Instr.findNow d vk l i=some none/\∀ clock,RvEs E w eQ (l++[{ key:=vk,val:=vv,born:=clock }])) ∨
  (∃ j u old,Instr.findNow d vk l i=some (some (i+j,u))/\l[j]?=some old/\Instr.sameBits 10000 old.key vk=true/\RvEs E w eQ (l.set j { old with key:=vk,val:=vv }))
 | [],eQ,l,i,hl,h=>by
  cases hl;simp only[putA,Qa] at h;subst h
  exact .inl ⟨rfl,fun clock=>⟨_,_,rfl,hk,hv,rfl⟩⟩
 | (x,u)::es,eQ,_,i,⟨e,l,rfl,h1,h2,h3⟩,h=>by
  simp only[putA] at h
  cases hq:KO str k x with
  | none=>simp[hq] at h
  | some b=>
   have hs:=keyEq_sound hd hk h1 hq
   cases b with
   | true=>
    simp only[hq,Qa] at h;subst h
    exact .inr ⟨0,e.val,e,by simp[Instr.findNow,hs],rfl,sameBits_of hk h1 hq 10000,⟨_,_,rfl,hk,hv,h3⟩⟩
   | false=>
    simp only[hq] at h
    cases hp:putA str k v es with
    | none=>simp[hp] at h
    | some xS=>
     simp only[hp,Ql,Qa] at h;subst h
     rcases putA_sound hd hk hv es xS l (i+1) h3 hp with⟨h4,h5⟩|⟨j,u',old,h4,h5,h6,h7⟩
     ·exact .inl ⟨by simp[Instr.findNow,hs,h4],fun clock=>⟨_,_,rfl,h1,h2,h5 clock⟩⟩
     ·refine .inr ⟨j+1,u',old,?_,by simpa using h5,h6,⟨_,_,rfl,h1,h2,h7⟩⟩
      simp only[Instr.findNow,hs,h4]
      rw[show i+1+j=i+(j+1) by omega]
theorem stamp_push{l:Array MapEntry}{c:Nat}(h:Je l c)(vk vv:Value):Je (l.push { key:=vk,val:=vv,born:=c }) (c+1):=by
 refine⟨fun x hx=>?_,?_⟩
 ·simp only[Array.toList_push,QV,Xd] at hx
  rcases hx with hx | rfl
  ·have:=h.1 x hx;omega
  ·exact Nat.lt_succ_self _
 ·simp only[Array.toList_push,QQ,Q4,QZ]
  rw[QS]
  refine⟨h.2,by simp,fun a ha b hb=>?_⟩
  simp only[Q6,Xd] at ha hb
  obtain⟨x,hx,rfl⟩:=ha
  have:=h.1 x hx;omega
theorem stamp_modify{l:Array MapEntry}{c:Nat}(h:Je l c)(j:Nat)(vk vv:Value):Je (l.modify j fun e=>{ e with key:=vk,val:=vv }) c:=by
 have hm:(l.modify j fun e=>{ e with key:=vk,val:=vv }).toList.map (·.born)=l.toList.map (·.born):=by
  apply Zn
  intro q
  simp only[Array.toList_modify,Q5,List.getElem?_modify]
  by_cases hq:j=q
  ·subst hq;cases l.toList[j]?<;>simp
  ·simp[hq]
 refine⟨fun x hx=>?_,by rw[hm];exact h.2⟩
 have:x.born∈(l.modify j fun e=>{ e with key:=vk,val:=vv }).toList.map (·.born):=List.mem_map_of_mem hx
 rw[hm] at this
 obtain⟨y,hy,he⟩:=Q6.1 this
 rw[<-he];exact h.1 y hy
theorem mapupA_sound{t kt et:TypeId}{d:TypeDesc}{m k v:AV}{str:Bool}{vm vk vv:Value}{af:St}(ht:P.underlying t=some (.map kt et))(hk:P.underlying kt=some d)(hd:Uj str d)
  (hs:Sat E st w) (hm:Rv E w m vm) (rm:Rv E w k vk) (hv:Rv E w v vv) (hr:Tw str st m k v=some af):
  ∃ w',(Instr.mapUpdate t vm vk vv).run P w=.ok () w'/\Sat E af w'/\Ext E w E w':=by
 cases m<;>simp only[Tw,reduceCtorEq] at hr
 obtain⟨b,hb,rfl⟩:=hm
 rename_i id
 cases ho:st.get id with
 | none=>simp[ho] at hr
 | some o=>
  cases o with
  | loop s=>simp[ho] at hr
  | row _=>simp[ho] at hr
  | fro _=>simp[ho] at hr
  | fmap _=>simp[ho] at hr
  | iter _ _=>simp[ho] at hr
  | map es=>
   simp only[ho] at hr
   obtain⟨l,clock,h1,h2,ax⟩:=hs.obj id _ b ho hb
   have am:b < w.heap.size:=(Qv.1 h1).1
   have hg:(getObj b).run P w=.ok (.map l clock) w:=by simp[getObj,Sem.run,h1]
   have kq:∀(l':Array MapEntry) (c':Nat),(setObj b (.map l' c')).run P w=.ok () { w with heap:=w.heap.setIfInBounds b (.map l' c') }:=fun l' c'=>by simp[setObj,Sem.run,h1]
   have pm:∀(l':Array MapEntry) (c':Nat) (eQ:List (AV × AV)),RvEs E w eQ l'.toList->Je l' c' ->
     Sat E (st.put id (.map eQ)) { w with heap:=w.heap.setIfInBounds b (.map l' c') }/\Ext E w E { w with heap:=w.heap.setIfInBounds b (.map l' c') }:=fun l' c' eQ he sr=>by
    refine Sat.write hs id b (.map es) (.map eQ) ho rfl hb (fun j hj=>?_) (by simp) (fun s cJ=>?_) rfl rfl rfl rfl fun hx=>⟨l',c',by simp[am],RvEs.mono hx.toExt0 _ _ he,sr⟩
    ·show (w.heap.setIfInBounds b _)[j]?=_
     rw[Zv (by omega)]
    ·unfold World.shape? at cJ;rw[h1] at cJ;simp at cJ
   cases hp:putA str k v es with
   | none=>simp[hp] at hr
   | some eQ=>
    simp only[hp,Ql,Qa] at hr;subst hr
    rcases putA_sound hd rm hv es eQ l.toList 0 h2 hp with⟨h4,h5⟩|⟨j,u,old,h4,h5,h6,h7⟩
    ·obtain⟨q1,q2⟩:=pm (l.push { key:=vk,val:=vv,born:=clock }) (clock+1) eQ (by simpa using h5 clock) (stamp_push ax _ _)
     refine⟨_,?_,q1,q2⟩
     simp[Instr.mapUpdate,underlying,ht,hg,Y2 hk hd,Instr.findKey,hk,h4,kq]
    ·have rn:l[j]?=some old:=by simpa using h5
     have hj:j < l.size:=(Qv.1 rn).1
     have sy:(l.modify j fun e=>{ e with key:=vk,val:=vv }).toList=l.toList.set j { old with key:=vk,val:=vv }:=by
      rw[Array.toList_modify]
      apply Zn
      intro q
      rw[List.getElem?_modify,List.getElem?_set]
      by_cases hq:j=q
      ·subst hq;simp only[Qm,h5,hj,Xm];rfl
      ·simp[hq]
     obtain⟨q1,q2⟩:=pm (l.modify j fun e=>{ e with key:=vk,val:=vv }) clock eQ (by rw[sy];exact h7) (stamp_modify ax j _ _)
     refine⟨_,?_,q1,q2⟩
     simp[Instr.mapUpdate,underlying,ht,hg,Y2 hk hd,Instr.findKey,hk,h4,kq,rn,Instr.keyThatStays,h6]
end
end Go.AM
namespace Go.AM
section
variable {E:Env} {st:St} {w:World} {P:Program}
theorem J0(zs:List AV):∀ n,(Yl zs n).length=n*zs.length
 | 0=>by simp[Yl]
 | n+1=>by simp[Yl,J0 zs n,Xv];omega
theorem zrep_get(zs:List AV):∀(n j:Nat),j < n*zs.length->(Yl zs n)[j]?=zs[j % zs.length]?
 | 0,j,h=>by simp at h
 | n+1,j,h=>by
  simp only[Yl]
  by_cases hj:j < zs.length
  ·rw[Xk hj,Ze hj]
  ·rw[Xg (by omega)]
   rw[Xv,Nat.one_mul] at h
   rw[zrep_get zs n (j - zs.length) (by omega)]
   rw[show j % zs.length=(j - zs.length) % zs.length from Nat.mod_eq_sub_mod (by omega)]
theorem UM{zs:List AV}{z:Array Value}(hz:R2 E w zs z.toList)(n:Nat):R2 E w (Yl zs n) (madeCells z (n*z.size)).toList:=by
 have hl:=hz.length
 simp only[Xm] at hl
 refine R2.of_get (by rw[J0,hl];simp[madeCells]) fun j c v h1 h2=>?_
 have hj:j < n*zs.length:=by rw[<-J0];exact(Qt.1 h1).1
 rw[zrep_get zs n j hj] at h1
 obtain⟨u,h3,h4⟩:=hz.get _ h1
 have am:j % zs.length < z.size:=by rw[<-hl];exact(Qt.1 h1).1
 have:v=u:=by
  have fN:j < n*z.size:=by rw[<-hl];exact hj
  simp only[madeCells,ZT,Array.toList_range,Q5,List.getElem?_range fN,Ql,Qa] at h2
  rw[<-h2,<-hl,getElem!_pos z _ am]
  have gV:z[j % zs.length]?=some u:=by simpa using h3
  rw[QM am] at gV
  injection gV
 rw[this];exact h4
theorem msliceA_sound{t e:TypeId}{i:TypeInfo}{z:Value}{zs:List AV}{l c r:AV}{vl vc:Value}{af:St}(ht:P.underlying t=some (.slice e))(hi:P.info? e=some i)(hz:i.zero=some z)
  (aT:∀ E w,R2 E w zs z.cells.toList) (hs:Sat E st w) (hl:Rv E w l vl) (hc:Rv E w c vc) (hr:msliceA i.bytes i.size zs st l c=some (r,af)):
  ∃ q w' E',(Instr.makeSlice t vl vc).run P w=.ok q w'/\Ext E w E' w'/\Sat E' af w'/\Rv E' w' r q:=by
 unfold msliceA at hr
 split at hr<;>try (simp only[reduceCtorEq] at hr;done)
 rename_i kl nl kc nc
 have hl:vl=.int kl (nl:Int):=hl
 have hc:vc=.int kc (nc:Int):=hc
 subst hl;subst hc
 cases aj:(nl.ble nc&&(i.bytes*nc).ble 140737488355328&&nc.ble 140737488355328&&zs.length.beq i.size)
 ·simp[aj] at hr
 ·simp only[aj,Qi,Qa,Q2] at hr
  obtain⟨rfl,rfl⟩:=hr
  simp only[Qd] at aj
  have c1:=Qk aj.1.1.1
  have c2:=Qk aj.1.1.2
  have c3:=Qk aj.1.2
  have c4:=Qj aj.2
  have kr:=(aT E w).length
  simp only[Xm] at kr
  have hb:(i.bytes:Int)*(nc:Int)<=281474976710656:=by
   have h:((i.bytes*nc:Nat):Int)<=281474976710656:=by omega
   rwa [Zx] at h
  have aV:=run_make (P:=P) w t e i z ht hi hz kl kc nl nc (by omega) (by omega) hb (by omega)
  simp only[Int.toNat_natCast] at aV
  have cI:i.size=z.cells.size:=by omega
  obtain⟨h1,h2⟩:=hs.alloc (.cells (madeCells z.cells (nc*i.size)) e) (.row (Yl zs nc)) fun E' hx=>⟨⟨_,e,(0,0),Vz w _,by
    rw[J0,size_madeCells,c4];exact Qw _,.inl rfl⟩,
   V3.new (by rw[cI];exact UM (aT _ _) nc) (Vz w _)⟩
  refine⟨_,_,_,aV,h2,h1,w.heap.size,nc,e,_,by simp[Env.link],rfl,c1,by simp,Yn w _ e (0,0),?_,X3 _⟩
  rw[size_madeCells];simp
theorem mslice_link_sound{t e:TypeId}{i:TypeInfo}{z:Value}{zs:List AV}{id nl nc:Nat}{kl kc:IntKind}(ht:P.underlying t=some (.slice e))(hi:P.info? e=some i)(hz:i.zero=some z)
  (aT:∀ E w,R2 E w zs z.cells.toList) (hs:Sat E st w) (aZ:id < st.next) (hβ:E.β id=none) (hr:¬ E.Rs id) (hg:st.get id=some (.row (Yl zs nc)))
  (aj:(nl.ble nc&&(i.bytes*nc).ble 140737488355328&&nc.ble 140737488355328&&zs.length.beq i.size)=true):
  ∃ q w',(Instr.makeSlice t (.int kl (nl:Int)) (.int kc (nc:Int))).run P w=.ok q w'/\Ext E w (E.link id w.heap.size) w'/\Sat (E.link id w.heap.size) st w'/\Rv (E.link id w.heap.size) w' (.own id 0 nl i.size (some nc) 0) q:=by
 simp only[Qd] at aj
 have c1:=Qk aj.1.1.1
 have c2:=Qk aj.1.1.2
 have c3:=Qk aj.1.2
 have c4:=Qj aj.2
 have kr:=(aT E w).length
 simp only[Xm] at kr
 have hb:(i.bytes:Int)*(nc:Int)<=281474976710656:=by
  have h:((i.bytes*nc:Nat):Int)<=281474976710656:=by omega
  rwa [Zx] at h
 have aV:=run_make (P:=P) w t e i z ht hi hz kl kc nl nc (by omega) (by omega) hb (by omega)
 simp only[Int.toNat_natCast] at aV
 have cI:i.size=z.cells.size:=by omega
 obtain⟨h1,h2⟩:=hs.link (.cells (madeCells z.cells (nc*i.size)) e) id (.row (Yl zs nc)) aZ hβ hr hg fun E' hx=>⟨⟨_,e,(0,0),Vz w _,by
   rw[J0,size_madeCells,c4];exact Qw _,.inl rfl⟩,
  V3.new (by rw[cI];exact UM (aT _ _) nc) (Vz w _)⟩
 refine⟨_,_,aV,h2,h1,w.heap.size,nc,e,_,by simp[Env.link],rfl,c1,by simp,Yn w _ e (0,0),?_,X3 _⟩
 rw[size_madeCells];simp
set_option maxHeartbeats 1000000 in
theorem appendz_fit{ts:Array TypeId}{t u ty e:TypeId}{ki k:IntKind}{i:TypeInfo}{z:Value}{base:Option Addr}{m n c:Nat}{w':World}
  (be:ts[0]?=some t) (ht:P.underlying t=some (.slice e)) (hi:P.info? e=some i) (hz:i.zero=some z) (bT:ts[1]?=some u) (hu:P.underlying u=some (.int ki))
  (aT:z.cells.size=i.size) (hb:n*i.bytes<=140737488355328) (hn:n<=140737488355328) (aE:m+n<=c)
  (ax:(match base with | some a=>storeCells (a.add (m*i.size)) (madeCells z.cells (n*i.size)).toList | none=>pure ():Sem Unit).run P w=.ok () w'):
  (Builtin.append_ ts ty #[.slice base m c,.int k (n:Int)]).run P w=.ok (.slice base (m+n) c) w':=by
 have wn:IntKind.i64.wrap (n:Int)=n:=wrap_i64 (by omega) (by omega)
 have n1:¬((n:Int) < 0):=by omega
 have n2:¬(281474976710656 < (n:Int)*(i.bytes:Int)):=by
  have h:((n*i.bytes:Nat):Int)<=281474976710656:=by omega
  rw[Zx] at h;omega
 have iR:Builtin.zeroCells z.cells n=madeCells z.cells (n*i.size):=by unfold Builtin.zeroCells madeCells;rw[aT]
 by_cases h0:n*i.size=0
 ·have lF:madeCells z.cells (n*i.size)=#[]:=by rw[h0];simp[madeCells]
  rw[lF] at ax
  cases base with
  | none=>
   simp only[Sem.run_pure,Result.ok.injEq,true_and] at ax;subst ax
   simp[Builtin.append_,be,bT,underlying,ht,hu,sizeOf,typeInfo,hi,asInt,asIntOf,wn,n1,n2,h0,aE]
  | some a=>
   simp only at ax
   simp[Builtin.append_,be,bT,underlying,ht,hu,sizeOf,typeInfo,hi,asInt,asIntOf,wn,n1,n2,h0,aE,ax]
 ·cases base with
  | none=>
   simp only[Sem.run_pure,Result.ok.injEq,true_and] at ax;subst ax
   simp[Builtin.append_,be,bT,underlying,ht,hu,sizeOf,typeInfo,zeroValue,hz,hi,asInt,asIntOf,wn,n1,n2,h0,aE]
  | some a=>
   simp only at ax
   simp[Builtin.append_,be,bT,underlying,ht,hu,sizeOf,typeInfo,zeroValue,hz,hi,asInt,asIntOf,wn,n1,n2,h0,aE,iR,ax]
set_option maxHeartbeats 1000000 in
theorem appendz_grow{ts:Array TypeId}{t u ty e:TypeId}{ki k:IntKind}{i:TypeInfo}{z:Value}{base:Option Addr}{m n c:Nat}{old:Array Value}
  (be:ts[0]?=some t) (ht:P.underlying t=some (.slice e)) (hi:P.info? e=some i) (hz:i.zero=some z) (bT:ts[1]?=some u) (hu:P.underlying u=some (.int ki))
  (aT:z.cells.size=i.size) (hb:n*i.bytes<=140737488355328) (hn:n<=140737488355328) (eC:(Builtin.firstCells i.size m (.slice base m c)).run P w.drew=.ok old w.drew)
  (aE:¬(m+n<=c)) (oE:((m+n:Nat):Int)<=9223372036854775807) (mB:Builtin.nextslicecap (m+n) c*i.bytes<=281474976710656):
  (Builtin.append_ ts ty #[.slice base m c,.int k (n:Int)]).run P w=.ok (.slice (some ⟨w.heap.size,0,none⟩) (m+n) (grownCap w (m+n) c e))
   (w.drew.alloc (.cells (old++madeCells z.cells (n*i.size)++Builtin.zeroCells z.cells (grownCap w (m+n) c e - (m+n))) e)):=by
 have wn:IntKind.i64.wrap (n:Int)=n:=wrap_i64 (by omega) (by omega)
 have n1:¬((n:Int) < 0):=by omega
 have n2:¬(281474976710656 < (n:Int)*(i.bytes:Int)):=by
  have h:((n*i.bytes:Nat):Int)<=281474976710656:=by omega
  rw[Zx] at h;omega
 have iR:Builtin.zeroCells z.cells n=madeCells z.cells (n*i.size):=by unfold Builtin.zeroCells madeCells;rw[aT]
 have kn:¬(9223372036854775807 < ((m:Int)+(n:Int))):=by omega
 have ko:¬(281474976710656 < Builtin.nextslicecap (m+n) c*i.bytes):=by omega
 have rl:IntKind.i64.max=9223372036854775807:=by decide
 by_cases h0:n*i.size=0
 ·have lF:madeCells z.cells (n*i.size)=#[]:=by rw[h0];simp[madeCells]
  rw[lF]
  simp[Builtin.append_,be,bT,underlying,ht,hu,sizeOf,typeInfo,zeroValue,hz,hi,asInt,asIntOf,wn,n1,n2,h0,eC,aE,kn,ko,rl,Question.forced,newRow,grownCap]
 ·simp[Builtin.append_,be,bT,underlying,ht,hu,sizeOf,typeInfo,zeroValue,hz,hi,asInt,asIntOf,wn,n1,n2,h0,iR,eC,aE,kn,ko,rl,Question.forced,newRow,grownCap]
theorem appendzA_sound{ts:Array TypeId}{t u ty e:TypeId}{ki:IntKind}{i:TypeInfo}{z:Value}{x k r:AV}{zs:List AV}{vx vk:Value}{af:St}
  (be:ts[0]?=some t) (ht:P.underlying t=some (.slice e)) (hi:P.info? e=some i) (hz:i.zero=some z) (bT:ts[1]?=some u) (hu:P.underlying u=some (.int ki))
  (aT:∀ E w,R2 E w zs z.cells.toList) (hs:Sat E st w) (hx:Rv E w x vx) (hk:Rv E w k vk) (hr:appendzA i.bytes i.size zs st x k=some (r,af)):
  ∃ q w' E',(Builtin.append_ ts ty #[vx,vk]).run P w=.ok q w'/\Ext E w E' w'/\Sat E' af w'/\Rv E' w' r q:=by
 unfold appendzA at hr
 split at hr<;>try (simp only[reduceCtorEq] at hr;done)
 rename_i kk n
 have hk:vk=.int kk (n:Int):=hk
 subst hk
 cases aj:((n*i.bytes).ble 140737488355328&&n.ble 140737488355328&&zs.length.beq i.size)
 ·simp[aj] at hr
 ·simp only[aj,Qi] at hr
  simp only[Qd] at aj
  have c1:=Qk aj.1.1
  have c2:=Qk aj.1.2
  have c3:=Qj aj.2
  have kr:=(aT E w).length
  simp only[Xm] at kr
  have cI:z.cells.size=i.size:=by omega
  obtain⟨q,w',E',k1,k2,k3,k4,_⟩:=appendA_core (S:=fun v=>Builtin.append_ ts ty #[v,.int kk (n:Int)]) cI hs hx
   (fun base m c w' aE ax=>appendz_fit (P:=P) (ty:=ty) be ht hi hz bT hu cI c1 c2 aE ax)
   (fun base m c ovs aE oE mB eC=>by
    have:=appendz_grow (P:=P) (w:=w) (ty:=ty) (k:=kk) be ht hi hz bT hu cI c1 c2 eC aE oE mB
    simpa using this)
   (by have:=UM (E:=E) (w:=w) (aT E w) n;rw[cI] at this;exact this) (by simp[madeCells]) hr
  exact⟨q,w',E',k1,k2,k3,k4⟩
theorem content_take{sz n:Nat}{x:AV}{ys:List AV}{v:Value}(hs:Sat E st w)(hx:Rv E w x v)(xT:isStr x=false)(hc:Wd sz st x=some (n,ys))(k:Nat)(hk:k<=n):
  ∃ vs:List Value,(Builtin.lenOf v).run P w=.ok n w/\(Builtin.firstCells sz k v).run P w=.ok vs.toArray w/\R2 E w (ys.take (k*sz)) vs/\vs.length=k*sz:=by
 have rp:k*sz<=n*sz:=XL _ hk
 have mem:∀(a:Addr) (c:Nat) (ds:List AV),v=.slice (some a) n c->V3 E w a 0 ds->ds.length=n*sz->ds=ys ->
   ∃ vs:List Value,(Builtin.lenOf v).run P w=.ok n w/\(Builtin.firstCells sz k v).run P w=.ok vs.toArray w/\R2 E w (ys.take (k*sz)) vs/\vs.length=k*sz:=fun a c ds hv hm hl he=>by
  subst hv;subst he
  obtain⟨vs,h1,h2⟩:=(hm.take (k*sz)).vals
  have al:vs.length=k*sz:=by rw[<-h1.length,Xl];omega
  refine⟨vs,rfl,?_,h1,al⟩
  have:=JQ (P:=P) (w:=w) rfl h2
  rw[al] at this
  simpa [Builtin.firstCells] using this
 cases x<;>simp only[Wd,reduceCtorEq] at hc
 ·simp[isStr] at xT
 ·have hx:v=.slice none 0 0:=hx
  subst hx
  simp only[Qa,Q2] at hc
  obtain⟨rfl,rfl⟩:=hc
  obtain rfl:k=0:=by omega
  exact⟨[],rfl,by simp[Builtin.firstCells],by simp[R2],by simp⟩
 ·rename_i m cs ex
  obtain⟨a,cap,rfl,h1,h2,h3,h4⟩:=hx
  cases hb:(m*sz).ble cs.length
  ·simp[hb] at hc
  ·simp only[hb,Qi,Qa,Q2] at hc
   obtain⟨rfl,rfl⟩:=hc
   have:=Qk hb
   exact mem a cap _ rfl (h4.take _) (by simp;omega) rfl
 ·rename_i id off m s cap lo
  obtain⟨b,c,e',mm,h0,rfl,h1,h2,h3,h4⟩:=hx
  cases ho:st.get id with
  | none=>simp[ho] at hc
  | some o=>
   have key:∀ cs,st.get id=some (.row cs)\/st.get id=some (.fro cs)->(bif s.beq sz&&(off+m*sz).ble cs.length then some (m,(cs.drop off).take (m*sz)) else none)=some (n,ys) ->
     ∃ vs:List Value,(Builtin.lenOf (.slice (some ⟨b,off,none⟩) m c)).run P w=.ok n w/\(Builtin.firstCells sz k (.slice (some ⟨b,off,none⟩) m c)).run P w=.ok vs.toArray w/\R2 E w (ys.take (k*sz)) vs/\vs.length=k*sz:=fun cs hg hc=>by
    cases hb:s.beq sz&&(off+m*sz).ble cs.length
    ·simp[hb] at hc
    ·simp only[hb,Qi,Qa,Q2] at hc
     obtain⟨rfl,rfl⟩:=hc
     simp only[Qd] at hb
     have:=Qk hb.2
     exact mem ⟨b,off,none⟩ c _ rfl ((row_at hs h0 hg).take _) (by simp;omega) rfl
   cases o with
   | loop s=>simp[ho] at hc
   | row cs=>simp only[ho] at hc;exact key cs (.inl ho) hc
   | fro cs=>simp only[ho] at hc;exact key cs (.inr ho) hc
   | map es=>simp[ho] at hc
   | fmap es=>simp[ho] at hc
   | iter m ks=>simp[ho] at hc
theorem copyA_sound{ts:Array TypeId}{t ty e:TypeId}{i:TypeInfo}{x y r:AV}{vx vy:Value}{af:St}(be:ts[0]?=some t)(ht:P.underlying t=some (.slice e))(hi:P.info? e=some i)
  (hs:Sat E st w) (hx:Rv E w x vx) (hy:Rv E w y vy) (hr:copyA i.size st x y=some (r,af)):
  ∃ q w' E',(Builtin.copy_ ts ty #[vx,vy]).run P w=.ok q w'/\Ext E w E' w'/\Sat E' af w'/\Rv E' w' r q:=by
 unfold copyA at hr
 cases dA:isStr y
 ·simp only[dA,Qq,Qh] at hr
  obtain⟨⟨n,ys⟩,iS,hr⟩:=hr
  cases x<;>try (simp only[reduceCtorEq] at hr;done)
  rename_i id off m s cap lo
  obtain⟨b,c,e',mm,h0,rfl,h1,h2,h3,h4⟩:=hx
  simp only at hr
  cases ho:st.get id with
  | none=>simp[ho] at hr
  | some o=>
   cases o with
   | loop s=>simp[ho] at hr
   | fro cs=>simp[ho] at hr
   | map es=>simp[ho] at hr
   | fmap es=>simp[ho] at hr
   | iter m ks=>simp[ho] at hr
   | row cs=>
    simp only[ho] at hr
    cases aj:(s.beq i.size&&off.ble cs.length&&(ys.take (Nat.min n m*i.size)).all AV.one)
    ·simp[aj] at hr
    ·simp only[aj,Qi,Qa,Q2] at hr
     obtain⟨rfl,rfl⟩:=hr
     simp only[Qd] at aj
     have c2:=Qk aj.1.2
     obtain⟨vs,k1,k2,k3,k4⟩:=content_take (P:=P) hs hy dA iS (Nat.min n m) (Nat.min_le_left _ _)
     have al:(ys.take (Nat.min n m*i.size)).length=Nat.min n m*i.size:=by rw[k3.length];exact k4
     have es:=Qj aj.1.1
     obtain⟨w',r1,r2,r3⟩:=write_row2 (P:=P) (off:=off) hs ho h0 k3 c2 (.inr ⟨e',mm,h3,by
      rw[al]
      have:Nat.min n m*i.size<=c*i.size:=XL _ (by have Bz:Nat.min n m<=m:=Nat.min_le_right n m;omega)
      rw[es] at h4
      omega⟩) (k3.one aj.2)
     refine⟨goInt (Nat.min n m:Nat),w',E,?_,r3,r2,rfl⟩
     simp only[Builtin.copy_,be,List.getElem?_toArray,Q0,QE,Sem.run_bind,underlying,run_program,Result.andThen,ht,Sem.run_pure,VW hi,k1,k2,r1]
 ·simp[dA] at hr
end
end Go.AM
namespace Go.AM
section
variable {E:Env} {st:St} {w:World} {P:Program}
theorem s2bA_sound{s t e:TypeId}{x r:AV}{v:Value}{af:St}(cJ:P.underlying s=some .string)(ht:P.underlying t=some (.slice e))(he:P.underlying e=some (.int .u8))(az:e≠Uf/\e≠Pe)
  (hs:Sat E st w) (hx:Rv E w x v) (hr:s2bA st x=some (r,af)):∃ q w' E',(convert s t v).run P w=.ok q w'/\Ext E w E' w'/\Sat E' af w'/\Rv E' w' r q:=by
 cases x<;>simp only[s2bA,reduceCtorEq] at hr
 rename_i l
 obtain⟨b,rfl,hl⟩:=hx
 simp only[Qa,Q2] at hr
 obtain⟨rfl,rfl⟩:=hr
 have aV:=run_bytes_of_string (P:=P) w s t e b cJ ht he
 have al:l.length=b.size:=by rw[<-hl];simp
 have eV:=grownCap_ge w b.size 0 e
 have cI:(bytesRow b (grownCap w b.size 0 e)).size=grownCap w b.size 0 e:=by
  have:b.data.size=b.size:=rfl
  simp[bytesRow,this];omega
 obtain⟨cr,aL⟩:=hs.drew
 have hv:R2 E w (l.map fun b=>AV.int .u8 (.ofNat b)) (b.data.toList.map fun c=>Value.int .u8 c.toNat):=by
  rw[<-hl,Xq]
  exact R2.of_get (by simp) fun j c v h1 h2=>by
   simp only[Q5] at h1 h2
   cases hj:b.data.toList[j]? with
   | none=>simp[hj] at h1
   | some q=>
    simp only[hj,Ql,Qa,Function.comp] at h1 h2
    subst h1;subst h2;rfl
 obtain⟨bD,bY⟩:=cr.alloc (.cells (bytesRow b (grownCap w b.size 0 e)) e ((bytesRow b (grownCap w b.size 0 e)).size,(bytesRow b (grownCap w b.size 0 e)).size+1)) (.row (l.map fun b=>.int .u8 (.ofNat b)))
  fun E' aK=>⟨⟨_,e,_,Vz w.drew _,by rw[cI,Qu,al];exact eV,.inr ⟨Qw _,az⟩⟩,
   V3.new_prefix (R2.mono (aL.trans aK) _ _ hv) (Vz w.drew _) fun j v hj=>by
    have am:=(Qt.1 hj).1
    simp only[Qu,Xm] at am
    unfold bytesRow
    rw[Zg (by simpa using am)]
    simpa using hj⟩
 refine⟨_,_,_,aV,aL.trans bY,bD,w.heap.size,grownCap w b.size 0 e,e,_,by simp[Env.link],by rw[al],by rw[al];exact eV,by simp,Yn w.drew _ e _,?_,by rw[al];exact eV⟩
 rw[cI];simp
theorem foldl_push(ns:List Int):∀(s:ByteArray),(ns.foldl (fun r n=>r.push (UInt8.ofNat n.toNat)) s).data.toList=s.data.toList++ns.map fun n=>UInt8.ofNat n.toNat:=by
 induction ns with
 | nil=>intro s;simp
 | cons n ns ih=>
  intro s
  rw[Xt,ih]
  have:(s.push (UInt8.ofNat n.toNat)).data.toList=s.data.toList++[UInt8.ofNat n.toNat]:=by
   cases s;simp[ByteArray.push]
  rw[this];simp
theorem bytesA_sound:∀{ys:List AV} {vs:List Value} {l:List Nat},R2 E w ys vs->Uc ys=some l->vs=(l.map fun (b:Nat)=>(b:Int)).map (Value.int .u8)/\∀ b∈l,b < 256
 | [],vs,l,hv,h=>by
  cases hv;simp only[Uc,Qa] at h;subst h;simp
 | y::ys,_,l,⟨x,xs,rfl,h1,h2⟩,h=>by
  simp only[Uc,Qh,Qf] at h
  obtain⟨b,hb,l',hl,rfl⟩:=h
  obtain⟨h3,h4⟩:=bytesA_sound h2 hl
  unfold byteA at hb
  split at hb<;>try (simp only[reduceCtorEq] at hb;done)
  rename_i c
  cases hc:(c+1).ble 256
  ·simp[hc] at hb
  ·simp only[hc,Qi,Qa] at hb;subst hb
   have h1:x=.int .u8 (c:Int):=h1
   subst h1;subst h3
   have:=Qk hc
   refine⟨rfl,fun b hb=>?_⟩
   rcases Qx.1 hb with rfl | hb
   ·omega
   ·exact h4 b hb
theorem b2sA_sound{s t e:TypeId}{x r:AV}{v:Value}(cJ:P.underlying s=some (.slice e))(ht:P.underlying t=some .string)(he:P.underlying e=some (.int .u8))
  (hs:Sat E st w) (hx:Rv E w x v) (hr:b2sA st x=some r):∃ u,(convert s t v).run P w=.ok u w/\Rv E w r u:=by
 unfold b2sA at hr
 cases dA:isStr x
 ·simp only[dA,Qq,Qh,Qf] at hr
  obtain⟨⟨n,ys⟩,hc,l,hl,rfl⟩:=hr
  obtain⟨vs,k1,k2,k3,k4⟩:=S8 (P:=P) hs hx hc
  obtain⟨h3,h4⟩:=bytesA_sound k3 hl
  have fin:∀(b:ByteArray),b.data.toList=l.map (fun (n:Nat)=>UInt8.ofNat n)->Rv E w (.str l) (.string b):=fun b hb=>by
   refine⟨b,rfl,?_⟩
   rw[hb,Xq]
   have:∀ q∈l,((fun x:UInt8=>x.toNat) ∘ fun n=>UInt8.ofNat n) q=q:=fun q hq=>by
    simp[Ze (h4 q hq)]
   rw[QX this];simp
  have slice:∀(a:Option Addr) (m c:Nat),v=.slice a m c->m=n->∃ u,(convert s t v).run P w=.ok u w/\Rv E w (.str l) u:=fun a m c hv hm=>by
   subst hv;subst hm
   rw[run_convert_bytes_string (P:=P) w s t e a m c cJ he ht]
   cases a with
   | none=>
    have:=k2 w rfl
    simp[Builtin.firstCells] at this
    have iT:vs=[]:=by simpa using this.symm
    subst iT
    have:l=[]:=by
     cases l with
     | nil=>rfl
     | cons _ _=>simp at h3
    subst this
    exact⟨.string .empty,by simp[Conv.bytesToString],fin _ (by simp)⟩
   | some a=>
    have h5:=k2 w rfl
    simp only[Builtin.firstCells,XP] at h5
    rw[h3] at h5
    refine⟨_,run_bytesToString (P:=P) w a m c _ h5,fin _ ?_⟩
    rw[foldl_push]
    simp[Xq,Function.comp]
  have rq:=k1 w
  cases x<;>simp only[Wd,reduceCtorEq] at hc
  ·simp[isStr] at dA
  ·have hx:v=.slice none 0 0:=hx
   simp only[Qa,Q2] at hc
   exact slice _ _ _ hx hc.1
  ·obtain⟨a,cap,hv,_⟩:=hx
   subst hv
   simp only[Builtin.lenOf,Sem.run_pure,Result.ok.injEq] at rq
   exact slice _ _ _ rfl rq.1
  ·obtain⟨b,c,e',mm,h0,hv,_⟩:=hx
   subst hv
   simp only[Builtin.lenOf,Sem.run_pure,Result.ok.injEq] at rq
   exact slice _ _ _ rfl rq.1
 ·simp[dA] at hr
end
end Go.AM
namespace Go.AM
section
variable {E:Env} {st:St} {w:World} {P:Program}
theorem eqPtrA_sound{op:BinOp}{x y r:AV}{vx vy:Value}{t:TypeId}{d:TypeDesc}{c:Nat}{X Y:Operand}(hd:P.underlying t=some d)(hc:Yy d=some c)
  (cy:op=.eql\/op=.neq) (hz:∀ q,d=.pointer q->∃ i,P.info? q=some i/\i.size≠0) (hx:Rv E w x vx) (hy:Rv E w y vy) (hr:eqPtrA c op x y=some r):∃ u,(do eqGuard op t X Y vx vy;binOp op t vx vy:Sem Value).run P w=.ok u w/\Rv E w r u:=by
 unfold eqPtrA at hr
 split at hr<;>try (simp only[reduceCtorEq] at hr;done)
 rename_i i n j m
 cases aj:(c.beq 0&&i.beq j)
 ·simp[aj] at hr
 ·simp only[aj,Qi] at hr
  simp only[Qd] at aj
  have h0:=Qj aj.1
  have jN:=Qj aj.2
  subst h0;subst jN
  obtain⟨b,hb,rfl⟩:=hx
  obtain⟨b',bw,rfl⟩:=hy
  rw[hb] at bw;injection bw with bw;subst bw
  have hg:(eqGuard op t X Y (.pointer (some ⟨b,n,none⟩)) (.pointer (some ⟨b,m,none⟩))).run P w=.ok () w:=by
   unfold eqGuard
   rcases cy with rfl | rfl<;>simp
  have gR:∀ k,(Op.equalIn (k+1) t (.pointer (some ⟨b,n,none⟩)) (.pointer (some ⟨b,m,none⟩))).run P w=.ok (n.beq m==true) w:=fun k=>by
   simp only[Op.equalIn,underlying,Sem.run_bind,run_program,Result.andThen,hd]
   cases d<;>simp[Yy] at hc
   rename_i q
   obtain⟨i',hi,h0⟩:=hz q rfl
   have cI:(sizeOf q).run P w=.ok i'.size w:=VW hi
   by_cases sH:n=m
   ·subst sH;simp[cI,h0,sameAddr]
   ·have hb:n.beq m=false:=by
     cases h:n.beq m
     ·rfl
     ·exact absurd (Qj h) sH
    have ha:((⟨b,n,none⟩:Addr)==⟨b,m,none⟩)=false:=by
     rw[beq_eq_false_iff_ne]
     intro h;injection h with _ h;exact sH h
    rw[hb]
    simp[cI,h0,sameAddr,ha]
  have hq:(Op.equal t (.pointer (some ⟨b,n,none⟩)) (.pointer (some ⟨b,m,none⟩))).run P w=.ok (n.beq m==true) w:=gR 9999
  simp only[Sem.run_bind,hg,Result.andThen]
  exact UF hr hq (fun h=>by subst h;rfl) (fun h=>by subst h;rfl)
theorem row_shape(hs:Sat E st w){id b:Nat}{cs:List AV}(hb:E.β id=some b)(hg:st.get id=some (.row cs)):∃ c e f,w.heap[b]?=some (.cells c e f)/\w.shape? b=some (e,c.size)/\cs.length<=c.size:=by
 obtain⟨⟨c,e,f,h1,h2,_⟩,_⟩:=hs.obj id _ b hg hb
 exact⟨c,e,f,h1,by unfold World.shape?;rw[h1],h2⟩
theorem run_seenAt{b off:Nat}{s:TypeId × Nat}(h:w.shape? b=some s):(Conv.seenAt ⟨b,off,none⟩).run P w=.ok ⟨b,off,none⟩ w:=by
 simp[Conv.seenAt,viewAt,shape,Sem.run,h]
theorem TQ{b off n s m:Nat}{u:TypeId}(h:w.shape? b=some (u,m))(hs:P.cellsOf u=s)(h0:s≠0)(h1:off % s=0)(h2:off / s+n<=m / s):(variablesAt ⟨b,off,none⟩ u n).run P w=.ok true w:=by
 have hl:liesAt P P.depth u (m / P.cellsOf u) off u n=true:=by
  have sI:∃ d,P.depth=d+1:=⟨2*(P.types.size+Made.depth)+1,rfl⟩
  obtain⟨d,hd⟩:=sI
  have aO:sameLayout P P.depth u u=true:=by rw[hd];simp[sameLayout]
  rw[hd,liesAt,hd,rowAt]
  rw[hd] at aO
  simp[hs,h0,h1,h2,aO]
 simp[variablesAt,shape,Sem.run,h,hl]
theorem ptouA_sound{s t q:TypeId}{x r:AV}{v:Value}{i:TypeInfo}(cJ:P.underlying s=some (.pointer q))(ht:P.underlying t=some .unsafePointer)(hi:P.info? q=some i)(h0:i.size≠0)
  (hs:Sat E st w) (hx:Rv E w x v) (hr:ptouA st x=some r):∃ u,(convert s t v).run P w=.ok u w/\Rv E w r u:=by
 unfold ptouA at hr
 split at hr<;>try (simp only[reduceCtorEq] at hr;done)
 ·simp only[Qa] at hr;subst hr
  have hx:v=.pointer none:=hx
  subst hx
  exact⟨_,by simp[convert,underlying,cJ,ht,Conv.unsafePointer],rfl⟩
 ·rename_i id off
  split at hr<;>try (simp only[reduceCtorEq] at hr;done)
  rename_i cs hg
  cases hc:(off+1).ble cs.length
  ·simp[hc] at hr
  ·simp only[hc,Qi,Qa] at hr;subst hr
   have hc:=Qk hc
   have eW:=hx
   obtain⟨b,hb,rfl⟩:=hx
   obtain⟨c,e,f,h1,h2,h3⟩:=row_shape hs hb hg
   have bo:(cellsIn b).run P w=.ok (some c.size) w:=by simp[cellsIn,shape,Sem.run,h2]
   have cI:(sizeOf q).run P w=.ok i.size w:=VW hi
   have am:¬(c.size<=off):=by omega
   refine⟨.pointer (some ⟨b,off,none⟩),?_,eW⟩
   simp[convert,underlying,cJ,ht,Conv.unsafePointer,run_seenAt h2,bo,cI,h0,am]
theorem utopA_sound{s t u:TypeId}{x r:AV}{v:Value}{i:TypeInfo}(cJ:P.underlying s=some .unsafePointer)(ht:P.underlying t=some (.pointer u))(hi:P.info? u=some i)(h0:i.size≠0)
  (hs:Sat E st w) (hx:Rv E w x v) (hr:utopA u i.size st x=some r):∃ q,(convert s t v).run P w=.ok q w/\Rv E w r q:=by
 unfold utopA at hr
 split at hr<;>try (simp only[reduceCtorEq] at hr;done)
 ·simp only[Qa] at hr;subst hr
  have hx:v=.pointer none:=hx
  subst hx
  exact⟨_,by simp[convert,underlying,cJ,ht,Conv.unsafePointer],rfl⟩
 ·rename_i id off
  split at hr<;>try (simp only[reduceCtorEq] at hr;done)
  rename_i cs t' hg iQ
  cases hc:(t'.beq u&&(off.mod i.size).beq 0&&(off.div i.size+1).ble (cs.length.div i.size))
  ·simp[hc] at hr
  ·simp only[hc,Qi,Qa] at hr;subst hr
   simp only[Qd] at hc
   have e1:=Qj hc.1.1
   have e2:off % i.size=0:=Qj hc.1.2
   have e3:off / i.size+1<=cs.length / i.size:=Qk hc.2
   subst e1
   have eW:=hx
   obtain⟨b,hb,rfl⟩:=hx
   obtain⟨c,e,f,h1,h2,h3⟩:=row_shape hs hb hg
   obtain⟨b',m,h4,h5⟩:=hs.bt id _ iQ
   rw[hb] at h4;injection h4 with h4;subst h4
   rw[h2] at h5;injection h5 with h5;injection h5 with h5 h6;subst h5
   have fO:P.cellsOf e=i.size:=by simp[Program.cellsOf,hi]
   have aR:cs.length / i.size<=c.size / i.size:=Nat.div_le_div_right h3
   have hv:=TQ (P:=P) (n:=1) h2 fO h0 e2 (by omega)
   have cI:(sizeOf e).run P w=.ok i.size w:=VW hi
   refine⟨.pointer (some ⟨b,off,none⟩),?_,eW⟩
   simp[convert,underlying,cJ,ht,Conv.unsafePointer,run_seenAt h2,cI,h0,hv]
theorem sdatA_sound{ts:Array TypeId}{ty:TypeId}{x r:AV}{v:Value}(hx:Rv E w x v)(hr:sdatA x=some r):∃ q,(Builtin.unsafeSliceData_ ts ty #[v]).run P w=.ok q w/\Rv E w r q:=by
 unfold sdatA at hr
 split at hr<;>try (simp only[reduceCtorEq] at hr;done)
 ·simp only[Qa] at hr;subst hr
  have hx:v=.slice none 0 0:=hx
  subst hx
  exact⟨_,Lib.run_unsafeSliceData_nil w ts ty 0 0,rfl⟩
 ·rename_i id off n sz cap lo
  cases hn:n.beq 0
  ·simp only[hn,Qq,Qa] at hr;subst hr
   obtain⟨b,c,e,m,hb,rfl,h1,_⟩:=hx
   have hc:c≠0:=by
    rintro rfl
    have:n=0:=by omega
    subst this;simp at hn
   exact⟨.pointer (some ⟨b,off,none⟩),Lib.run_unsafeSliceData_row w ts ty _ n c hc,b,hb,rfl⟩
  ·simp[hn] at hr
theorem Sat.forget{w':World}(h:Sat E st w){id b:Nat}{o:AO}(hg:st.get id=some o)(hl:o.live=true)(hb:E.β id=some b)(bS:∀ k,k≠b->w'.heap[k]?=w.heap[k]?)(d7:w'.heap.size=w.heap.size)
  (bl:∀ s,w.shape? b=some s->w'.shape? b=some s) (rW:w'.os=w.os) (iL:w'.tape=w.tape) (eB:w'.output=w.output):Sat E (st.del id) w'/\Ext E w E w':=by
 have hx:Ext E w E w':=⟨⟨fun _ _ h=>h,fun _ h=>h,fun k hk=>bS k (by rintro rfl;exact h.lv id o _ hg hl hb hk),by omega,fun k s hs=>by
  by_cases hk:k=b
  ·subst hk;exact bl s hs
  ·rw[YA (bS k hk)];exact hs,rW,iL,eB,fun _ _=>rfl⟩,fun _ h=>h,fun _ _ h=>h⟩
 have key:∀ i o,(st.del id).get i=some o->i≠id/\st.get i=some o:=fun i o h1=>by
  rw[St.get_del] at h1
  by_cases hi:i=id
  ·rw[Qm hi] at h1;cases h1
  ·rw[Qe hi] at h1;exact⟨hi,h1⟩
 refine⟨⟨fun i c hc=>?_,fun c hc=>?_,fun i o1 c h1 h2=>?_,fun i i' o1 o2 c h1 h2=>h.sep i i' o1 o2 c (key _ _ h1).2 (key _ _ h2).2,fun i o1 c h1=>h.lv i o1 c (key _ _ h1).2,h.rs,fun c q hc=>?_,JW.mono h.bt hx.toExt0 rfl⟩,hx⟩
 ·have:=h.dom i c hc;rw[d7];exact this
 ·have:=h.fz c hc;omega
 ·obtain⟨hi,h1⟩:=key _ _ h1
  have h3:=h.obj i o1 c h1 h2
  refine Wv.mono hx (bS c ?_) h3
  rintro rfl
  cases o1 with
  | fro cs=>exact h.lv id o c hg hl hb h3.1
  | fmap cs=>exact h.lv id o c hg hl hb h3.1
  | row cs=>exact hi (h.sep i id _ _ _ h1 hg rfl hl h2 hb)
  | map es=>exact hi (h.sep i id _ _ _ h1 hg rfl hl h2 hb)
  | loop s=>exact hi (h.sep i id _ _ _ h1 hg rfl hl h2 hb)
  | iter m ks=>exact hi (h.sep i id _ _ _ h1 hg rfl hl h2 hb)
 ·obtain⟨h1,h2⟩:=h.dz c q hc
  refine⟨?_,h2⟩
  rw[bS c]
  ·exact h1
  ·rintro rfl
   have h3:=h.obj id o c hg hb
   cases o with
   | fro cs=>cases hl
   | fmap cs=>cases hl
   | row cs=>obtain⟨⟨_,_,_,h4,_⟩,_⟩:=h3;rw[h1] at h4;injection h4 with h4;subst h4;exact h2.2
   | map es=>obtain⟨_,_,h4,_⟩:=h3;rw[h1] at h4;injection h4 with h4;subst h4;exact h2.2
   | loop s=>obtain⟨_,h4,_⟩:=h3;rw[h1] at h4;injection h4 with h4;subst h4;exact h2.2
   | iter m ks=>obtain⟨_,_,_,_,_,_,_,h4,_⟩:=h3;rw[h1] at h4;injection h4 with h4;subst h4;exact h2.2
theorem ST:∀(ys:List AV) (l:List Nat) (a:Addr) (acc:ByteArray),V3 E w a 0 ys->Uc ys=some l->∃ b:ByteArray,(loadBytes a acc ys.length).run P w=.ok b w/\b.data.toList.map (·.toNat)=acc.data.toList.map (·.toNat)++l
 | [],l,a,acc,_,h=>by
  simp only[Uc,Qa] at h;subst h
  exact⟨acc,by simp[loadBytes],by simp⟩
 | y::ys,l,a,acc,⟨⟨x,h1,h2⟩,h3⟩,h=>by
  simp only[Uc,Qh,Qf] at h
  obtain⟨b,hb,l',hl,rfl⟩:=h
  unfold byteA at hb
  split at hb<;>try (simp only[reduceCtorEq] at hb;done)
  rename_i c
  cases hc:(c+1).ble 256
  ·simp[hc] at hb
  ·simp only[hc,Qi,Qa] at hb;subst hb
   have hx:x=.int .u8 (c:Int):=h2
   subst hx
   have hc:=Qk hc
   have xU:a.add 0=a:=by unfold Addr.add;simp
   rw[xU] at h1
   have aH:V3 E w (a.add 1) 0 ys:=V3.of_get fun j d hd=>by
    obtain⟨v,h4,h5⟩:=h3.get j hd
    exact⟨v,by rw[add_add];rw[show 1+(0+j)=0+1+j by omega];exact h4,h5⟩
   obtain⟨bs,h4,h5⟩:=ST ys l' (a.add 1) (acc.push (UInt8.ofNat c)) aH hl
   refine⟨bs,?_,?_⟩
   ·simp only[QC,loadBytes,Sem.run_bind]
    have po:(load a).run P w=.ok (.int .u8 (c:Int)) w:=by simp[load,Sem.run,h1]
    rw[po]
    simp only[Result.andThen]
    simpa [Nat.toUInt8] using h4
   ·rw[h5]
    have:(acc.push (UInt8.ofNat c)).data.toList=acc.data.toList++[UInt8.ofNat c]:=by cases acc;simp[ByteArray.push]
    rw[this]
    simp[Ze (show c < 256 by omega)]
theorem T2(ts:Array TypeId)(ty:TypeId)(p:Option Addr)(vn:Value):Builtin.unsafeString_ ts ty #[.pointer p,vn]=(do
  let n <- asInt vn
  let some pt:=ts[0]? | stuck "unsafe.String: no argument types"
  if n < 0 then runtimePanic (.error "unsafe.String: len out of range")
  if n > IntKind.i64.max then unsupported (.unsafePointer "String: a length above the largest int")
  match p with
  | none=>
   if n=0 then pure (.string .empty)
   else runtimePanic (.error "unsafe.String: ptr is nil and len is not zero")
  | some a=>
   if n=0 then pure (.string .empty)
   else if <- variablesAt a (<- elemOf pt) n.toNat then do
    let s <- loadBytes a .empty n.toNat
    freeze a n.toNat
    pure (.string s)
   else unsupported (.unsafePointer "String: not so many bytes at ptr")):=by
 cases p<;>rfl
theorem ustrA_sound{ts:Array TypeId}{pt ty u:TypeId}{x n r:AV}{vx vn:Value}{af:St}{i:TypeInfo}(be:ts[0]?=some pt)(mE:P.underlying pt=some (.pointer u))(hi:P.info? u=some i)(h1:i.size=1)
  (hs:Sat E st w) (hx:Rv E w x vx) (hn:Rv E w n vn) (hr:ustrA u st x n=some (r,af)):∃ q w' E',(Builtin.unsafeString_ ts ty #[vx,vn]).run P w=.ok q w'/\Ext E w E' w'/\Sat E' af w'/\Rv E' w' r q:=by
 unfold ustrA at hr
 split at hr<;>try (simp only[reduceCtorEq] at hr;done)
 ·rename_i k
  simp only[Qa,Q2] at hr
  obtain⟨rfl,rfl⟩:=hr
  have hx:vx=.pointer none:=hx
  have hn:vn=.int k (Int.ofNat 0):=hn
  subst hx;subst hn
  refine⟨.string .empty,w,E,?_,Ext.refl _ _,hs,.empty,rfl,rfl⟩
  rw[T2]
  have mF:IntKind.i64.max=9223372036854775807:=rfl
  simp[be,asInt,asIntOf,mF]
 ·rename_i id off k n
  split at hr<;>try (simp only[reduceCtorEq] at hr;done)
  rename_i cs t hg iQ
  cases hc:(t.beq u&&(off+n).ble cs.length&&!n.beq 0&&n.ble 9223372036854775807)
  ·simp[hc] at hr
  ·simp only[hc,Qi,Qf,Q2] at hr
   obtain⟨l,hl,rfl,rfl⟩:=hr
   simp only[Qd,Xy] at hc
   have e1:=Qj hc.1.1.1
   have e2:=Qk hc.1.1.2
   have e3:n≠0:=fun e=>by have:=hc.1.2;rw[e] at this;simp at this
   have e4:=Qk hc.2
   subst e1
   obtain⟨b,hb,rfl⟩:=hx
   have hn:vn=.int k (n:Int):=hn
   subst hn
   obtain⟨c,e,f,q1,q2,q3⟩:=row_shape hs hb hg
   obtain⟨b',m,h4,h5⟩:=hs.bt id _ iQ
   rw[hb] at h4;injection h4 with h4;subst h4
   rw[q2] at h5;injection h5 with h5;injection h5 with h5 h6;subst h5
   have fO:P.cellsOf e=1:=by simp[Program.cellsOf,hi,h1]
   have hv:=TQ (P:=P) (off:=off) (n:=n) q2 fO (by omega) (Nat.mod_one _) (by simp;omega)
   have bR:=(hs.obj id _ b hg hb).2
   have aH:V3 E w ⟨b,off,none⟩ 0 ((cs.drop off).take n):=by
    have e0:(⟨b,off,none⟩:Addr)=(⟨b,0,none⟩:Addr).add off:=by rw[Wb];simp
    rw[e0];exact(bR.at off).take n
   obtain⟨bs,k1,k2⟩:=ST (P:=P) _ l _ .empty aH hl
   have al:((cs.drop off).take n).length=n:=by simp;omega
   rw[al] at k1
   have am:=(Qv.1 q1).1
   have bv:(w.freeze ⟨b,off,none⟩ n).heap[b]?=some (.cells c e (match f with | (lo,hi)=>if lo==hi then (off,off+n) else (min lo off,max hi (off+n)))):=by
    unfold World.freeze
    rw[Qe e3]
    simp only[Zr,Xj,q1,Ql]
   have bS:∀ j,j≠b->(w.freeze ⟨b,off,none⟩ n).heap[j]?=w.heap[j]?:=fun j hj=>by
    unfold World.freeze
    rw[Qe e3]
    simp only[Zr]
    rw[Qe (Ne.symm hj)]
   have cI:(w.freeze ⟨b,off,none⟩ n).heap.size=w.heap.size:=by unfold World.freeze;rw[Qe e3];simp
   have sJ:(w.freeze ⟨b,off,none⟩ n).os=w.os/\(w.freeze ⟨b,off,none⟩ n).tape=w.tape/\(w.freeze ⟨b,off,none⟩ n).output=w.output:=by unfold World.freeze;rw[Qe e3];exact⟨rfl,rfl,rfl⟩
   obtain⟨r1,r2⟩:=hs.forget (w':=w.freeze ⟨b,off,none⟩ n) hg rfl hb bS cI (fun s h=>by
    rw[q2] at h;injection h with h;subst h
    unfold World.shape?;rw[bv]) sJ.1 sJ.2.1 sJ.2.2
   refine⟨.string bs,w.freeze ⟨b,off,none⟩ n,E,?_,r2,r1,bs,rfl,by simpa using k2⟩
   have de:(elemOf pt).run P w=.ok e w:=by simp[elemOf,underlying,mE]
   have gO:¬((n:Int) < 0):=by omega
   have mF:IntKind.i64.max=9223372036854775807:=rfl
   have dg:¬((9223372036854775807:Int) < (n:Int)):=by omega
   have eo:¬((n:Int)=0):=by omega
   rw[T2]
   simp[be,asInt,asIntOf,mF,gO,dg,e3,de,hv,k1,freeze,Sem.run]
theorem appendA_bt{bytes sz n:Nat}{x r:AV}{ys:List AV}{af:St}(h:VX bytes sz st x n ys=some (r,af)):af.bt=st.bt:=by
 unfold VX at h
 cases hn:n.beq 0
 ·simp only[hn,Qq] at h
  split at h<;>try (simp only[reduceCtorEq] at h;done)
  ·simp only[cond_eq_ite,Xs,Qa,Q2] at h
   rw[<-h.2.2];rfl
  ·simp only[cond_eq_ite,Xs,Qa,Q2] at h
   rw[<-h.2.2];rfl
  ·split at h<;>try (simp only[reduceCtorEq] at h;done)
   simp only[cond_eq_ite,Xs] at h
   replace h:=h.2
   split at h
   ·simp only[Xs,Qa,Q2] at h
    rw[<-h.2.2];rfl
   ·simp only[Qa,Q2] at h
    rw[<-h.2];rfl
   ·simp only[Xs,Qa,Q2] at h
    rw[<-h.2.2];rfl
 ·simp only[hn,Qi] at h
  split at h<;>simp only[Qa,Q2,reduceCtorEq] at h<;>rw[<-h.2]
theorem tagA_sound{q:Value}{E':Env}{w':World}{e:TypeId}{x r:AV}{vx:Value}{af:St}{tg:Option Nat}(hs:Sat E' af w')(iQ:af.bt=st.bt)(dP:Sat E st w)(hx:Rv E w x vx)(hr:Rv E' w' r q)(ht:TagR E' w' e w vx r)(xV:∀ t,tg=some t->t=e):Sat E' (tagA tg x r af) w':=by
 unfold tagA
 split
 ·rename_i t id off n sz cap lo
  have:=xV t rfl
  subst this
  obtain⟨b,c,e',m,hb,_,_,_,h3,_⟩:=hr
  obtain⟨t',m',h4,h5⟩:=ht id off n sz cap lo rfl b hb
  split
  ·have hx:vx=.slice none 0 0:=hx
   rcases h5 with rfl|⟨a,n0,c0,m0,h5,_⟩
   ·exact hs.tag hb h4
   ·rw[hx] at h5;cases h5
  ·rename_i dQ _ _ _ _ _
   split
   ·rename_i t0 be
    cases hc:Nat.beq t0 t
    ·exact hs
    ·have:=Qj hc
     subst this
     simp only[Qi]
     rcases h5 with rfl|⟨a,n0,c0,m0,h5,h6⟩
     ·exact hs.tag hb h4
     ·obtain⟨b0,c1,e1,m1,lG,hv,_⟩:=hx
      rw[hv] at h5
      injection h5 with h5 _ _
      injection h5 with h5
      subst h5
      rw[iQ] at be
      obtain⟨b2,m2,h7,h8⟩:=dP.bt dQ _ be
      rw[lG] at h7;injection h7 with h7;subst h7
      simp only at h6
      rw[h6] at h8;injection h8 with h8;injection h8 with h8 _
      subst h8
      exact hs.tag hb h4
   ·exact hs
  ·exact hs
 ·exact hs
end
end Go.AM
