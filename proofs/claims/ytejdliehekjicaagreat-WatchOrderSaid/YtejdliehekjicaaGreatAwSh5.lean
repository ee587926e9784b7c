import Derived.Test.YtejdliehekjicaaGreatAwSh3
set_option maxRecDepth 100000
set_option linter.unusedSimpArgs false
namespace Go.AM.D32
open Go Go.AM
noncomputable section
open Nat renaming reduceEqDiff -> rQ, reduceAdd -> rA
theorem one_cells{v:AV}(h:AV.one v=true):v.cells=[v]:=by cases v<;>first | rfl | (simp[AV.one] at h)
theorem st32{st:St}{id:Nat}{x y z v:AV}(h:st.get id=some (.row [x,y,z]))(hv:AV.one v=true):Vt 1 st (.ptr id 2) v=some (st.put id (.row [x,y,v])):=by
 simp only[Vt,h,one_cells hv]
 show (bif (true&&(true&&(AV.one v&&true)):Bool) then _ else _)=_
 rw[hv];rfl
theorem st3{st:St}{id:Nat}{x zs:List AV}(h:st.get id=some (.row zs))(hz:zs.length=3)(hx:x.length=3/\x.all AV.one=true):Vt 3 st (.ptr id 0) (.agg x)=some (st.put id (.row x)):=by
 simp only[Vt,h,AV.cells,hx.1,hz,hx.2]
 have:setCells zs 0 x=x:=by
  simp only[setCells,Xe,QR,Q7]
  rw[XX (by omega)];simp
 rw[this];rfl
def Gr(lo:Nat)(s:St)(sl:AV)(xs:List (List AV))(G:Nat->Prop):Prop:=
 (∀ i,G i->lo<=i/\i < s.next)/\(∀ x∈xs,x.length=3/\x.all AV.one=true) ∧
 ((sl=.nilsl/\xs=[])\/∃ id,sl=.own id 0 xs.length 3 none xs.length/\lo<=id/\id < s.next/\s.get id=some (.row xs.flatten)/\¬ G id)
theorem Gr.nil(lo:Nat)(s:St):Gr lo s .nilsl [] (fun _=>False):=⟨fun _ h=>h.elim,fun _ h=>by simp at h,.inl ⟨rfl,rfl⟩⟩
theorem Gr.one{lo:Nat}{s:St}{sl:AV}{xs:List (List AV)}{G:Nat->Prop}(h:Gr lo s sl xs G):AV.one sl=true:=by
 rcases h.2.2 with⟨rfl,_⟩|⟨id,rfl,_⟩<;>rfl
theorem Gr.slr{lo:Nat}{s:St}{sl:AV}{xs:List (List AV)}{G:Nat->Prop}(h:Gr lo s sl xs G)(hb:xs.length<=9223372036854775807):SlR (fun i=>lo<=i/\i < s.next) s sl xs:=by
 refine⟨h.2.1,hb,?_⟩
 rcases h.2.2 with h|⟨id,h1,h2,h3,h4,_⟩
 ·exact .inl h
 ·exact .inr (.inr ⟨id,none,xs.length,h1,⟨h2,h3⟩,h4⟩)
theorem Gr.mono{lo:Nat}{s s2:St}{sl:AV}{xs:List (List AV)}{G:Nat->Prop}(h:Gr lo s sl xs G)(hn:s.next<=s2.next)(hk:∀ id,lo<=id->id < s.next->¬ G id->sl=.own id 0 xs.length 3 none xs.length->s2.get id=s.get id):Gr lo s2 sl xs G:=by
 refine⟨fun i hi=>⟨(h.1 i hi).1,Qz (h.1 i hi).2 hn⟩,h.2.1,?_⟩
 rcases h.2.2 with h|⟨id,h1,h2,h3,h4,h5⟩
 ·exact .inl h
 ·exact .inr ⟨id,h1,h2,Qz h3 hn,by rw[hk id h2 h3 h5 h1];exact h4,h5⟩
theorem Gr.app{bytes lo:Nat}{s s2:St}{sl:AV}{xs:List (List AV)}{y:List AV}{G G2:Nat->Prop}(h:Gr lo s sl xs G)(hlo:lo<=s.next)(hb:(xs.length+1)*bytes<=140737488355328)(hb':xs.length+1<=140737488355328)
  (k:Vd s s2) (hy:y.length=3/\y.all AV.one=true) (hG2:∀ i,G2 i->s.next<=i/\i < s2.next):
  ∃ sl' s3,VX bytes 3 s2 sl 1 y=some (sl',s3)/\(∀ i,i < s2.next->sl≠.own i 0 xs.length 3 none xs.length->s3.get i=s2.get i)/\s3.next=s2.next+1/\Vs G s s3/\Vs G2 s2 s3/\Gr lo s3 sl' (xs++[y]) (fun i=>G i\/G2 i):=by
 obtain⟨hG,hxs,hsl⟩:=h
 have hfl:=flat_len hxs
 have hxs':∀ x∈xs++[y],x.length=3/\x.all AV.one=true:=fun x hx=>by
  rcases QV.1 hx with h | h
  ·exact hxs x h
  ·simp only[Xd] at h;subst h;exact hy
 have hG':∀ s3:St,s3.next=s2.next+1->∀ i,(G i\/G2 i)->lo<=i/\i < s3.next:=fun s3 h3 i hi=>by
  have:=k.1
  rcases hi with hi | hi
  ·have:=hG i hi;omega
  ·have:=hG2 i hi;omega
 have hnG:¬(G s2.next\/G2 s2.next):=fun h=>by
  have:=k.1
  rcases h with h | h
  ·have:=hG _ h;omega
  ·have:=hG2 _ h;omega
 rcases hsl with⟨rfl,rfl⟩|⟨id,rfl,hid,hid2,hg,hng⟩
 ·refine⟨.own s2.next 0 1 3 none 1,s2.new (.row y),?_,?_,rfl,?_,?_,hG' _ rfl,hxs',.inr ⟨s2.next,rfl,by have:=k.1;omega,by simp,?_,hnG⟩⟩
  ·unfold VX
   have h1:(1*bytes).ble 140737488355328=true:=Qo (by simpa using hb)
   rw[h1];rfl
  ·intro i hi _
   rw[St.get_new,Qe (by omega)]
  ·intro i hi
   have:=hG i hi
   have hk:=k.1
   rw[St.get_new,Qe (by omega),k.2 i (by omega)]
  ·intro i hi
   have:=hG2 i hi
   rw[St.get_new,Qe (by omega)]
  ·rw[St.get_new,Qm rfl];simp
 ·have hg2:=k.get hid2 hg
  have hk:=k.1
  have hfy:(xs++[y]).flatten=xs.flatten++y:=by simp
  have hly:(xs++[y]).length=xs.length+1:=by simp
  refine⟨.own s2.next 0 (xs.length+1) 3 none (xs.length+1),(s2.del id).new (.row (xs.flatten++y)),?_,?_,rfl,?_,?_,hG' _ rfl,hxs',.inr ⟨s2.next,by rw[hly],by omega,by simp[St.del,St.new],?_,hnG⟩⟩
  ·have h0:Nat.beq 1 0=false:=rfl
   have h1:((xs.length+1)*bytes).ble 140737488355328=true:=Qo hb
   have h2:(xs.length+1).ble 140737488355328=true:=Qo hb'
   have h3:(0+xs.length*3).ble xs.flatten.length=true:=Qo (by omega)
   have h4:KY (xs.length+1) xs.length none=none:=by
    have:(xs.length+1).ble xs.length=false:=by
     cases hc:(xs.length+1).ble xs.length with
     | false=>rfl
     | true=>have:=Qk hc;omega
    simp only[KY,this];rfl
   have h5:(xs.length*3).beq xs.flatten.length=true:=by rw[hfl];exact QD _
   unfold VX
   simp only[h0,Qq,hg2,h1,h2,h3,h4,h5,hy.2];rfl
  ·intro i hi hne
   have:i≠id:=fun e=>hne (by rw[e])
   rw[St.get_new,Qe (by simp only[St.next_del];omega),St.get_del,Qe this]
  ·intro i hi
   have:=hG i hi
   have hne:i≠id:=fun e=>hng (e ▸ hi)
   rw[St.get_new,Qe (by simp only[St.next_del];omega),St.get_del,Qe hne,k.2 i (by omega)]
  ·intro i hi
   have:=hG2 i hi
   rw[St.get_new,Qe (by simp only[St.next_del];omega),St.get_del,Qe (by omega)]
  ·have:(s2.del id).next=s2.next:=rfl
   rw[<-this,St.get_new,Qm rfl,hfy]
theorem tag0(x v:AV)(s:St):tagA none x v s=s:=rfl
theorem cnt1(a b c:AV)(s:St):Wd 3 s (.lst 1 [a,b,c] true)=some (1,[a,b,c]):=rfl
theorem KB{Γ:Cg}{zs:List (Vc × Nat)}{chk:List (Nat × Option Nat)}{fr frE:Fr}{st stE:St}{its:List DIt}(h:Wq Γ zs 0 st.next fr (VT zs [] st) none=some (its,frE,stE))(hp:JE its=none)
  (hc:chk.all (KE Γ zs its st.next stE)=true) (hl:lens Γ zs fr st=[]:=by rfl):VK Γ zs chk fr st=.ok frE stE:=by
 unfold VK
 rw[hl,h]
 simp only[hc,Qi,hp]
theorem WU{Γ:Cg}{i id:Nat}{fr:Fr}{st:St}{pan:Option Nat}:Wq Γ [] i id fr st pan=some ([],fr,st):=rfl
theorem WH{Γ:Cg}{d:Option Nat}{op:MOp}{a:Nat}{zs:List (Vc × Nat)}{i id:Nat}{fr:Fr}{st:St}:Wq Γ ((⟨d,op,none⟩,a)::zs) i id fr st none=match V5 Γ id fr st op with
  | .val v st'=>DR.cons (.val fr st v st') (Wq Γ zs (i+1) (VJ id op) (Fr.put fr d v) st' none)
  | .pan v st'=>DR.cons (.pan fr st v st') (Wq Γ zs (i+1) (VJ id op) fr st (some i))
  | .stuck=>none:=by
 conv=>lhs;unfold Wq
 simp only[Ku,Qq,Vv]
 cases V5 Γ id fr st op<;>rfl
theorem fill2{v:AV}(r:Int)(h:AV.one v=true):VN [ZI 0,.nilsl,.nilsl] [(0,1,.int .i64 r),(1,1,v)]=some [.int .i64 r,v,.nilsl]:=by cases v<;>first | rfl | (simp[AV.one] at h)
theorem Wo{Γ:Cg}{zs:List (Vc × Nat)}{its:List DIt}{id i k a:Nat}{d:Option Nat}{op:MOp}{stE:St}{fr fr2:Fr}{s s1 s2 s3:St}{v v2:AV}(hz:zs[i]?=some (⟨d,op,none⟩,a))(hi:its[i]?=some (.val fr s v s1))(_hg:(none:Option (Nat × Bool))=none)(hk:its[k]?=some (.val fr2 s2 v2 s3))
  (h:W0 op fr=true\/∃ s4,V5 Γ (Wf zs i id) fr s2 op=.val v s4/\V8 v v=true):KE Γ zs its id stE (i,some k)=true:=by
 unfold KE
 simp only[hz,hi,Vv,hk]
 rcases h with h|⟨s4,h1,h2⟩
 ·rw[h];rfl
 ·simp only[YF,h1,h2,XS]
theorem Gr.beq{lo:Nat}{s:St}{sl:AV}{xs:List (List AV)}{G:Nat->Prop}(h:Gr lo s sl xs G):V8 sl sl=true:=by
 rcases h.2.2 with⟨rfl,_⟩|⟨id,rfl,_⟩
 ·rfl
 ·simp only[V8,QD,onBeq];rfl
theorem SF:∀{l:List Tm},l.all gr=true->shL l=true
 | [],_=>shL_nil
 | t::l,h=>by
  simp only[QN,Qd] at h
  rw[Ul,Qm (gr_shT h.1)];exact SF h.2
theorem good_mk{r:Int}{nv ev nl ex:Bool}{vs:List Tm}{l:List Dv}(h:Dv.good gr (.mk r nv ev vs nl ex l)=true):1<=r/\r<=19/\l.length=arN r/\vs.length<=vaN r/\shL vs=true/\Dv.goodL gr l=true:=by
 simp only[Dv.good,Qd,QF,Zm] at h
 exact⟨h.1.1.1.1.1,h.1.1.1.1.2,h.1.1.1.2,h.1.1.2,SF h.1.2,h.2⟩
theorem goodL_mem:∀{l:List Dv},Dv.goodL gr l=true->∀ d∈l,d.good gr=true
 | [],_,_,hx=>by simp at hx
 | t::l,h,x,hx=>by
  simp only[Dv.goodL,Qd] at h
  rcases Qx.1 hx with rfl | hx
  ·exact h.1
  ·exact goodL_mem h.2 x hx
theorem arN_le(r:Int):arN r<=2:=by
 unfold arN
 split
 ·omega
 ·split<;>omega
theorem vaN_le(r:Int):vaN r<=64:=by
 unfold vaN
 split
 ·omega
 ·split<;>omega
end
noncomputable section
open Nat renaming reduceEqDiff -> rQ, reduceAdd -> rA
def JM:Vm:=⟨9,(ZQ [ZM 2 (ZC 0)]
 (.seq (ZQ [ZV 3 0]
 (.block 0 (.seq (ZQ [ZO 5 (.bin false .eql (.t 3) (ZC 1)),ZV 4 5]
 (.cond (.t 4)
 .skip
 (.region [ZO 6 (.bin false .eql (.t 3) (ZC 2)),ZV 4 6])))
 (.cond (.t 4)
 (ZR [ZM 2 (ZC 0)])
 (ZQ [ZO 8 (.bin false .eql (.t 3) (ZC 7)),ZV 7 8]
 (.cond (.t 7)
 (ZR [ZM 2 (ZC 2)])
 .skip))))))
 (ZR [ZM 2 (ZC 1)]))),[.t 2]⟩
theorem t214:tbl 214=some JM:=by kernel_rfl
def JR:Vm:=⟨9,(ZQ [ZM 2 (ZC 0)]
 (.seq (ZQ [ZV 3 0]
 (.block 0 (.seq (ZQ [ZO 5 (.bin false .eql (.t 3) (ZC 1)),ZV 4 5]
 (.cond (.t 4)
 .skip
 (.region [ZO 6 (.bin false .eql (.t 3) (ZC 2)),ZV 4 6])))
 (.cond (.t 4)
 (ZR [ZM 2 (ZC 8)])
 (ZQ [ZO 8 (.bin false .eql (.t 3) (ZC 16)),ZV 7 8]
 (.cond (.t 7)
 (ZR [ZM 2 (ZC 64)])
 .skip))))))
 (ZR [ZM 2 (ZC 0)]))),[.t 2]⟩
theorem t215:tbl 215=some JR:=by kernel_rfl
theorem arity2_run(n:Nat)(Y:Vi)(r:Int)(st:St):R (n+1) Y 214 [.int .i64 r] st=.ret (ZI ((arN r))) st:=by
 have b00:Nat.beq 0 0=true:=rfl
 have eq:∀ c:Nat,Vr false .eql (.int .i64 r) (ZI c)=some (.bool (r==.ofNat c)):=fun _=>rfl
 cases h1:(r==Int.ofNat 1) with
 | true=>
  refine Ve (mf:=JM) (fr:=?x1a) t214 rfl (.inl ?x1b) ?x1c ?x1d
  case x1b=>
   simp only[amE,rQ,↓reduceIte,rA,JM,b00,eq,h1]
   rfl
  case x1c=>rfl
  case x1d=>
   simp only[JM,Vg,Vu,V0,Fr.get_set,rQ,↓reduceIte,Qg,Ql]
   try (have x:r=1:=by simpa using h1)
   try subst x
   try rfl
 | false=>
  cases h2:(r==Int.ofNat 2) with
  | true=>
   refine Ve (mf:=JM) (fr:=?x2a) t214 rfl (.inl ?x2b) ?x2c ?x2d
   case x2b=>
    simp only[amE,rQ,↓reduceIte,rA,JM,b00,eq,h1,h2]
    rfl
   case x2c=>rfl
   case x2d=>
    simp only[JM,Vg,Vu,V0,Fr.get_set,rQ,↓reduceIte,Qg,Ql]
    try (have x:r=2:=by simpa using h2)
    try subst x
    try rfl
  | false=>
   cases h7:(r==Int.ofNat 7) with
   | true=>
    refine Ve (mf:=JM) (fr:=?x7a) t214 rfl (.inl ?x7b) ?x7c ?x7d
    case x7b=>
     simp only[amE,rQ,↓reduceIte,rA,JM,b00,eq,h1,h2,h7]
     rfl
    case x7c=>rfl
    case x7d=>
     simp only[JM,Vg,Vu,V0,Fr.get_set,rQ,↓reduceIte,Qg,Ql]
     try (have x:r=7:=by simpa using h7)
     try subst x
     try rfl
   | false=>
    refine Ve (mf:=JM) (fr:=?x0a) t214 rfl (.inl ?x0b) ?x0c ?x0d
    case x0b=>
     simp only[amE,rQ,↓reduceIte,rA,JM,b00,eq,h1,h2,h7]
     rfl
    case x0c=>rfl
    case x0d=>
     simp only[JM,Vg,Vu,V0,Fr.get_set,rQ,↓reduceIte,Qg,Ql]
     try ((have x1:r≠1:=by simpa using h1);(have x2:r≠2:=by simpa using h2);(have x7:r≠7:=by simpa using h7);simp only[arN,x1,x2,x7,or_self,↓reduceIte];done)
theorem values2_run(n:Nat)(Y:Vi)(r:Int)(st:St):R (n+1) Y 215 [.int .i64 r] st=.ret (ZI ((vaN r))) st:=by
 have b00:Nat.beq 0 0=true:=rfl
 have eq:∀ c:Nat,Vr false .eql (.int .i64 r) (ZI c)=some (.bool (r==.ofNat c)):=fun _=>rfl
 cases h1:(r==Int.ofNat 1) with
 | true=>
  refine Ve (mf:=JR) (fr:=?x1a) t215 rfl (.inl ?x1b) ?x1c ?x1d
  case x1b=>
   simp only[amE,rQ,↓reduceIte,rA,JR,b00,eq,h1]
   rfl
  case x1c=>rfl
  case x1d=>
   simp only[JR,Vg,Vu,V0,Fr.get_set,rQ,↓reduceIte,Qg,Ql]
   try (have x:r=1:=by simpa using h1)
   try subst x
   try rfl
 | false=>
  cases h2:(r==Int.ofNat 2) with
  | true=>
   refine Ve (mf:=JR) (fr:=?x2a) t215 rfl (.inl ?x2b) ?x2c ?x2d
   case x2b=>
    simp only[amE,rQ,↓reduceIte,rA,JR,b00,eq,h1,h2]
    rfl
   case x2c=>rfl
   case x2d=>
    simp only[JR,Vg,Vu,V0,Fr.get_set,rQ,↓reduceIte,Qg,Ql]
    try (have x:r=2:=by simpa using h2)
    try subst x
    try rfl
  | false=>
   cases h16:(r==Int.ofNat 16) with
   | true=>
    refine Ve (mf:=JR) (fr:=?x16a) t215 rfl (.inl ?x16b) ?x16c ?x16d
    case x16b=>
     simp only[amE,rQ,↓reduceIte,rA,JR,b00,eq,h1,h2,h16]
     rfl
    case x16c=>rfl
    case x16d=>
     simp only[JR,Vg,Vu,V0,Fr.get_set,rQ,↓reduceIte,Qg,Ql]
     try (have x:r=16:=by simpa using h16)
     try subst x
     try rfl
   | false=>
    refine Ve (mf:=JR) (fr:=?x0a) t215 rfl (.inl ?x0b) ?x0c ?x0d
    case x0b=>
     simp only[amE,rQ,↓reduceIte,rA,JR,b00,eq,h1,h2,h16]
     rfl
    case x0c=>rfl
    case x0d=>
     simp only[JR,Vg,Vu,V0,Fr.get_set,rQ,↓reduceIte,Qg,Ql]
     try ((have x1:r≠1:=by simpa using h1);(have x2:r≠2:=by simpa using h2);(have x16:r≠16:=by simpa using h16);simp only[vaN,x1,x2,x16,or_self,↓reduceIte];done)
end
noncomputable section
open Nat renaming reduceEqDiff -> rQ, reduceAdd -> rA
def Ir(lo:Nat)(s:St)(sl:AV)(l:List Int):Prop:=(sl=.lst 0 [] true/\l=[])\/∃ id,sl=.own id 0 l.length 1 none l.length/\lo<=id/\id < s.next/\s.get id=some (.row (l.map (AV.int .i64)))
theorem Ir.len{lo:Nat}{s:St}{sl:AV}{l:List Int}(h:Ir lo s sl l)(s':St):(bif VD 0 sl then Wm s' sl else none)=some (ZI l.length):=by
 rcases h with⟨rfl,rfl⟩|⟨id,rfl,_⟩<;>rfl
theorem Ir.at{lo:Nat}{s:St}{sl:AV}{l:List Int}(h:Ir lo s sl l){k:Nat}{x:Int}(hx:l[k]?=some x):∃ p,VC 1 sl (ZI k)=some p/\Vf false 1 s p=some (.int .i64 x):=by
 have hk:=(Qt.1 hx).1
 rcases h with⟨_,rfl⟩|⟨id,rfl,_,_,hg⟩
 ·simp at hk
 ·refine⟨.ptr id (0+k*1),?_,?_⟩
  ·simp only[VC]
   rw[Qo (show k+1<=l.length from hk)];rfl
  ·simp only[Vf,Wy,hg,Qg,Q7,XP]
   have:((l.map (AV.int .i64)).drop k).take 1=[.int .i64 x]:=by
    rw[XO (by simpa using hk)]
    simp only[Xf,Xe,List.getElem_map]
    have:=(Qt.1 hx).2
    rw[this]
   rw[this];rfl
theorem Ir.app{lo:Nat}{s:St}{sl:AV}{l:List Int}(h:Ir lo s sl l)(x:Int)(hlo:lo<=s.next)(hb:l.length<=100000):
  ∃ sl' s',VX 8 1 s sl 1 [.int .i64 x]=some (sl',s')/\s.next<=s'.next/\(∀ i,i < lo->s'.get i=s.get i)/\Ir lo s' sl' (l++[x]):=by
 rcases h with⟨rfl,rfl⟩|⟨id,rfl,hid,hid2,hg⟩
 ·exact⟨.own s.next 0 (0+1) 1 none (0+1),s.new (.row [.int .i64 x]),rfl,by simp,fun i hi=>by rw[St.get_new,Qe (by omega)],.inr ⟨s.next,rfl,hlo,by simp,by rw[St.get_new,Qm rfl];rfl⟩⟩
 ·refine⟨.own s.next 0 (l.length+1) 1 none (l.length+1),(s.del id).new (.row (l.map (AV.int .i64)++[.int .i64 x])),?_,by simp[St.del,St.new],fun i hi=>?_,.inr ⟨s.next,by simp,hlo,by simp[St.del,St.new],?_⟩⟩
  ·have h0:Nat.beq 1 0=false:=rfl
   have h1:((l.length+1)*8).ble 140737488355328=true:=Qo (by omega)
   have h2:(l.length+1).ble 140737488355328=true:=Qo (by omega)
   have h3:(0+l.length*1).ble (l.map (AV.int .i64)).length=true:=Qo (by simp)
   have h4:KY (l.length+1) l.length none=none:=by
    have:(l.length+1).ble l.length=false:=by
     cases hc:(l.length+1).ble l.length with
     | false=>rfl
     | true=>have:=Qk hc;omega
    simp only[KY,this];rfl
   have h5:(l.length*1).beq (l.map (AV.int .i64)).length=true:=by rw[Qu,XP];exact QD _
   have h6:[AV.int .i64 x].all AV.one=true:=rfl
   unfold VX
   simp only[h0,Qq,hg,h1,h2,h3,h4,h5,h6];rfl
  ·rw[St.get_new,Qe (by simp only[St.next_del];omega),St.get_del,Qe (by omega)]
  ·have:(s.del id).next=s.next:=rfl
   rw[<-this,St.get_new,Qm rfl];simp
def g215_0:List Vc:=[ZV 12 0,ZV 13 5,ZP 14 1 12 13,ZL 15 14,ZV 16 1,ZO 17 (.bin false .eql (.t 15) (.t 16))]
def UV:Vn:=(ZQ g215_0
 (.cond (.t 17)
 (ZR [ZM 4 (ZB true)])
 .skip))
def cf215_0:List Vc:=[ZV 6 5,ZV 7 0,ZN 8 7,ZO 9 (.bin false .lss (.t 6) (.t 8))]
def kf215:Vm:=⟨18,(ZQ [ZM 4 (ZB false)]
 (.seq (ZQ [ZM 5 (ZC 0)]
 (.block 0 (.loop (lb2 9 5 10 11 0 1 cf215_0 UV))))
 (ZR [ZM 4 (ZB false)]))),[.t 4]⟩
theorem t267:tbl 267=some kf215:=by kernel_rfl
def g168_0:List Vc:=[ZA 26 2 2,ZL 27 26,ZV 28 5,ZP 29 3 27 28,ZK 30 3 29,ZV 31 1,ZX 32 213 [(.t 30),(.t 31)],ZV 1 32]
def g168_2:List Vc:=[ZA 6 0 2,ZL 7 6,ZO 8 (.bin false .eql (.t 7) (ZC 1))]
def g168_3:List Vc:=[ZV 9 1,ZA 10 1 2,ZL 11 10,ZX 12 267 [(.t 9),(.t 11)]]
def g168_5:List Vc:=[ZV 14 1,ZA 15 1 2,ZL 16 15,ZO 17 (.bslice 1 [Z0] [(0,1,(.t 16))]),ZO 18 (.append 8 1 none (.t 14) (.t 17)),ZV 4 18]
def bf168_0:Vn:=(.region g168_0)
def cf168_0:List Vc:=[ZV 19 5,ZA 20 2 2,ZL 21 20,ZN 22 21,ZO 23 (.bin false .lss (.t 19) (.t 22))]
def Uw:Vm:=⟨34,(ZQ [ZO 2 (.box true (.t 0)),ZM 4 (.c .nilsl)]
 (.seq (ZQ g168_2
 (.cond (.t 8)
 (.seq (ZQ g168_3
 (.cond (.t 12)
 (ZR [ZV 13 1,ZV 4 13])
 .skip))
 (ZR g168_5))
 .skip))
 (.seq (ZQ [ZM 5 (ZC 0)]
 (.block 0 (.loop (lb2 23 5 24 25 0 1 cf168_0 bf168_0))))
 (ZR [ZV 33 1,ZV 4 33])))),[.t 4]⟩
theorem t213:tbl 213=some Uw:=by kernel_rfl
def g167_0:List Vc:=[ZV 10 0,ZV 11 3,ZP 12 3 10 11,ZK 13 3 12,ZX 14 154 [(.t 13)],ZO 15 (.un .not (.t 14))]
def US:Vn:=(ZQ g167_0
 (.cond (.t 15)
 (ZR [ZM 2 (ZB false)])
 .skip))
def cf167_0:List Vc:=[ZV 4 3,ZV 5 0,ZN 6 5,ZO 7 (.bin false .lss (.t 4) (.t 6))]
def kf167:Vm:=⟨16,(ZQ [ZM 2 (ZB false)]
 (.seq (ZQ [ZM 3 (ZC 0)]
 (.block 0 (.loop (lb2 7 3 8 9 0 1 cf167_0 US))))
 (ZR [ZM 2 (ZB true)]))),[.t 2]⟩
theorem t212:tbl 212=some kf167:=by kernel_rfl
def g141_0:List Vc:=[ZV 16 0,ZV 17 4,ZP 18 3 16 17,ZK 19 3 18,ZV 20 3,ZX 21 213 [(.t 19),(.t 20)],ZV 3 21]
def g141_3:List Vc:=[ZV 6 0,ZX 7 212 [(.t 6)],ZO 8 (.un .not (.t 7))]
def bf141_0:Vn:=(.region g141_0)
def cf141_0:List Vc:=[ZV 10 4,ZV 11 0,ZN 12 11,ZO 13 (.bin false .lss (.t 10) (.t 12))]
def kf141:Vm:=⟨23,(ZQ [ZM 2 (.c .nilsl)]
 (ZQ [ZO 5 (.bslice 0 [] []),ZV 3 5]
 (.seq (ZQ g141_3
 (.cond (.t 8)
 (ZR [ZV 9 3,ZV 2 9])
 .skip))
 (.seq (ZQ [ZM 4 (ZC 0)]
 (.block 0 (.loop (lb2 13 4 14 15 0 1 cf141_0 bf141_0))))
 (ZR [ZV 22 3,ZV 2 22]))))),[.t 2]⟩
theorem t155:tbl 155=some kf141:=by kernel_rfl
def g116_1:List Vc:=[ZK 3 3 1,ZX 4 154 [(.t 3)],ZV 5 4,ZG 6 (.load true 3 (.t 1)) 5 true,ZG 7 (.bslice 1 [Z0,Z0,.nilsl] [(0,3,(.t 6))]) 5 true,ZG 8 (.call (.c (.func (.func 155) [] [])) [(.t 7)]) 5 true,ZG 9 (.len 0 (.t 8)) 5 true,ZG 10 (.bin false .eql (.t 9) (ZC 0)) 5 true,ZO 11 (.pick (.t 5) (.t 10) (ZB false)),ZV 2 11]
def kf116:Vm:=⟨12,(ZQ [ZO 1 (.box true (.t 0)),ZM 2 (ZB false)]
 (ZR g116_1)),[.t 2]⟩
theorem t105:tbl 105=some kf116:=by kernel_rfl
theorem in_run{lo:Nat}{st:St}{sl:AV}{l:List Int}(h:Ir lo st sl l)(x:Int)(n:Nat)(Y:Vi)(hn:l.length+1 < n)(hb:l.length<=100000):R n Y 267 [sl,.int .i64 x] st=.ret (.bool (decide (x∈l))) st:=by
 obtain⟨m,rfl⟩:∃ m,n=m+1:=⟨n - 1,by omega⟩
 have b00:Nat.beq 0 0=true:=rfl
 have hlen:=h.len st
 obtain⟨fA1,hA1⟩:∃ fA,fA=Vo 0 [sl,.int .i64 x] Fr.nil:=⟨_,rfl⟩
 have gA1_0:=gAt hA1 0
 have gA1_1:=gAt hA1 1
 have dA1:fA1.ds=[]:=by rw[hA1];rfl
 obtain⟨J2,H2,O2_4⟩:∃ fr',ar m Y [ZM 4 (ZB false)] fA1 st=.ok fr' st/\fr'.get 4=some (.bool false):=⟨_,by simp only[amE,rQ,↓reduceIte,rA]<;>rfl,gh⟩
 have V2_0:=ag H2 gA1_0
 have V2_1:=ag H2 gA1_1
 have W2:=ad H2 dA1
 obtain⟨J3,H3,O3_5⟩:∃ fr',ar m Y [ZM 5 (ZC 0)] J2 st=.ok fr' st/\fr'.get 5=some Z0:=⟨_,by simp only[amE,rQ,↓reduceIte,rA]<;>rfl,gh⟩
 have V3_0:=ag H3 V2_0
 have V3_1:=ag H3 V2_1
 have W3:=ad H3 W2
 have hC:∀ k fr s,k<=l.length->Kp [0,1] J3 fr->fr.get 5=some (ZI k)->(s=st/\x∉l.take k) ->
   ∃ fr',ar m Y cf215_0 fr s=.ok fr' s/\Kp [5,0,1] fr fr'/\fr'.get 9=some (.bool (decide (k < l.length)))/\(s=st/\x∉l.take k):=by
  intro k fr s hk hkp gi ⟨hst,hq⟩
  subst hst
  have q0:=hkp.at (k:=0) (by decide) V3_0
  refine⟨?c0,?c1,?c2,?c3,rfl,hq⟩
  case c1=>
   simp only[amE,rQ,↓reduceIte,rA,cf215_0,q0,gi,hlen,lssD]
   rfl
  case c2=>repeat (first | exact Kp.refl | refine Kp.set (by decide) ?_)
  case c3=>simp only[Fr.get_set,rQ,↓reduceIte]
 have hB:∀ k fr s,k < l.length->Kp [0,1] J3 fr->fr.get 5=some (ZI k)->(s=st/\x∉l.take k) ->
   (∃ FR s',ac m Y UV none fr s=.norm FR s'/\Kp [5,0,1] fr FR/\(s'=st/\x∉l.take (k+1))) ∨
   (∃ FR s',ac m Y UV none fr s=.ret FR s'/\(s'=st/\FR.ds=[]/\FR.get 4=some (.bool true)/\x∈l)):=by
  intro k fr s hk hkp gi ⟨hst,hq⟩
  subst hst
  obtain⟨y,hy,-⟩:=WR hk
  obtain⟨p,ia,ld⟩:=h.at hy
  have q0:=hkp.at (k:=0) (by decide) V3_0
  have q1:=hkp.at (k:=1) (by decide) V3_1
  have eq:Vr false .eql (.int .i64 y) (.int .i64 x)=some (.bool (y==x)):=rfl
  have htk:l.take (k+1)=l.take k++[y]:=by rw[QT,hy];rfl
  generalize hE:(y==x)=E at *
  obtain⟨J4,H4,K4,O4_17⟩:∃ fr',ar m Y g215_0 fr s=.ok fr' s/\Kp [0,1,5] fr fr'/\fr'.get 17=some (.bool E):=⟨_,by simp only[amE,rQ,↓reduceIte,rA,q0,q1,gi,g215_0,ia,ld,eq]<;>rfl,Kp.refl.s.s.s.s.s.s,gh⟩
  cases E with
  | false=>
   refine .inl ⟨J4,s,?q4,K4.sub (by decide),rfl,?r4⟩
   case q4=>simp only[amE,rQ,↓reduceIte,rA,UV,H4,O4_17]
   case r4=>
    have:y≠x:=by simpa using hE
    rw[htk];simp only[QV,Xd,Z8];exact⟨hq,fun e=>this e.symm⟩
  | true=>
   obtain⟨J5,H5,O5_4⟩:∃ fr',ar m Y [ZM 4 (ZB true)] J4 s=.ok fr' s/\fr'.get 4=some (.bool true):=⟨_,by simp only[amE,rQ,↓reduceIte,rA]<;>rfl,gh⟩
   refine .inr ⟨J5,s,?q5,rfl,ad H5 (K4.1.trans (hkp.1.trans W3)),O5_4,?z5⟩
   case q5=>simp only[amE,rQ,↓reduceIte,rA,UV,H4,H5,O4_17]
   case z5=>
    have:y=x:=by simpa using hE
    rw[<-this];exact Qr hy
 rcases U4 (Γ:=(gT m)) (Y:=Y) (m:=m) (N:=l.length) (c:=9) (i:=5) (j1:=10) (j2:=11) (b:=0) (b1:=1) (ro:=none) (C:=cf215_0) (B:=UV) (L:=[0,1]) (fr0:=J3) (by decide) (by decide) (by decide) (by omega)
  (Q:=fun k _ s=>s=st/\x∉l.take k) (fun _ _ _ _ _ _ h=>h) hC hB l.length 0 J3 st m (by omega) (by omega) Kp.refl O3_5 ⟨rfl,by simp⟩
  with⟨FR,s',h1,h2,h3,h4⟩|⟨FR,s',h1,h2,h3,h4,h5⟩
 ·subst h3
  rw[QH] at h4
  rw[Qp h4]
  refine Ve (mf:=kf215) (fr:=FR.set 4 (some (.bool false))) t267 rfl (.inl ?w1) (h2.1.trans W3) ?w2
  case w1=>
   rw[<-hA1]
   simp only[amE,rQ,↓reduceIte,rA,kf215,b00,H2,H3,h1]
  case w2=>simp only[kf215,Vg,Vu,V0,Fr.get_set,↓reduceIte,Qg,Ql]
 ·subst h2
  rw[Qs h5]
  refine Ve (mf:=kf215) (fr:=FR) t267 rfl (.inl ?w3) h3 (by simp only[kf215,Vg,Vu,V0,h4,Qg,Ql])
  case w3=>
   rw[<-hA1]
   simp only[amE,rQ,↓reduceIte,rA,kf215,b00,H2,H3,h1]
mutual
theorem vT_len:∀(t:Tm) (o:List Int),(vT t o).length<=o.length+t.size
 | .mk k n _ _ l,o=>by
  unfold vT Tm.size
  split
  ·split
   ·omega
   ·simp
  ·have:=vL_len l o;omega
theorem vL_len:∀(l:List Tm) (o:List Int),(vL l o).length<=o.length+Tm.sizeL l
 | [],o=>by rw[vL_nil];omega
 | t::l,o=>by
  rw[Tf]
  have h1:=vT_len t o
  have h2:=vL_len l (vT t o)
  unfold Tm.sizeL;omega
end
theorem vL_take:∀(l:List Tm) (k:Nat) (t:Tm) (o:List Int),l[k]?=some t->vL (l.take (k+1)) o=vT t (vL (l.take k) o)
 | [],k,t,o,h=>by simp at h
 | x::l,0,t,o,h=>by
  simp only[Q0,Qa] at h;subst h
  simp only[Xf,Xe,Tf,vL_nil]
 | x::l,k+1,t,o,h=>by
  simp only[QE] at h
  simp only[Xf,Tf]
  exact vL_take l k t _ h
theorem sizeL_take:∀(l:List Tm) (k:Nat) (t:Tm),l[k]?=some t->Tm.sizeL (l.take k)+t.size<=Tm.sizeL l
 | [],k,t,h=>by simp at h
 | x::l,0,t,h=>by
  simp only[Q0,Qa] at h;subst h
  simp only[Xe,Tm.sizeL];omega
 | x::l,k+1,t,h=>by
  simp only[QE] at h
  have:=sizeL_take l k t h
  simp only[Xf,Tm.sizeL];omega
def VarsR(n:Nat)(Y:Vi)(t:Tm):Prop:=∀(F:Nat->Prop) (lo:Nat) (st:St) (cs:List AV) (sl:AV) (o:List Int),We F st t cs->(∀ i,F i->i < lo)->lo<=st.next->Ir lo st sl o->o.length+t.size<=50000->o.length+t.size+2 < n->t.fz<=n ->
 ∃ sl' st',R n Y 213 [.agg cs,sl] st=.ret sl' st'/\st.next<=st'.next/\(∀ i,i < lo->st'.get i=st.get i)/\Ir lo st' sl' (vT t o)
theorem vars_run(t:Tm):∀(n:Nat) (Y:Vi),VarsR n Y t:=by
 induction hs:t.fz using Nat.strongRecOn generalizing t with
 | _ s ih=>
 intro n Y F lo st cs sl o hr hF hlo hir hb hn hfn
 cases t with
 | mk k0 n0 nl ex l=>
 simp only[We] at hr
 obtain⟨sk,xs,rfl,hsl,hrs⟩:=hr
 simp only[Tm.fz] at hs
 simp only[Tm.size] at hb hn
 simp only[Tm.fz] at hfn
 obtain⟨m,rfl⟩:∃ m,n=m+1:=⟨n - 1,by omega⟩
 have b00:Nat.beq 0 0=true:=rfl
 have hxl:=hrs.len
 have e1:Vr false .eql (.int .i64 k0) (ZI 1)=some (.bool (k0==1)):=rfl
 have cin:((gT m).cg Y).fn 267 [sl,.int .i64 n0] st=.ret (.bool (decide (n0∈o))) st:=in_run hir n0 m Y (by omega) (by omega)
 have hv:vT (.mk k0 n0 nl ex l) o=if k0=1 then (if n0∈o then o else o++[n0]) else vL l o:=by conv=>lhs;unfold vT
 rw[hv]
 generalize hB:(k0==1)=B at *
 obtain⟨fA6,hA6⟩:∃ fA,fA=Vo 0 [.agg [.int .i64 k0,.int .i64 n0,sk],sl] Fr.nil:=⟨_,rfl⟩
 have gA6_0:=gAt hA6 0
 have gA6_1:=gAt hA6 1
 have dA6:fA6.ds=[]:=by rw[hA6];rfl
 obtain⟨J7,H7,O7_2,O7_4⟩:∃ fr',ar m Y [ZO 2 (.box true (.t 0)),ZM 4 (.c .nilsl)] fA6 st=.ok fr' st/\fr'.get 2=some (.fptr [.int .i64 k0,.int .i64 n0,sk] 0)/\fr'.get 4=some (.nilsl):=⟨_,by simp only[amE,rQ,↓reduceIte,rA,gA6_0]<;>rfl,gn gh,gh⟩
 have V7_1:=ag H7 gA6_1
 have W7:=ad H7 dA6
 obtain⟨J8,H8,O8_8⟩:∃ fr',ar m Y g168_2 J7 st=.ok fr' st/\fr'.get 8=some (.bool B):=⟨_,by simp only[amE,rQ,↓reduceIte,rA,O7_2,g168_2,faf,Y7,e1]<;>rfl,gh⟩
 have V8_1:=ag H8 V7_1
 have V8_2:=ag H8 O7_2
 have W8:=ad H8 W7
 cases B with
 | true=>
  rw[Qm (by simpa using hB)]
  generalize hI:decide (n0∈o)=I at *
  obtain⟨J9,H9,O9_12⟩:∃ fr',ar m Y g168_3 J8 st=.ok fr' st/\fr'.get 12=some (.bool I):=⟨_,by simp only[amE,rQ,↓reduceIte,rA,V8_1,V8_2,g168_3,faf,Yg,cin]<;>rfl,gh⟩
  have V9_1:=ag H9 V8_1
  have V9_2:=ag H9 V8_2
  have W9:=ad H9 W8
  cases I with
  | true=>
   obtain⟨J10,H10,O10_4⟩:∃ fr',ar m Y [ZV 13 1,ZV 4 13] J9 st=.ok fr' st/\fr'.get 4=some (sl):=⟨_,by simp only[amE,rQ,↓reduceIte,rA,V9_1]<;>rfl,gh⟩
   have W10:=ad H10 W9
   refine⟨sl,st,Ve (mf:=Uw) (fr:=J10) t213 rfl (.inl ?q10) W10 (by simp only[Uw,Vg,Vu,V0,O10_4,Qg,Ql]),Qw _,fun _ _=>rfl,by rw[Qm (ZD hI)];exact hir⟩
   case q10=>
    rw[<-hA6]
    simp only[amE,rQ,↓reduceIte,rA,Uw,b00,H7,H8,H9,H10,O8_8,O9_12]
  | false=>
   obtain⟨sl',st',happ,hnx,hsm,hir'⟩:=hir.app n0 hlo (by omega)
   have fl:VN [ZI 0] [(0,1,.int .i64 n0)]=some [.int .i64 n0]:=rfl
   have ct:Wd 1 st (.lst 1 [.int .i64 n0] true)=some (1,[.int .i64 n0]):=rfl
   obtain⟨J11,H11,O11_4⟩:∃ fr',ar m Y g168_5 J9 st=.ok fr' st'/\fr'.get 4=some (sl'):=⟨_,by simp only[amE,rQ,↓reduceIte,rA,V9_1,V9_2,g168_5,faf,Yg,fl,ct,happ,tag0]<;>rfl,gh⟩
   have W11:=ad H11 W9
   refine⟨sl',st',Ve (mf:=Uw) (fr:=J11) t213 rfl (.inl ?q11) W11 (by simp only[Uw,Vg,Vu,V0,O11_4,Qg,Ql]),hnx,hsm,by rw[Qe (of_decide_eq_false hI)];exact hir'⟩
   case q11=>
    rw[<-hA6]
    simp only[amE,rQ,↓reduceIte,rA,Uw,b00,H7,H8,H9,H11,O8_8,O9_12]
 | false=>
  rw[Qe (by simpa using hB)]
  obtain⟨J12,H12,O12_5⟩:∃ fr',ar m Y [ZM 5 (ZC 0)] J8 st=.ok fr' st/\fr'.get 5=some Z0:=⟨_,by simp only[amE,rQ,↓reduceIte,rA]<;>rfl,gh⟩
  have V12_1:=ag H12 V8_1
  have V12_2:=ag H12 V8_2
  have W12:=ad H12 W8
  have hC:∀ k fr s,k<=xs.length->Kp [2] J12 fr->fr.get 5=some (ZI k)->(st.next<=s.next/\(∀ i,i < lo->s.get i=st.get i)/\∃ sk,fr.get 1=some sk/\Ir lo s sk (vL (l.take k) o)) ->
    ∃ fr',ar m Y cf168_0 fr s=.ok fr' s/\Kp [5,2] fr fr'/\fr'.get 23=some (.bool (decide (k < xs.length)))/\(st.next<=s.next/\(∀ i,i < lo->s.get i=st.get i)/\∃ sk,fr'.get 1=some sk/\Ir lo s sk (vL (l.take k) o)):=by
   intro k fr s hk hkp gi ⟨hnx,hsm,sq,q1,hq⟩
   have q2:=hkp.at (k:=2) (by decide) V12_2
   have hlen:=hsl.len s
   refine⟨?c0,?c1,?c2,?c3,hnx,hsm,sq,?c4,hq⟩
   case c1=>
    simp only[amE,rQ,↓reduceIte,rA,cf168_0,q2,gi,faf,WB,hlen,lssD]
    rfl
   case c2=>repeat (first | exact Kp.refl | refine Kp.set (by decide) ?_)
   case c3=>simp only[Fr.get_set,rQ,↓reduceIte]
   case c4=>simp only[Fr.get_set,rQ,↓reduceIte,q1]
  have hB:∀ k fr s,k < xs.length->Kp [2] J12 fr->fr.get 5=some (ZI k)->(st.next<=s.next/\(∀ i,i < lo->s.get i=st.get i)/\∃ sk,fr.get 1=some sk/\Ir lo s sk (vL (l.take k) o)) ->
    (∃ FR s',ac m Y bf168_0 none fr s=.norm FR s'/\Kp [5,2] fr FR/\(st.next<=s'.next/\(∀ i,i < lo->s'.get i=st.get i)/\∃ sk,FR.get 1=some sk/\Ir lo s' sk (vL (l.take (k+1)) o))) ∨
    (∃ FR s',ac m Y bf168_0 none fr s=.ret FR s'/\False):=by
   intro k fr s hk hkp gi ⟨hnx,hsm,sq,q1,hq⟩
   obtain⟨t,ht,hdr⟩:=WR (l:=l) (k:=k) (by omega)
   obtain⟨x,hx,hrx⟩:=hrs.at ht
   obtain⟨p,ia,ld⟩:=hsl.at hx
   have hsame:Vs F st s:=fun i hi=>hsm i (hF i hi)
   have ld:=ld s hsame
   have hfz:=Tm.fzL_mem (Qr ht)
   have hsz:=sizeL_take l k t ht
   have hvl:=vL_len (l.take k) o
   obtain⟨s1,s',hcall,hnx',hsm',hir'⟩:=ih t.fz (by omega) t rfl m Y F lo s x sq (vL (l.take k) o) (hrx.mono hsame fun _ h=>h) hF (by omega) hq (by omega) (by omega) (by omega)
   have hcall':((gT m).cg Y).fn 213 [.agg x,sq] s=.ret s1 s':=hcall
   have q2:=hkp.at (k:=2) (by decide) V12_2
   obtain⟨J13,H13,K13,O13_1⟩:∃ fr',ar m Y g168_0 fr s=.ok fr' s'/\Kp [2,5] fr fr'/\fr'.get 1=some (s1):=⟨_,by simp only[amE,rQ,↓reduceIte,rA,q1,q2,gi,g168_0,faf,WB,ia,ld,hcall']<;>rfl,Kp.refl.s.s.s.s.s.s.s.s,gh⟩
   refine .inl ⟨J13,s',?q13,K13.sub (by decide),by omega,fun i hi=>(hsm' i hi).trans (hsm i hi),s1,O13_1,by rw[vL_take l k t o ht];exact hir'⟩
   case q13=>simp only[amE,rQ,↓reduceIte,rA,bf168_0,H13]
  rcases U4 (Γ:=(gT m)) (Y:=Y) (m:=m) (N:=xs.length) (c:=23) (i:=5) (j1:=24) (j2:=25) (b:=0) (b1:=1) (ro:=none) (C:=cf168_0) (B:=bf168_0) (L:=[2]) (fr0:=J12) (by decide) (by decide) (by decide) hsl.2.1
   (Q:=fun k fr s=>st.next<=s.next/\(∀ i,i < lo->s.get i=st.get i)/\∃ sk,fr.get 1=some sk/\Ir lo s sk (vL (l.take k) o)) (fun k fr s x v hx ⟨h1,h2,sk,h3,h4⟩=>⟨h1,h2,sk,by rw[Fr.get_set,Qe (by omega)];exact h3,h4⟩) hC hB xs.length 0 J12 st m (by omega) (by omega) Kp.refl O12_5 ⟨Qw _,fun _ _=>rfl,sl,V12_1,by simpa only [Xe,vL_nil] using hir⟩
   with⟨FR,s',h1,h2,h3,h4,sk',h5,h6⟩|⟨FR,s',h1,h2⟩
  ·rw[hxl,QH] at h6
   refine⟨sk',s',Ve (mf:=Uw) (fr:=(FR.set 33 (some sk')).set 4 (some sk')) t213 rfl (.inl ?w1) (h2.1.trans W12) ?w2,h3,h4,h6⟩
   case w1=>
    rw[<-hA6]
    simp only[amE,rQ,↓reduceIte,rA,Uw,b00,H7,H8,H12,O8_8,h1,h5]
   case w2=>simp only[Uw,Vg,Vu,V0,Fr.get_set,↓reduceIte,Qg,Ql]
  ·exact absurd h2 id
theorem all_run(l:List Tm)(n:Nat)(Y:Vi)(F:Nat->Prop)(st:St)(sl:AV)(xs:List (List AV))(hsl:SlR F st sl xs)(hrs:Vy F st l xs)(hn:Tm.fzL l+l.length+2 < n):R n Y 212 [sl] st=.ret (.bool (l.all rIs)) st:=by
 obtain⟨m,rfl⟩:∃ m,n=m+1:=⟨n - 1,by omega⟩
 have b00:Nat.beq 0 0=true:=rfl
 have hxl:=hrs.len
 have hlen:=hsl.len st
 obtain⟨fA14,hA14⟩:∃ fA,fA=Vo 0 [sl] Fr.nil:=⟨_,rfl⟩
 have gA14_0:=gAt hA14 0
 have dA14:fA14.ds=[]:=by rw[hA14];rfl
 obtain⟨J15,H15,O15_2⟩:∃ fr',ar m Y [ZM 2 (ZB false)] fA14 st=.ok fr' st/\fr'.get 2=some (.bool false):=⟨_,by simp only[amE,rQ,↓reduceIte,rA]<;>rfl,gh⟩
 have V15_0:=ag H15 gA14_0
 have W15:=ad H15 dA14
 obtain⟨J16,H16,O16_3⟩:∃ fr',ar m Y [ZM 3 (ZC 0)] J15 st=.ok fr' st/\fr'.get 3=some Z0:=⟨_,by simp only[amE,rQ,↓reduceIte,rA]<;>rfl,gh⟩
 have V16_0:=ag H16 V15_0
 have W16:=ad H16 W15
 have hC:∀ k fr s,k<=xs.length->Kp [0] J16 fr->fr.get 3=some (ZI k)->(s=st/\(l.drop k).all rIs=l.all rIs) ->
   ∃ fr',ar m Y cf167_0 fr s=.ok fr' s/\Kp [3,0] fr fr'/\fr'.get 7=some (.bool (decide (k < xs.length)))/\(s=st/\(l.drop k).all rIs=l.all rIs):=by
  intro k fr s hk hkp gi ⟨hst,hq⟩
  subst hst
  have q0:=hkp.at (k:=0) (by decide) V16_0
  refine⟨?c0,?c1,?c2,?c3,rfl,hq⟩
  case c1=>
   simp only[amE,rQ,↓reduceIte,rA,cf167_0,q0,gi,hlen,lssD]
   rfl
  case c2=>repeat (first | exact Kp.refl | refine Kp.set (by decide) ?_)
  case c3=>simp only[Fr.get_set,rQ,↓reduceIte]
 have hB:∀ k fr s,k < xs.length->Kp [0] J16 fr->fr.get 3=some (ZI k)->(s=st/\(l.drop k).all rIs=l.all rIs) ->
   (∃ FR s',ac m Y US none fr s=.norm FR s'/\Kp [3,0] fr FR/\(s'=st/\(l.drop (k+1)).all rIs=l.all rIs)) ∨
   (∃ FR s',ac m Y US none fr s=.ret FR s'/\(s'=st/\FR.ds=[]/\FR.get 2=some (.bool false)/\l.all rIs=false)):=by
  intro k fr s hk hkp gi ⟨hst,hq⟩
  subst hst
  obtain⟨t,ht,hdr⟩:=WR (l:=l) (k:=k) (by omega)
  obtain⟨x,hx,hrx⟩:=hrs.at ht
  obtain⟨p,ia,ld⟩:=hsl.at hx
  have ld:=ld s (Vs.refl _ _)
  have hfz:=Tm.fzL_mem (Qr ht)
  have hcall:((gT m).cg Y).fn 154 [.agg x] s=.ret (.bool (rIs t)) s:=is_run t m Y F s x hrx (by omega)
  have q0:=hkp.at (k:=0) (by decide) V16_0
  rw[hdr,QN] at hq
  generalize rIs t=ok at *
  obtain⟨J17,H17,K17,O17_15⟩:∃ fr',ar m Y g167_0 fr s=.ok fr' s/\Kp [0,3] fr fr'/\fr'.get 15=some (.bool (!ok)):=⟨_,by simp only[amE,rQ,↓reduceIte,rA,q0,gi,g167_0,ia,ld,hcall,unN,Qc,Qb]<;>rfl,Kp.refl.s.s.s.s.s.s,gh⟩
  cases ok with
  | true=>
   refine .inl ⟨J17,s,?q17,K17.sub (by decide),rfl,by simpa using hq⟩
   case q17=>simp only[amE,rQ,↓reduceIte,rA,US,H17,O17_15,Qc]
  | false=>
   obtain⟨J18,H18,O18_2⟩:∃ fr',ar m Y [ZM 2 (ZB false)] J17 s=.ok fr' s/\fr'.get 2=some (.bool false):=⟨_,by simp only[amE,rQ,↓reduceIte,rA]<;>rfl,gh⟩
   refine .inr ⟨J18,s,?q18,rfl,ad H18 (K17.1.trans (hkp.1.trans W16)),O18_2,by rw[<-hq];rfl⟩
   case q18=>simp only[amE,rQ,↓reduceIte,rA,US,H17,H18,O17_15,Qb]
 rcases U4 (Γ:=(gT m)) (Y:=Y) (m:=m) (N:=xs.length) (c:=7) (i:=3) (j1:=8) (j2:=9) (b:=0) (b1:=1) (ro:=none) (C:=cf167_0) (B:=US) (L:=[0]) (fr0:=J16) (by decide) (by decide) (by decide) hsl.2.1
  (Q:=fun k _ s=>s=st/\(l.drop k).all rIs=l.all rIs) (fun _ _ _ _ _ _ h=>h) hC hB xs.length 0 J16 st m (by omega) (by omega) Kp.refl O16_3 ⟨rfl,rfl⟩
  with⟨FR,s',h1,h2,h3,h4⟩|⟨FR,s',h1,h2,h3,h4,h5⟩
 ·subst h3
  rw[hxl,Xr,QW] at h4
  rw[<-h4]
  refine Ve (mf:=kf167) (fr:=FR.set 2 (some (.bool true))) t212 rfl (.inl ?w1) (h2.1.trans W16) ?w2
  case w1=>
   rw[<-hA14]
   simp only[amE,rQ,↓reduceIte,rA,kf167,b00,H15,H16,h1]
  case w2=>simp only[kf167,Vg,Vu,V0,Fr.get_set,↓reduceIte,Qg,Ql]
 ·subst h2
  rw[h5]
  refine Ve (mf:=kf167) (fr:=FR) t212 rfl (.inl ?w3) h3 (by simp only[kf167,Vg,Vu,V0,h4,Qg,Ql])
  case w3=>
   rw[<-hA14]
   simp only[amE,rQ,↓reduceIte,rA,kf167,b00,H15,H16,h1]
theorem rIs_size{t:Tm}(h:rIs t=true):t.size<=2000:=by
 unfold rIs at h
 simp only[Qd] at h
 have:=((rcT_spec t 2000 1 (by omega) (by omega) (by omega) (by omega)).1.1 h.1).1
 omega
theorem vars1_run(t:Tm)(n:Nat)(Y:Vi)(F:Nat->Prop)(st:St)(cs:List AV)(hr:We F st t cs)(hF:∀ i,F i->i < st.next)(hi:rIs t=true)(hn:t.fz+4000 < n):
  ∃ sl' st',R n Y 155 [.lst 1 cs true] st=.ret sl' st'/\Vd st st'/\Ir st.next st' sl' (vL [t] []):=by
 obtain⟨m,rfl⟩:∃ m,n=m+1:=⟨n - 1,by omega⟩
 have b00:Nat.beq 0 0=true:=rfl
 have hsz:=rIs_size hi
 have hsl:SlR F st (.lst 1 cs true) [cs]:=by
  have:=SlR.lst F st (n:=1) (xs:=[cs]) (ex:=true) (fun x hx=>by simp only[Xd] at hx;subst hx;exact hr.cells3) (by simp) rfl
  simpa using this
 have hrs:Vy F st [t] [cs]:=by simp only[Vy];exact⟨_,_,rfl,hr,rfl⟩
 have hz:Tm.fzL [t]=t.fz:=by simp[Tm.fzL]
 have call:((gT m).cg Y).fn 212 [.lst 1 cs true] st=.ret (.bool true) st:=by
  have:=all_run [t] m Y F st (.lst 1 cs true) [cs] hsl hrs (by rw[hz];simp;omega)
  simp only[QN,hi,QW,Qy] at this
  exact this
 obtain⟨sv,s1,cv,hnx,hsm,hir⟩:=vars_run t m Y F st.next st cs (.lst 0 [] true) [] hr hF (Qw _) (.inl ⟨rfl,rfl⟩) (by simp;omega) (by simp;omega) (by omega)
 have cv':((gT m).cg Y).fn 213 [.agg cs,.lst 0 [] true] st=.ret sv s1:=cv
 have fl:VN [] []=some []:=rfl
 obtain⟨p,ia,ld⟩:=hsl.at (k:=0) (x:=cs) rfl
 have ld:=ld st (Vs.refl _ _)
 have ln:∀ s:St,(bif VD 0 (.lst 1 cs true) then Wm s (.lst 1 cs true) else none)=some (ZI 1):=fun _=>rfl
 generalize (AV.lst 1 cs true)=sl at *
 obtain⟨fA19,hA19⟩:∃ fA,fA=Vo 0 [sl] Fr.nil:=⟨_,rfl⟩
 have gA19_0:=gAt hA19 0
 have dA19:fA19.ds=[]:=by rw[hA19];rfl
 obtain⟨J20,H20,O20_2⟩:∃ fr',ar m Y [ZM 2 (.c .nilsl)] fA19 st=.ok fr' st/\fr'.get 2=some (.nilsl):=⟨_,by simp only[amE,rQ,↓reduceIte,rA]<;>rfl,gh⟩
 have V20_0:=ag H20 gA19_0
 have W20:=ad H20 dA19
 obtain⟨J21,H21,O21_3⟩:∃ fr',ar m Y [ZO 5 (.bslice 0 [] []),ZV 3 5] J20 st=.ok fr' st/\fr'.get 3=some (.lst 0 [] true):=⟨_,by simp only[amE,rQ,↓reduceIte,rA,fl]<;>rfl,gh⟩
 have V21_0:=ag H21 V20_0
 have W21:=ad H21 W20
 obtain⟨J22,H22,O22_8⟩:∃ fr',ar m Y g141_3 J21 st=.ok fr' st/\fr'.get 8=some (.bool false):=⟨_,by simp only[amE,rQ,↓reduceIte,rA,V21_0,g141_3,call,unN,Qc,Qb]<;>rfl,by simp only[Fr.get_set,rQ,↓reduceIte,amB]⟩
 have V22_0:=ag H22 V21_0
 have V22_3:=ag H22 O21_3
 have W22:=ad H22 W21
 obtain⟨J23,H23,O23_4⟩:∃ fr',ar m Y [ZM 4 (ZC 0)] J22 st=.ok fr' st/\fr'.get 4=some Z0:=⟨_,by simp only[amE,rQ,↓reduceIte,rA]<;>rfl,gh⟩
 have V23_0:=ag H23 V22_0
 have V23_3:=ag H23 V22_3
 have W23:=ad H23 W22
 have hC:∀ k fr s,k<=1->Kp [0] J23 fr->fr.get 4=some (ZI k)->((k=0->s=st/\fr.get 3=some (.lst 0 [] true))/\(k=1->s=s1/\fr.get 3=some sv)) ->
   ∃ fr',ar m Y cf141_0 fr s=.ok fr' s/\Kp [4,0] fr fr'/\fr'.get 13=some (.bool (decide (k < 1)))/\((k=0->s=st/\fr'.get 3=some (.lst 0 [] true))/\(k=1->s=s1/\fr'.get 3=some sv)):=by
  intro k fr s hk hkp gi ⟨hq0,hq1⟩
  have q0:=hkp.at (k:=0) (by decide) V23_0
  have ln:=ln s
  refine⟨?c0,?c1,?c2,?c3,fun h=>⟨(hq0 h).1,?c4⟩,fun h=>⟨(hq1 h).1,?c5⟩⟩
  case c1=>
   simp only[amE,rQ,↓reduceIte,rA,cf141_0,q0,gi,ln,lssD]
   rfl
  case c2=>repeat (first | exact Kp.refl | refine Kp.set (by decide) ?_)
  case c3=>simp only[Fr.get_set,rQ,↓reduceIte]
  case c4=>simp only[Fr.get_set,rQ,↓reduceIte,(hq0 h).2]
  case c5=>simp only[Fr.get_set,rQ,↓reduceIte,(hq1 h).2]
 have hB:∀ k fr s,k < 1->Kp [0] J23 fr->fr.get 4=some (ZI k)->((k=0->s=st/\fr.get 3=some (.lst 0 [] true))/\(k=1->s=s1/\fr.get 3=some sv)) ->
   (∃ FR s',ac m Y bf141_0 none fr s=.norm FR s'/\Kp [4,0] fr FR/\((k+1=0->s'=st/\FR.get 3=some (.lst 0 [] true))/\(k+1=1->s'=s1/\FR.get 3=some sv))) ∨
   (∃ FR s',ac m Y bf141_0 none fr s=.ret FR s'/\False):=by
  intro k fr s hk hkp gi ⟨hq0,hq1⟩
  obtain rfl:k=0:=by omega
  obtain⟨rfl,q3⟩:=hq0 rfl
  have q0:=hkp.at (k:=0) (by decide) V23_0
  obtain⟨J24,H24,K24,O24_3⟩:∃ fr',ar m Y g141_0 fr s=.ok fr' s1/\Kp [0,4] fr fr'/\fr'.get 3=some (sv):=⟨_,by simp only[amE,rQ,↓reduceIte,rA,q0,q3,gi,g141_0,ia,ld,cv']<;>rfl,Kp.refl.s.s.s.s.s.s.s,gh⟩
  refine .inl ⟨J24,s1,?q24,K24.sub (by decide),fun h=>(by omega),fun _=>⟨rfl,O24_3⟩⟩
  case q24=>simp only[amE,rQ,↓reduceIte,rA,bf141_0,H24]
 rcases U4 (Γ:=(gT m)) (Y:=Y) (m:=m) (N:=1) (c:=13) (i:=4) (j1:=14) (j2:=15) (b:=0) (b1:=1) (ro:=none) (C:=cf141_0) (B:=bf141_0) (L:=[0]) (fr0:=J23) (by decide) (by decide) (by decide) (by decide)
  (Q:=fun k fr s=>(k=0->s=st/\fr.get 3=some (.lst 0 [] true))/\(k=1->s=s1/\fr.get 3=some sv)) (fun k fr s x v hx ⟨h1,h2⟩=>⟨fun h=>⟨(h1 h).1,by rw[Fr.get_set,Qe (by omega)];exact(h1 h).2⟩,fun h=>⟨(h2 h).1,by rw[Fr.get_set,Qe (by omega)];exact(h2 h).2⟩⟩) hC hB 1 0 J23 st m (by omega) (by omega) Kp.refl O23_4 ⟨fun _=>⟨rfl,V23_3⟩,fun h=>(by cases h)⟩
  with⟨FR,s',h1,h2,-,h4⟩|⟨FR,s',h1,h2⟩
 ·obtain⟨rfl,h4⟩:=h4 rfl
  refine⟨sv,s',Ve (mf:=kf141) (fr:=(FR.set 22 (some sv)).set 2 (some sv)) t155 rfl (.inl ?w1) (h2.1.trans W23) ?w2,⟨hnx,hsm⟩,by rw[Tf,vL_nil];exact hir⟩
  case w1=>
   rw[<-hA19]
   simp only[amE,rQ,↓reduceIte,rA,kf141,b00,H20,H21,H22,H23,O22_8,h1,h4]
  case w2=>simp only[kf141,Vg,Vu,V0,Fr.get_set,↓reduceIte,Qg,Ql]
 ·exact absurd h2 id
theorem rGround_run(t:Tm)(n:Nat)(Y:Vi)(F:Nat->Prop)(st:St)(cs:List AV)(hr:We F st t cs)(hF:∀ i,F i->i < st.next)(hn:t.fz+4001 < n):∃ st',R n Y 105 [.agg cs] st=.ret (.bool (gr t)) st'/\Vd st st':=by
 obtain⟨m,rfl⟩:∃ m,n=m+1:=⟨n - 1,by omega⟩
 have b00:Nat.beq 0 0=true:=rfl
 have c1:((gT m).cg Y).fn 154 [.agg cs] st=.ret (.bool (rIs t)) st:=is_run t m Y F st cs hr (by omega)
 have hv:rIs t=true->∃ sl' st',R m Y 155 [.lst 1 cs true] st=.ret sl' st'/\Vd st st'/\Ir st.next st' sl' (vL [t] []):=fun h=>vars1_run t m Y F st cs hr hF h (by omega)
 have hc3:=hr.cells3
 obtain⟨a,b,c,rfl⟩:∃ a b c,cs=[a,b,c]:=by
  match cs,hc3.1 with
  | [a,b,c],_=>exact⟨a,b,c,rfl⟩
 have fl:VN [ZI 0,ZI 0,.nilsl] [(0,3,.agg [a,b,c])]=some [a,b,c]:=rfl
 rw[<-rGround_eq]
 have hres:rGround t=(rIs t&&decide ((vL [t] []).length=0)):=rfl
 rw[hres]
 generalize rIs t=B at *
 obtain⟨fA25,hA25⟩:∃ fA,fA=Vo 0 [.agg [a,b,c]] Fr.nil:=⟨_,rfl⟩
 have gA25_0:=gAt hA25 0
 have dA25:fA25.ds=[]:=by rw[hA25];rfl
 obtain⟨J26,H26,O26_1⟩:∃ fr',ar m Y [ZO 1 (.box true (.t 0)),ZM 2 (ZB false)] fA25 st=.ok fr' st/\fr'.get 1=some (.fptr [a,b,c] 0):=⟨_,by simp only[amE,rQ,↓reduceIte,rA,gA25_0]<;>rfl,gn gh⟩
 have W26:=ad H26 dA25
 cases B with
 | false=>
  obtain⟨J27,H27,O27_2⟩:∃ fr',ar m Y g116_1 J26 st=.ok fr' st/\fr'.get 2=some (.bool false):=⟨_,by simp only[amE,rQ,↓reduceIte,rA,O26_1,g116_1,JZ,c1,Qc,Qb]<;>rfl,gh⟩
  have W27:=ad H27 W26
  refine⟨st,Ve (mf:=kf116) (fr:=J27) t105 rfl (.inl ?q27) W27 (by simp only[kf116,Vg,Vu,V0,O27_2,Qg,Ql,Q8]),Vd.refl st⟩
  case q27=>
   rw[<-hA25]
   simp only[amE,rQ,↓reduceIte,rA,kf116,H26,H27]
 | true=>
  obtain⟨sv,s1,cv,kv,hir⟩:=hv rfl
  have cv':((gT m).cg Y).fn 155 [.lst 1 [a,b,c] true] st=.ret sv s1:=cv
  have ln:=hir.len s1
  have eq0:Vr false .eql (ZI ((vL [t] []).length)) Z0=some (.bool (decide ((vL [t] []).length=0))):=by
   show some (AV.bool (Int.ofNat (vL [t] []).length==Int.ofNat 0))=_
   congr 2
   by_cases h:(vL [t] []).length=0
   ·rw[h];rfl
   ·rw[Qp h];simp;exact fun e=>h (by rw[e];rfl)
  obtain⟨J28,H28,O28_2⟩:∃ fr',ar m Y g116_1 J26 st=.ok fr' s1/\fr'.get 2=some (.bool (decide ((vL [t] []).length=0))):=⟨_,by simp only[amE,rQ,↓reduceIte,rA,O26_1,g116_1,JZ,c1,fl,cv',ln,eq0,Qc,Qb]<;>rfl,gh⟩
  have W28:=ad H28 W26
  refine⟨s1,Ve (mf:=kf116) (fr:=J28) t105 rfl (.inl ?q28) W28 (by simp only[kf116,Vg,Vu,V0,O28_2,Qg,Ql,Q3]),kv⟩
  case q28=>
   rw[<-hA25]
   simp only[amE,rQ,↓reduceIte,rA,kf116,H26,H28]
end
noncomputable section
open Nat renaming reduceEqDiff -> rQ, reduceAdd -> rA
theorem Sy(n:Int):TO n n=true:=by cases n<;>exact QD _
theorem bb_refl(b:Bool):(bif b then b else !b)=true:=by cases b<;>rfl
theorem SJ:∀{a b:List AV},VG a a=true->VG b b=true->VG (a++b) (a++b)=true
 | [],b,_,h=>h
 | x::a,b,h,k=>by
  simp only[VG,Qd,QP] at h ⊢
  exact⟨h.1,SJ h.2 k⟩
theorem SlR.beq{F:Nat->Prop}{st:St}{sl:AV}{xs:List (List AV)}(h:SlR F st sl xs)(hx:VG xs.flatten xs.flatten=true):V8 sl sl=true:=by
 rcases h.2.2 with⟨rfl,_⟩|⟨ex,rfl⟩|⟨id,cap,lo,rfl,_⟩
 ·rfl
 ·simp only[V8,QD,bb_refl,hx,Qy]
 ·cases cap<;>simp only[V8,QD,onBeq,Qy]
mutual
theorem We.beq{F:Nat->Prop}{st:St}:∀(t:Tm) (cs:List AV),We F st t cs->VG cs cs=true
 | .mk k n nl ex l,cs,h=>by
  simp only[We] at h
  obtain⟨sl,xs,rfl,h2,h3⟩:=h
  simp only[VG,V8,Sy,h2.beq (Vy.beq l xs h3),Z3,Qy]
theorem Vy.beq{F:Nat->Prop}{st:St}:∀(l:List Tm) (xs:List (List AV)),Vy F st l xs->VG xs.flatten xs.flatten=true
 | [],xs,h=>by simp only[Vy] at h;subst h;rfl
 | t::l,xs,h=>by
  simp only[Vy] at h
  obtain⟨x,ys,rfl,h2,h3⟩:=h
  rw[Xc];exact SJ (We.beq t x h2) (Vy.beq l ys h3)
end
mutual
theorem VU.beq{F:Nat->Prop}{st:St}:∀(t:Dv) (cs:List AV),VU F st t cs->VG cs cs=true
 | .mk r nv ev vs nl ex l,cs,h=>by
  simp only[VU] at h
  obtain⟨s1,x1,s2,x2,rfl,h2,h3,h4,h5⟩:=h
  simp only[VG,V8,Sy,h2.beq (Vy.beq vs x1 h3),h4.beq (VI.beq l x2 h5),Z3,Qy]
theorem VI.beq{F:Nat->Prop}{st:St}:∀(l:List Dv) (xs:List (List AV)),VI F st l xs->VG xs.flatten xs.flatten=true
 | [],xs,h=>by simp only[VI] at h;subst h;rfl
 | t::l,xs,h=>by
  simp only[VI] at h
  obtain⟨x,ys,rfl,h2,h3⟩:=h
  rw[Xc];exact SJ (VU.beq t x h2) (VI.beq l ys h3)
end
def Wy_(P:Nat->Prop)(s:St)(sl:AV)(w:Nat):Prop:=(sl=.nilsl/\w=0)\/∃ id cs,sl=.own id 0 w 1 none w/\P id/\s.get id=some (.row cs)/\cs.length=w/\1<=w/\cs.all AV.one=true
theorem Wy_.mono{P P':Nat->Prop}{s s':St}{sl:AV}{w:Nat}(h:Wy_ P s sl w)(k:Vs P s s')(hP:∀ i,P i->P' i):Wy_ P' s' sl w:=by
 rcases h with h|⟨id,cs,h1,h2,h3,h4⟩
 ·exact .inl h
 ·exact .inr ⟨id,cs,h1,hP _ h2,k.get h2 h3,h4⟩
theorem Wy_.len{P:Nat->Prop}{s:St}{sl:AV}{w:Nat}(h:Wy_ P s sl w)(s':St):(bif VD 0 sl then Wm s' sl else none)=some (ZI w):=by
 rcases h with⟨rfl,rfl⟩|⟨id,cs,rfl,_⟩<;>rfl
def Out(P:Nat->Prop)(o:Nat)(s:St)(sl:AV)(c:Nat):Prop:=(sl=.nilsl/\c=0)\/∃ id cs,sl=.own id 0 c 1 none c/\id < s.next/\s.get id=some (.row cs)/\cs.length=c/\¬ P id/\id≠o
theorem Out.one{P:Nat->Prop}{o:Nat}{s:St}{sl:AV}{c:Nat}(h:Out P o s sl c):AV.one sl=true:=by
 rcases h with⟨rfl,_⟩|⟨id,cs,rfl,_⟩<;>rfl
theorem Out.beq{P:Nat->Prop}{o:Nat}{s:St}{sl:AV}{c:Nat}(h:Out P o s sl c):V8 sl sl=true:=by
 rcases h with⟨rfl,_⟩|⟨id,cs,rfl,_⟩
 ·rfl
 ·simp only[V8,QD,onBeq,Qy]
theorem Out.len{P:Nat->Prop}{o:Nat}{s:St}{sl:AV}{c:Nat}(h:Out P o s sl c)(s':St):(bif VD 0 sl then Wm s' sl else none)=some (ZI c):=by
 rcases h with⟨rfl,rfl⟩|⟨id,cs,rfl,_⟩<;>rfl
theorem Out.keep{P P':Nat->Prop}{o:Nat}{s s':St}{sl:AV}{c:Nat}(h:Out P o s sl c)(k:Vd s s')(hP:∀ i,P' i->P i\/s.next<=i):Out P' o s' sl c:=by
 rcases h with h|⟨id,cs,h1,h2,h3,h4,h5,h6⟩
 ·exact .inl h
 ·exact .inr ⟨id,cs,h1,Qz h2 k.1,k.get h2 h3,h4,fun hp=>(hP id hp).elim h5 (fun h=>by omega),h6⟩
theorem Out.sub{P P':Nat->Prop}{o:Nat}{s:St}{sl:AV}{c:Nat}(h:Out P o s sl c)(hP:∀ i,P' i->P i):Out P' o s sl c:=by
 rcases h with h|⟨id,cs,h1,h2,h3,h4,h5,h6⟩
 ·exact .inl h
 ·exact .inr ⟨id,cs,h1,h2,h3,h4,fun hp=>h5 (hP id hp),h6⟩
theorem Out.app{P:Nat->Prop}{o:Nat}{s s2:St}{sl v:AV}{c:Nat}(h:Out P o s sl c)(k:Vd s s2)(hP:∀ i,P i->i < s.next)(ho:o < s.next)(hv:AV.one v=true)(hc:c<=100000):
  ∃ sl' s3,VX 24 1 s2 sl 1 [v]=some (sl',s3)/\s3.next=s2.next+1/\Vs P s s3/\s3.get o=s.get o/\Out P o s3 sl' (c+1):=by
 have hk:=k.1
 have hnP:¬ P s2.next:=fun h=>by have:=hP _ h;omega
 rcases h with⟨rfl,rfl⟩|⟨id,cs,rfl,hid,hg,hcl,hnp,hno⟩
 ·refine⟨.own s2.next 0 1 1 none 1,s2.new (.row [v]),rfl,rfl,fun i hi=>?_,?_,.inr ⟨s2.next,[v],rfl,by simp,by rw[St.get_new,Qm rfl],rfl,hnP,by omega⟩⟩
  ·have:=hP i hi
   rw[St.get_new,Qe (by omega),k.2 i this]
  ·rw[St.get_new,Qe (by omega),k.2 o ho]
 ·have hg2:=k.get hid hg
  refine⟨.own s2.next 0 (c+1) 1 none (c+1),(s2.del id).new (.row (cs++[v])),?_,rfl,fun i hi=>?_,?_,.inr ⟨s2.next,cs++[v],rfl,by simp[St.del,St.new],?_,by simp[hcl],hnP,by omega⟩⟩
  ·have h0:Nat.beq 1 0=false:=rfl
   have h1:((c+1)*24).ble 140737488355328=true:=Qo (by omega)
   have h2:(c+1).ble 140737488355328=true:=Qo (by omega)
   have h3:(0+c*1).ble cs.length=true:=Qo (by omega)
   have h4:KY (c+1) c none=none:=by
    have:(c+1).ble c=false:=by
     cases hc:(c+1).ble c with
     | false=>rfl
     | true=>have:=Qk hc;omega
    simp only[KY,this];rfl
   have h5:(c*1).beq cs.length=true:=by rw[hcl,XP];exact QD _
   have h6:[v].all AV.one=true:=by show (AV.one v&&true)=true;rw[hv];rfl
   unfold VX
   simp only[h0,Qq,hg2,h1,h2,h3,h4,h5,h6];rfl
  ·have:=hP i hi
   have hne:i≠id:=fun e=>hnp (e ▸ hi)
   rw[St.get_new,Qe (by simp only[St.next_del];omega),St.get_del,Qe hne,k.2 i this]
  ·rw[St.get_new,Qe (by simp only[St.next_del];omega),St.get_del,Qe (fun e=>hno e.symm),k.2 o ho]
  ·have:(s2.del id).next=s2.next:=rfl
   rw[<-this,St.get_new,Qm rfl]
theorem Wy_.app{P:Nat->Prop}{s:St}{sl:AV}{w:Nat}(h:Wy_ P s sl w)(k:Int)(hw:w<=100000):
  ∃ sl1 sl2 s2,Ys 1 sl none (some (ZI w)) (some (ZI w))=some sl1/\VX 8 1 s sl1 1 [.int .i64 k]=some (sl2,s2)/\Vd s s2/\s2.next=s.next+1/\Wy_ (fun i=>i=s.next) s2 sl2 (w+1):=by
 rcases h with⟨rfl,rfl⟩|⟨id,cs,rfl,hp,hg,hcl,hw1,hone⟩
 ·exact⟨.nilsl,.own s.next 0 1 1 none 1,s.new (.row [.int .i64 k]),rfl,rfl,Vd.new _ _,rfl,.inr ⟨s.next,[.int .i64 k],rfl,rfl,by rw[St.get_new,Qm rfl],rfl,by omega,rfl⟩⟩
 ·refine⟨.own id 0 w 1 (some w) 0,.own s.next 0 (w+1) 1 none (w+1),s.new (.row (cs++[.int .i64 k])),?_,?_,Vd.new _ _,rfl,.inr ⟨s.next,cs++[.int .i64 k],rfl,rfl,by rw[St.get_new,Qm rfl],by simp[hcl],by omega,by simp[hone,AV.one]⟩⟩
  ·have h1:w.ble w=true:=Qo (Qw w)
   have h0:Nat.ble 0 w=true:=Qo (X3 w)
   show TF 1 (.own id 0 w 1 none w) none (some w) (some w)=_
   simp only[TF,hiOk,QU,X5,Q9,h1,h0,Option.isSome_some,Nat.zero_mul,Nat.sub_zero]
   rfl
  ·have h0:Nat.beq 1 0=false:=rfl
   have h1:((w+1)*8).ble 140737488355328=true:=Qo (by omega)
   have h2:(w+1).ble 140737488355328=true:=Qo (by omega)
   have h3:(0+w*1).ble cs.length=true:=Qo (by omega)
   have h4:KY (w+1) 0 (some w)=some false:=by
    have:(w+1).ble w=false:=by
     cases hc:(w+1).ble w with
     | false=>rfl
     | true=>have:=Qk hc;omega
    simp only[KY,this]
   have h6:[AV.int .i64 k].all AV.one=true:=rfl
   have h7:(cs.drop 0).take (w*1)=cs:=by rw[Xw,Xx (by omega)]
   unfold VX
   simp only[h0,Qq,hg,h1,h2,h3,h4,h6,h7];rfl
end
end Go.AM.D32
