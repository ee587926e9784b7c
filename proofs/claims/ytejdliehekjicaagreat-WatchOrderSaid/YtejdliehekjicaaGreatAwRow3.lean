/- Proved: madrigallaw32.WatchOrder returns true for every input, and each argument reads behind the call as it read before. Conditions: none beyond the given row's own cells. -/
import Derived.Test.YtejdliehekjicaaGreatAwOrder
import Derived.Test.YtejdliehekjicaaGreatAwIn
import Derived.Test.YtejdliehekjicaaGreatAwRowF3
import Derived.Test.YtejdliehekjicaaGreatAwRowG3
import Derived.Test.YtejdliehekjicaaGreatRows
import Derived.ProofKit
import Derived.LaidLaws
import Derived.LaidMore
import Derived.Lay
import Derived.MakeChecks
set_option maxRecDepth 100000
namespace Go.Proofs.YtejdliehekjicaaGreat
open Go Go.ChangeShapes Go.WideShapes Go.RowKit
theorem Tryz.own':ownKnob Tryz.prog.godebug=none:=by kernel_rfl
theorem Tryz.laidOut':laidOutB Tryz.prog=true:=by kernel_rfl
theorem Tryz.read25:Tryz.prog.readableRec 25=true:=by kernel_rfl
theorem Tryz.row25:25 < Tryz.prog.types.size:=by decide +kernel
theorem Tryz.read26:Tryz.prog.readableRec 26=true:=by kernel_rfl
theorem Tryz.row26:26 < Tryz.prog.types.size:=by decide +kernel
def env0(W:World):AM.Env:={ β:=fun _=>none,Fz:=fun b=>b < W.heap.size,Rs:=fun _=>False,lr:=fun _=>default,Dz:=fun _=>none }
theorem trNil'(n:Nat):(AM.Tr.nil:AM.Tr Nat).get n=none:=AM.Tr.getN_nil _ _
theorem sat0(W:World):AM.Sat (env0 W) AM.D32.L0 W:={
 dom:=fun _ _ h=>nomatch h
 fz:=fun _ h=>h
 obj:=fun _ _ _ _ h=>nomatch h
 sep:=fun _ _ _ _ _ _ _ _ _ h=>nomatch h
 lv:=fun _ _ _ _ _ h=>nomatch h
 rs:=fun _ h=>False.elim h
 dz:=fun _ _ h=>nomatch h
 bt:=fun id t h=>by
  have h':(AM.Tr.nil:AM.Tr Nat).get id=some t:=h
  rw[trNil'] at h';cases h'}
theorem below0{W W':World}{E':AM.Env}(h:AM.Ext (env0 W) W E' W'):Below W.heap.size W W':=⟨h.os,h.tape,h.output,h.size,fun k hk=>h.mem k hk⟩
theorem cells_sl{W:World}{base:Nat}{v:Value}(h:Value.okWide Tryz.prog W .any base 26 v):v.cells.toList=[v]:=by
 unfold Value.okWide Cell.okWide Cell.ok at h
 rw[Tryz.underlying26] at h
 cases v with
 | agg cs=>simp at h
 | _=>rfl
theorem watchOrder_lifted(os:Os)(started:os.Started)(H:Type)(enc:TypeId × Value->H):
  ReturnsInHanded {} Tryz.checked os 3 .any (fun w args=>(Rows.watchOrderSpec.pre enc Tryz.prog Tryz.f3 [] false w args/\True)/\sizedMet enc Tryz.prog Tryz.f3 (OpenSpec.ofChange Rows.watchOrderSpec) false w args)
   (Rows.watchOrderSpec.post enc Tryz.prog Tryz.f3 false true false false):=by
 refine returnsInHanded_of_change_and (C:=Tryz.checked) (X:=fun _ _=>True) (fun _ _ _ _ h=>h) Tryz.own' started (by kernel_rfl) Tryz.func3
  (ChangeSpec.witness_shaped (enc:=enc) (C:=Tryz.checked) (os:=os) (X:=fun _ _=>True) false (World.laidAll Tryz.prog os []) #[.agg #[.slice none 0 0,.slice none 0 0,.int .i64 0],.slice none 0 0] 8 (World.laidAll_os _ _ _)
   (World.shaped_of_ZipB (by kernel_rfl) (by kernel_rfl)) (by kernel_rfl) (by kernel_rfl) (by kernel_rfl) trivial) ?_
 intro W base args ds gs before hval0 hW _ hwt _ _
 have hW':=hW
 obtain⟨p,q,hA0,hV,rfl,_,_⟩:=hW
 have hA:DataW.TrodAll enc Tryz.prog W 0 (fun _=>true) true Tryz.f3.params.toList args.toList ds p:=hA0
 have hval:∀(j:Nat) t v,Tryz.f3.params[j]?=some t->args[j]?=some v->Value.okWide Tryz.prog W .any base t v:=hval0
 have hwt:(DataW.weightsEach Tryz.prog (Tryz.f3.params.toList++Rows.watchOrderSpec.plain.varTypes Tryz.prog) (ds++gs)).all (·<=reachBytes)=true:=hwt
 rw[Tryz.params3] at hA hval hwt
 have hlt:=DataW.TrodAll.lt hA
 obtain⟨v0,v1,d0,d1,p0,p1,rfl,rfl,rfl,h0,h1⟩:=trodAll_two hA
 obtain⟨rfl,rfl⟩:=trodVars_none hV
 simp only[List.append_nil] at hW'
 have w0:=AM.D32.fit_each hwt 0 25 d0 rfl rfl
 have w1:=AM.D32.fit_each hwt 1 26 d1 rfl rfl
 obtain⟨lv,pv,ls,qs,N,hl,hp,ra⟩:=AM.D32.layout_in (E:=env0 W) (fun b h=>h) h0 w0
 obtain⟨jv,js,hj,rb⟩:=AM.D32.jour_in (E:=env0 W) (fun b h=>h) (cells_sl (hval 1 26 v1 rfl rfl)) h1 w1
 obtain⟨st',hcall⟩:=AM.D32.watchOrder_calls (hl _) (hp _) (hj _) (vs:=#[v0,v1]) (N:=N) (fun _ _ _=>trivial) ⟨_,_,rfl,ra,_,_,rfl,rb,rfl⟩ (sat0 W)
 refine hcall.mono fun e W' ⟨u,E',he,hx,_,hr⟩=>?_
 have hu:u=.bool true:=hr
 subst hu;subst he
 have hb:=below0 hx
 refine⟨_,rfl,_,_,_,[],p0++p1,[],hW',trodAll_mk1 (shut_bool Tryz.underlying4 true),?_,rfl,hb.frame _,fun h=>by cases h⟩
 have k0:=Below.trod Tryz.laidOut' Tryz.read25 Tryz.row25 h0 hb (fun x hx=>hlt x (by simp[hx]))
 have k1:=Below.trod Tryz.laidOut' Tryz.read26 Tryz.row26 h1 hb (fun x hx=>hlt x (by simp[hx]))
 exact trodAll_mk2 k0 k1
theorem watchOrder_holds:Rows.WatchOrderSaid:=
 OpenClaim.holds_of_wide (p:=Tryz.pinned) (s:=Rows.watchOrderSpec) (c:=Rows.watchOrderRow) 3 Tryz.f3 rfl rfl rfl rfl rfl rfl rfl ⟨rfl,rfl,rfl,rfl,rfl⟩ rfl rfl rfl rfl rfl watchOrderGfn Tryz.func3 watchOrderClosed
  watchOrderGinst watchOrderGwrap (fun os started H enc _=>by
   have h:=watchOrder_lifted os started H enc
   simp only[and_true] at h
   exact h)
end Go.Proofs.YtejdliehekjicaaGreat
