import Derived.Test.YtejdliehekjicaaGreatAwSane
import Derived.Test.YtejdliehekjicaaGreatAwSub2
import Derived.Test.YtejdliehekjicaaGreatAwTbl2
import Derived.Test.YtejdliehekjicaaGreatAwIt7
import Derived.Test.YtejdliehekjicaaGreatAwIt8
import Derived.Test.YtejdliehekjicaaGreatAwIns9
import Derived.Test.YtejdliehekjicaaGreatAwRef
set_option maxRecDepth 100000
namespace Go.AM.D32
open Go Go.AM
theorem exts_ok:ExtOk Go.Proofs.Tryz.prog WS:=by
 intro f k h
 unfold WS at h
 cases h1:f.beq 428 with
 | true=>
  obtain rfl:=Qj h1
  rw[h1] at h;simp only[Qi,Qa] at h;subst h
  exact⟨by decide,_,Go.Proofs.Tryz.func428,by decide,rfl,by rfl,by rfl⟩
 | false=>
  rw[h1] at h
  cases h2:f.beq 441 with
  | true=>
   obtain rfl:=Qj h2
   rw[h2] at h;simp only[Qi,Qq,Qa] at h;subst h
   exact⟨by decide,_,Go.Proofs.Tryz.func441,by decide,rfl,by rfl,by rfl⟩
  | false=>rw[h2] at h;simp at h
theorem tbl_ok:TblOk Go.Proofs.Tryz.prog Ry:=fun f mf h=>by
 unfold Ry at h
 cases hb:f.beq 70||f.beq 133||f.beq 77||f.beq 14<;>rw[hb] at h
 ·exact tblC_ok _ _ f mf h
 ·cases h
theorem hand_ok:Kf Go.Proofs.Tryz.prog Pb:=handY_ok exts_ok Go.Proofs.Tryz.sortedOk Go.Proofs.Tryz.insertOk Go.Proofs.Tryz.sortFOk Go.Proofs.Tryz.insert9Ok
theorem tS6:Ry 6=some m6:=by kernel_rfl
theorem tS21:Ry 21=some m21:=by kernel_rfl
theorem tbl2_ok:TblOk Go.Proofs.Tryz.prog tbl2:=fun f mf h=>by
 unfold tbl2 at h
 cases hb:f.beq 21<;>rw[hb] at h
 ·exact tbl_ok f mf h
 ·cases h
theorem hand2_ok:Kf Go.Proofs.Tryz.prog hnd2:=handF_ok hand_ok fun E w vs hg ha hs=>Ev.callsR tbl_ok hand_ok tS21 (by decide +kernel) sub_ev E w vs hg ha hs
theorem tS62:tbl2 6=some m6:=tS6
open Classical in
noncomputable def withSane(Γ:RC)(stS:St):RC:={ Γ with call:=fun Y f args st=>if f=6/\args=[]/\st=L0 then .ret (.bool true) stS else Γ.call Y f args st }
theorem withSane_sound{Γ:RC}{stS:St}(hG:Jc Go.Proofs.Tryz.prog Γ)(h6:∀ E w vs,JI Go.Proofs.Tryz.prog E w->R2 E w [] vs.toList->Sat E L0 w->Yh Go.Proofs.Tryz.prog 6/\Calls Go.Proofs.Tryz.prog 6 vs w (YO E w (.bool true) stS)):Jc Go.Proofs.Tryz.prog (withSane Γ stS):=by
 refine⟨fun Y E w hY f args st vs ha hs=>?_,hG.ent⟩
 have h:=hG.call Y E w hY f args st vs ha hs
 unfold withSane
 simp only
 split
 ·rename_i hc
  obtain⟨rfl,rfl,rfl⟩:=hc
  refine⟨fun v af hv=>?_,fun v af hv=>by cases hv⟩
  simp only[FR.ret.injEq] at hv
  obtain⟨rfl,rfl⟩:=hv
  exact .inl (h6 E w vs (fun E' w' hx=>(hY E' w' hx).2) ha hs)
 ·exact h
theorem sane_calls:∃ stS,∀ E w vs,JI Go.Proofs.Tryz.prog E w->R2 E w [] vs.toList->Sat E L0 w->Yh Go.Proofs.Tryz.prog 6/\Calls Go.Proofs.Tryz.prog 6 vs w (YO E w (.bool true) stS):=by
 obtain⟨aJ,ai,af,bP,dR,hr⟩:=sane_ev
 exact⟨af,fun E w vs hg ha hs=>Ev.calls tbl2_ok hand2_ok tS62 hg ha hs (X3 _) bP dR hr⟩
open Classical in
theorem withSane_fn{n:Nat}{stS:St}{f:Nat}{args:List AV}{st:St}(h:f≠6):((withSane (Yt Ry Pb n) stS).cg Y0).fn f args st=R n Y0 f args st:=by
 show (if f=6/\args=[]/\st=L0 then _ else _)=_
 rw[Qe (fun e=>h e.1)]
 rfl
end Go.AM.D32
