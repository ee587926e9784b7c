import Derived.Test.YtejdliehekjicaaGreatAwRun
import Derived.Test.YtejdliehekjicaaGreatAwWy5
set_option maxRecDepth 100000
namespace Go.AM.D32
open Go Go.AM
open Classical in
theorem watchAsCome_calls{lv pv jv:AV}{ls:List (List AV)}{ps:List Int}{N:Int}{js:List (AV × List En)}(hl:SlN 1 (fun _=>False) L0 lv ls)(hp:SlI (fun _=>False) L0 pv ps)(hj:YQ (fun _=>False) L0 jv js)
  {E:Env} {w:World} {vs:Array Value} (hg:JI Go.Proofs.Tryz.prog E w) (hv:RvL E w [.agg [lv,pv,.int .i64 N],jv] vs.toList) (hs:Sat E L0 w):
  ∃ st',Calls Go.Proofs.Tryz.prog 5 vs w (YO E w (.bool true) st'):=by
 obtain⟨stS,h6⟩:=sane_calls
 obtain⟨n,hn⟩:∃ n,n=fzJ js+ps.length+50000:=⟨_,rfl⟩
 have hG:=withSane_sound (SK tbl_ok hand_ok n) h6
 obtain⟨fn,pol,h1,h2⟩:=tbl_ok 5 wf5 t5
 have hno:∀ s s':St,Vs (fun _=>False) s s':=fun _ _ _ h=>h.elim
 obtain⟨st',hr⟩:=come_run (Γ:=withSane (Yt tbl hnd n) stS) (n:=n) (DF:=fun _ _ _ _=>none) (st:=L0) (stS:=stS)
  (by show (if 6=6/\[]=[]/\L0=L0 then _ else _)=_;rw[Qm ⟨rfl,rfl,rfl⟩])
  (fun f args s hf=>withSane_fn hf) (hl.mono (hno _ stS) fun _ h=>h) (hp.mono (hno _ stS) fun _ h=>h) (hj.mono (hno _ stS) fun _ h=>h) (N:=N) (by omega)
 exact⟨st',((abody_sound (n:=n) hG h1 h2 (Y0_sound hg) (fun _ _ _ _ _ _ _ _ _ _ _ _ _ _ h=>by cases h) hv hs).1 _ _ hr).2⟩
end Go.AM.D32
