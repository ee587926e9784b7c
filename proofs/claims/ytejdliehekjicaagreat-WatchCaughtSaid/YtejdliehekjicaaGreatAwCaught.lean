import Derived.Test.YtejdliehekjicaaGreatAwRunY
import Derived.Test.YtejdliehekjicaaGreatAwWz6
set_option maxRecDepth 100000
namespace Go.AM.D32
open Go Go.AM
theorem t14:Ry 14=none:=by kernel_rfl
theorem ins14(m:Nat):Ins14 m:=by
 intro s id v n k cs xs h1 h2 h3 h4 h5 h6 h7 h8 h9 h10
 have hR:∀ q:Nat,R (q+1) Y0 14 [.own id 0 n 9 none n,.int .i64 (.ofNat k),.own v 0 1 9 (some 1) 0] s=Pk [.own id 0 n 9 none n,.int .i64 (.ofNat k),.own v 0 1 9 (some 1) 0] s:=fun q=>by
  unfold R
  simp only[Ji,t14]
  rfl
 rw[show m+6=(m+5)+1 from rfl,hR]
 unfold Pk
 have e1:Nat.beq 50 Pe=true:=rfl
 have e2:Nat.beq id v=false:=by
  cases h:Nat.beq id v with
  | false=>rfl
  | true=>exact absurd (Qj h) h4
 have e3:Nat.beq cs.length (n*9)=true:=by rw[h5];exact QD _
 have e4:Nat.beq xs.length 9=true:=by rw[h6];rfl
 simp only[h1,h2,h3,e1,e2,e3,e4,h7,h8,QD,Qo (show k+1<=n from h9),Qo h10,Qb,Bool.and_self,Qi]
open Classical in
theorem watchCaught_calls{lv pv jv:AV}{ls:List (List AV)}{ps:List Int}{N:Int}{js:List (AV × List En)}(hl:RB 1 (fun _=>False) L0 lv ls)(hp:RE (fun _=>False) L0 pv ps)(hj:YQ (fun _=>False) L0 jv js)
  {E:Env} {w:World} {vs:Array Value} (hg:JI Go.Proofs.Tryz.prog E w) (hv:R2 E w [.agg [lv,pv,.int .i64 N],jv] vs.toList) (hs:Sat E L0 w):
  ∃ af,Calls Go.Proofs.Tryz.prog 4 vs w (YO E w (.bool true) af):=by
 obtain⟨stS,h6⟩:=sane_calls
 obtain⟨n,hn⟩:∃ n,n=2*fzJ js+ps.length+60000:=⟨_,rfl⟩
 have hG:=withSane_sound (SK tbl_ok hand_ok n) h6
 obtain⟨fn,pol,h1,h2⟩:=tbl_ok 4 wf4 t4
 have dU:∀ s s':St,Vs (fun _=>False) s s':=fun _ _ _ h=>h.elim
 obtain⟨af,hr⟩:=caught_run (Γ:=withSane (Yt Ry Pb n) stS) (n:=n) (DF:=fun _ _ _ _=>none) (st:=L0) (stS:=stS)
  (by show (if 6=6/\[]=[]/\L0=L0 then _ else _)=_;rw[Qm ⟨rfl,rfl,rfl⟩])
  (fun f args s hf=>withSane_fn hf) (fun m _=>ins14 m) (hl.mono (dU _ stS) fun _ h=>h) (hp.mono (dU _ stS) fun _ h=>h) (hj.mono (dU _ stS) fun _ h=>h) (N:=N) (by omega)
 exact⟨af,((abody_sound (n:=n) hG h1 h2 (Y0_sound hg) (fun _ _ _ _ _ _ _ _ _ _ _ _ _ _ h=>by cases h) hv hs).1 _ _ hr).2⟩
end Go.AM.D32
