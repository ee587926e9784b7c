import Derived.Test.YtejdliehekjicaaGreatAwFast2
import Derived.Test.YtejdliehekjicaaGreatAwU0
import Derived.Test.YtejdliehekjicaaGreatAwU1
import Derived.Test.YtejdliehekjicaaGreatAwU2
namespace Go.AM.D32
open Go Go.AM
theorem sub_ev:∃ aJ ai af,(Ev (Yt Ry Pb 60) 60 (Wi m21.code 0) (Vo 0 UA Fr.nil) U0 (.norm aJ ai)\/Ev (Yt Ry Pb 60) 60 (Wi m21.code 0) (Vo 0 UA Fr.nil) U0 (.ret aJ ai))/\aJ.ds=[]/\Vg aJ ai m21.res=.ret (.bool true) af/\SubSt UE af:=by
 obtain⟨aJ,ai,af,bP,dR,hr,dY⟩:=lastR_ev (lastRK_of u2)
 refine⟨aJ,ai,af,?_,dR,hr,dY⟩
 rcases bP with bP | bP
 ·exact .inl (Wz (Wl u0) (by rw[VV];exact Wz (Wl u1) (by rw[VV];exact bP)))
 ·exact .inr (Wz (Wl u0) (by rw[VV];exact Wz (Wl u1) (by rw[VV];exact bP)))
end Go.AM.D32
