import Derived.Test.YtejdliehekjicaaGreatAwFast2
import Derived.Test.YtejdliehekjicaaGreatAwS0
import Derived.Test.YtejdliehekjicaaGreatAwS1
import Derived.Test.YtejdliehekjicaaGreatAwS2
import Derived.Test.YtejdliehekjicaaGreatAwS3
import Derived.Test.YtejdliehekjicaaGreatAwS4
import Derived.Test.YtejdliehekjicaaGreatAwS5
import Derived.Test.YtejdliehekjicaaGreatAwS6
namespace Go.AM.D32
open Go Go.AM
theorem sane_ev:∃ aJ ai af,(Ev (Yt tbl2 hnd2 60) 60 (Wi m6.code 0) F0 L0 (.norm aJ ai)\/Ev (Yt tbl2 hnd2 60) 60 (Wi m6.code 0) F0 L0 (.ret aJ ai))/\aJ.ds=[]/\Vg aJ ai m6.res=.ret (.bool true) af:=by
 obtain⟨aJ,ai,af,bP,dR,hr⟩:=last_ev (lastK_of s6)
 refine⟨aJ,ai,af,?_,dR,hr⟩
 rcases bP with bP | bP
 ·exact .inl (Wz (Wl s0) (by rw[VV];exact Wz (Wl s1) (by rw[VV];exact Wz (Wl s2) (by rw[VV];exact Wz (Wl s3) (by rw[VV];exact Wz (Wl s4) (by rw[VV];exact Wz (Wl s5) (by rw[VV];exact bP)))))))
 ·exact .inr (Wz (Wl s0) (by rw[VV];exact Wz (Wl s1) (by rw[VV];exact Wz (Wl s2) (by rw[VV];exact Wz (Wl s3) (by rw[VV];exact Wz (Wl s4) (by rw[VV];exact Wz (Wl s5) (by rw[VV];exact bP)))))))
end Go.AM.D32
