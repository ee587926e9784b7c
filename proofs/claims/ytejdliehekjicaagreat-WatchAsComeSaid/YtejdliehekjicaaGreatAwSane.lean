import Derived.Test.YtejdliehekjicaaGreatAwFast2
import Derived.Test.YtejdliehekjicaaGreatAwS0
import Derived.Test.YtejdliehekjicaaGreatAwS1
import Derived.Test.YtejdliehekjicaaGreatAwS2
import Derived.Test.YtejdliehekjicaaGreatAwS3
import Derived.Test.YtejdliehekjicaaGreatAwS4
import Derived.Test.YtejdliehekjicaaGreatAwS5
import Derived.Test.YtejdliehekjicaaGreatAwS6
namespace Go.AM.D32
open Go Go.AM
theorem sane_ev:∃ fr1 st1 st',(Ev (Yt tbl2 hnd2 60) 60 (Wi m6.code 0) F0 L0 (.norm fr1 st1)\/Ev (Yt tbl2 hnd2 60) 60 (Wi m6.code 0) F0 L0 (.ret fr1 st1))/\fr1.ds=[]/\Vg fr1 st1 m6.res=.ret (.bool true) st':=by
 obtain⟨fr1,st1,st',hev,hds,hr⟩:=last_ev (lastK_of s6)
 refine⟨fr1,st1,st',?_,hds,hr⟩
 rcases hev with hev | hev
 ·exact .inl (Wz (Wl s0) (by rw[VV];exact Wz (Wl s1) (by rw[VV];exact Wz (Wl s2) (by rw[VV];exact Wz (Wl s3) (by rw[VV];exact Wz (Wl s4) (by rw[VV];exact Wz (Wl s5) (by rw[VV];exact hev)))))))
 ·exact .inr (Wz (Wl s0) (by rw[VV];exact Wz (Wl s1) (by rw[VV];exact Wz (Wl s2) (by rw[VV];exact Wz (Wl s3) (by rw[VV];exact Wz (Wl s4) (by rw[VV];exact Wz (Wl s5) (by rw[VV];exact hev)))))))
end Go.AM.D32
