import Derived.Test.YtejdliehekjicaaGreatAwFast2
import Derived.Test.YtejdliehekjicaaGreatAwU0
import Derived.Test.YtejdliehekjicaaGreatAwU1
import Derived.Test.YtejdliehekjicaaGreatAwU2
namespace Go.AM.D32
open Go Go.AM
theorem sub_ev:∃ fr1 st1 st',(Ev (Yt tbl hnd 60) 60 (Wi m21.code 0) (Vo 0 UA Fr.nil) U0 (.norm fr1 st1)\/Ev (Yt tbl hnd 60) 60 (Wi m21.code 0) (Vo 0 UA Fr.nil) U0 (.ret fr1 st1))/\fr1.ds=[]/\Vg fr1 st1 m21.res=.ret (.bool true) st'/\SubSt UE st':=by
 obtain⟨fr1,st1,st',hev,hds,hr,hsub⟩:=lastR_ev (lastRK_of u2)
 refine⟨fr1,st1,st',?_,hds,hr,hsub⟩
 rcases hev with hev | hev
 ·exact .inl (Wz (Wl u0) (by rw[VV];exact Wz (Wl u1) (by rw[VV];exact hev)))
 ·exact .inr (Wz (Wl u0) (by rw[VV];exact Wz (Wl u1) (by rw[VV];exact hev)))
end Go.AM.D32
