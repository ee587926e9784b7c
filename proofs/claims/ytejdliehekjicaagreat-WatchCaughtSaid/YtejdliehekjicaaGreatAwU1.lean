import Derived.Test.YtejdliehekjicaaGreatAwTbl
import Derived.Test.YtejdliehekjicaaGreatAwDef
import Derived.Test.YtejdliehekjicaaGreatAwUL
set_option maxRecDepth 100000
namespace Go.AM.D32
open Go Go.AM
theorem u1:Kn (KD Ry Pb 60) 60 1 (Wi m21.code 5) V1 U1 V2 U2=true:=by decide +kernel
end Go.AM.D32
