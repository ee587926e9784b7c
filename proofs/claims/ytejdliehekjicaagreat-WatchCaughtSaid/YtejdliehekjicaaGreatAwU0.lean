import Derived.Test.YtejdliehekjicaaGreatAwTbl
import Derived.Test.YtejdliehekjicaaGreatAwDef
import Derived.Test.YtejdliehekjicaaGreatAwUL
set_option maxRecDepth 100000
namespace Go.AM.D32
open Go Go.AM
theorem u0:Kn (KD Ry Pb 60) 60 5 (Wi m21.code 0) (Vo 0 UA Fr.nil) U0 V1 U1=true:=by decide +kernel
end Go.AM.D32
