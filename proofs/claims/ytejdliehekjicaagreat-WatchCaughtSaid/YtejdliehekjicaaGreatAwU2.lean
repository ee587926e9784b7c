import Derived.Test.YtejdliehekjicaaGreatAwTbl
import Derived.Test.YtejdliehekjicaaGreatAwDef
import Derived.Test.YtejdliehekjicaaGreatAwUL
set_option maxRecDepth 100000
namespace Go.AM.D32
open Go Go.AM
theorem u2:lastRK (KD Ry Pb 60) 60 (Wi m21.code 6) V2 U2 m21.res (.bool true) UE=true:=by decide +kernel
end Go.AM.D32
