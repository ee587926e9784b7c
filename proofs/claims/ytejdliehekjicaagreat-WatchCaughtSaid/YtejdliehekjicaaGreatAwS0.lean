import Derived.Test.YtejdliehekjicaaGreatAwTbl2
import Derived.Test.YtejdliehekjicaaGreatAwDef
import Derived.Test.YtejdliehekjicaaGreatAwSL
set_option maxRecDepth 100000
namespace Go.AM.D32
open Go Go.AM
theorem s0:Kn (KD tbl2 hnd2 60) 60 3 (Wi m6.code 0) F0 L0 F1 L1=true:=by decide +kernel
end Go.AM.D32
