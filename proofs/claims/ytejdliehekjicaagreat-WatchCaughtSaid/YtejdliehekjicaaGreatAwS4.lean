import Derived.Test.YtejdliehekjicaaGreatAwTbl2
import Derived.Test.YtejdliehekjicaaGreatAwDef
import Derived.Test.YtejdliehekjicaaGreatAwSL
set_option maxRecDepth 100000
namespace Go.AM.D32
open Go Go.AM
theorem s4:Kn (KD tbl2 hnd2 60) 60 1 (Wi m6.code 10) F4 L4 F5 L5=true:=by decide +kernel
end Go.AM.D32
