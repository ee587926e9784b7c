import Derived.Test.YtejdliehekjicaaGreatAwTbl2
import Derived.Test.YtejdliehekjicaaGreatAwDef
import Derived.Test.YtejdliehekjicaaGreatAwSL
set_option maxRecDepth 100000
namespace Go.AM.D32
open Go Go.AM
theorem s5:Kn (KD tbl2 hnd2 60) 60 2 (Wi m6.code 11) F5 L5 F6 L6=true:=by decide +kernel
end Go.AM.D32
