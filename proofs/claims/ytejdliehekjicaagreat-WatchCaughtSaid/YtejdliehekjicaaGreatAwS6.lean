import Derived.Test.YtejdliehekjicaaGreatAwTbl2
import Derived.Test.YtejdliehekjicaaGreatAwDef
import Derived.Test.YtejdliehekjicaaGreatAwSL
set_option maxRecDepth 100000
namespace Go.AM.D32
open Go Go.AM
theorem s6:lastK (KD tbl2 hnd2 60) 60 (Wi m6.code 13) F6 L6 m6.res (.bool true)=true:=by decide +kernel
end Go.AM.D32
