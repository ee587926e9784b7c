import Derived.Test.YtejdliehekjicaaGreatAwTbl2
import Derived.Test.YtejdliehekjicaaGreatAwDef
import Derived.Test.YtejdliehekjicaaGreatAwSL
set_option maxRecDepth 100000
namespace Go.AM.D32
open Go Go.AM
theorem s3:Kn (KD tbl2 hnd2 60) 60 3 (Wi m6.code 7) F3 L3 F4 L4=true:=by decide +kernel
end Go.AM.D32
