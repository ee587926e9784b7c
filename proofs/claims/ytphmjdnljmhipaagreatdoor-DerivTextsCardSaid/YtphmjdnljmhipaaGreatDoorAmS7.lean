import Derived.Test.YtphmjdnljmhipaaGreatDoorAmTbl
import Derived.Test.YtphmjdnljmhipaaGreatDoorAmDef
import Derived.Test.YtphmjdnljmhipaaGreatDoorAmSL
set_option maxRecDepth 100000
namespace Go.AM.D16
open Go Go.AM
theorem s7 : lastK (gamK tbl hnd 60) 60 (tailAt m7.code 23) F7 L7 m7.res (.bool true) = true := by decide +kernel
end Go.AM.D16
