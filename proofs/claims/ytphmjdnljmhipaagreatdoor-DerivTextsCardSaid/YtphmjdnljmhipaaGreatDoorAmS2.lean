import Derived.Test.YtphmjdnljmhipaaGreatDoorAmTbl
import Derived.Test.YtphmjdnljmhipaaGreatDoorAmDef
import Derived.Test.YtphmjdnljmhipaaGreatDoorAmSL
set_option maxRecDepth 100000
namespace Go.AM.D16
open Go Go.AM
theorem s2 : pieceK (gamK tbl hnd 60) 60 2 (tailAt m7.code 7) F2 L2 F3 L3 = true := by decide +kernel
end Go.AM.D16
