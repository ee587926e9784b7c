import Derived.Test.YtphmjdnljmhipaaGreatDoorAmTbl
import Derived.Test.YtphmjdnljmhipaaGreatDoorAmDef
import Derived.Test.YtphmjdnljmhipaaGreatDoorAmSL
set_option maxRecDepth 100000
namespace Go.AM.D16
open Go Go.AM
theorem s6 : pieceK (gamK tbl hnd 60) 60 1 (tailAt m7.code 22) F6 L6 F7 L7 = true := by decide +kernel
end Go.AM.D16
