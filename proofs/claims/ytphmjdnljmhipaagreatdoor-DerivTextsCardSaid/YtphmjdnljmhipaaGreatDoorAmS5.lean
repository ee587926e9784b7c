import Derived.Test.YtphmjdnljmhipaaGreatDoorAmTbl
import Derived.Test.YtphmjdnljmhipaaGreatDoorAmDef
import Derived.Test.YtphmjdnljmhipaaGreatDoorAmSL
set_option maxRecDepth 100000
namespace Go.AM.D16
open Go Go.AM
theorem s5 : pieceK (gamK tbl hnd 60) 60 11 (tailAt m7.code 11) F5 L5 F6 L6 = true := by decide +kernel
end Go.AM.D16
