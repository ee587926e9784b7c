import Derived.Test.YtphmjdnljmhipaaGreatDoorAmTbl
import Derived.Test.YtphmjdnljmhipaaGreatDoorAmDef
import Derived.Test.YtphmjdnljmhipaaGreatDoorAmSL
set_option maxRecDepth 100000
namespace Go.AM.D16
open Go Go.AM
theorem s0 : pieceK (gamK tbl hnd 60) 60 6 (tailAt m7.code 0) F0 L0 F1 L1 = true := by decide +kernel
end Go.AM.D16
