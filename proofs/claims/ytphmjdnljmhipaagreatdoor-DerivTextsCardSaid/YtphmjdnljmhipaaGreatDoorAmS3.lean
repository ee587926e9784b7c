import Derived.Test.YtphmjdnljmhipaaGreatDoorAmTbl
import Derived.Test.YtphmjdnljmhipaaGreatDoorAmDef
import Derived.Test.YtphmjdnljmhipaaGreatDoorAmSL
set_option maxRecDepth 100000
namespace Go.AM.D16
open Go Go.AM
theorem s3 : pieceK (gamK tbl hnd 60) 60 1 (tailAt m7.code 9) F3 L3 F4 L4 = true := by decide +kernel
end Go.AM.D16
