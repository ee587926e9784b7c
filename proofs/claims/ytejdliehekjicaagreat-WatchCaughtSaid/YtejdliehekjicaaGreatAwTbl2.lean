import Derived.Test.YtejdliehekjicaaGreatAwUL
import Derived.Test.YtejdliehekjicaaGreatAwDef
set_option maxRecDepth 100000
namespace Go.AM.D32
open Go Go.AM
noncomputable def tbl2(n:Nat):Option Vm:=bif n.beq 21 then none else Ry n
noncomputable def hnd2:RC->Nat->Vi->Nat->List AV->St->FR:=handF Pb 21 UA U0 (.bool true) UE
end Go.AM.D32
