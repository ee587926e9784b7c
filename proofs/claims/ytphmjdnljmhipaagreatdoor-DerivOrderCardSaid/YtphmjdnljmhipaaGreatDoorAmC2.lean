import Derived.Test.YtphmjdnljmhipaaGreatDoorAmFast2
import Derived.Test.YtphmjdnljmhipaaGreatDoorAmTbl
import Derived.Test.YtphmjdnljmhipaaGreatDoorAmEv
import Derived.Test.YtphmjdnljmhipaaGreatDoorProg
import Derived.KernelRfl
/- The table is that of the program, part 2. Made by program. -/
set_option maxRecDepth 100000
namespace Go.AM.D16
open Go Go.AM
theorem c7 : cfunc Go.Proofs.Tryz.prog (polL p7) Go.Proofs.Tryz.f7 = some m7 := by kernel_rfl
theorem c11 : cfunc Go.Proofs.Tryz.prog (polL p11) Go.Proofs.Tryz.f11 = some m11 := by kernel_rfl
theorem c20 : cfunc Go.Proofs.Tryz.prog (polL p20) Go.Proofs.Tryz.f20 = some m20 := by kernel_rfl
theorem c26 : cfunc Go.Proofs.Tryz.prog (polL p26) Go.Proofs.Tryz.f26 = some m26 := by kernel_rfl
theorem c30 : cfunc Go.Proofs.Tryz.prog (polL p30) Go.Proofs.Tryz.f30 = some m30 := by kernel_rfl
theorem c34 : cfunc Go.Proofs.Tryz.prog (polL p34) Go.Proofs.Tryz.f34 = some m34 := by kernel_rfl
theorem c38 : cfunc Go.Proofs.Tryz.prog (polL p38) Go.Proofs.Tryz.f38 = some m38 := by kernel_rfl
theorem c42 : cfunc Go.Proofs.Tryz.prog (polL p42) Go.Proofs.Tryz.f42 = some m42 := by kernel_rfl
theorem c52 : cfunc Go.Proofs.Tryz.prog (polL p52) Go.Proofs.Tryz.f52 = some m52 := by kernel_rfl
theorem c56 : cfunc Go.Proofs.Tryz.prog (polL p56) Go.Proofs.Tryz.f56 = some m56 := by kernel_rfl
theorem c62 : cfunc Go.Proofs.Tryz.prog (polL p62) Go.Proofs.Tryz.f62 = some m62 := by kernel_rfl
theorem c66 : cfunc Go.Proofs.Tryz.prog (polL p66) Go.Proofs.Tryz.f66 = some m66 := by kernel_rfl
theorem c70 : cfunc Go.Proofs.Tryz.prog (polL p70) Go.Proofs.Tryz.f70 = some m70 := by kernel_rfl
theorem c75 : cfunc Go.Proofs.Tryz.prog (polL p75) Go.Proofs.Tryz.f75 = some m75 := by kernel_rfl
theorem c85 : cfunc Go.Proofs.Tryz.prog (polL p85) Go.Proofs.Tryz.f85 = some m85 := by kernel_rfl
theorem c90 : cfunc Go.Proofs.Tryz.prog (polL p90) Go.Proofs.Tryz.f90 = some m90 := by kernel_rfl
theorem c98 : cfunc Go.Proofs.Tryz.prog (polL p98) Go.Proofs.Tryz.f98 = some m98 := by kernel_rfl
theorem c102 : cfunc Go.Proofs.Tryz.prog (polL p102) Go.Proofs.Tryz.f102 = some m102 := by kernel_rfl
theorem c106 : cfunc Go.Proofs.Tryz.prog (polL p106) Go.Proofs.Tryz.f106 = some m106 := by kernel_rfl
theorem c110 : cfunc Go.Proofs.Tryz.prog (polL p110) Go.Proofs.Tryz.f110 = some m110 := by kernel_rfl
theorem c118 : cfunc Go.Proofs.Tryz.prog (polL p118) Go.Proofs.Tryz.f118 = some m118 := by kernel_rfl
theorem c122 : cfunc Go.Proofs.Tryz.prog (polL p122) Go.Proofs.Tryz.f122 = some m122 := by kernel_rfl
theorem c127 : cfunc Go.Proofs.Tryz.prog (polL p127) Go.Proofs.Tryz.f127 = some m127 := by kernel_rfl
theorem c131 : cfunc Go.Proofs.Tryz.prog (polL p131) Go.Proofs.Tryz.f131 = some m131 := by kernel_rfl
theorem c135 : cfunc Go.Proofs.Tryz.prog (polL p135) Go.Proofs.Tryz.f135 = some m135 := by kernel_rfl
theorem c139 : cfunc Go.Proofs.Tryz.prog (polL p139) Go.Proofs.Tryz.f139 = some m139 := by kernel_rfl
theorem c146 : cfunc Go.Proofs.Tryz.prog (polL p146) Go.Proofs.Tryz.f146 = some m146 := by kernel_rfl
theorem c150 : cfunc Go.Proofs.Tryz.prog (polL p150) Go.Proofs.Tryz.f150 = some m150 := by kernel_rfl
theorem c154 : cfunc Go.Proofs.Tryz.prog (polL p154) Go.Proofs.Tryz.f154 = some m154 := by kernel_rfl
theorem c158 : cfunc Go.Proofs.Tryz.prog (polL p158) Go.Proofs.Tryz.f158 = some m158 := by kernel_rfl
theorem c162 : cfunc Go.Proofs.Tryz.prog (polL p162) Go.Proofs.Tryz.f162 = some m162 := by kernel_rfl
theorem c173 : cfunc Go.Proofs.Tryz.prog (polL p173) Go.Proofs.Tryz.f173 = some m173 := by kernel_rfl
theorem c177 : cfunc Go.Proofs.Tryz.prog (polL p177) Go.Proofs.Tryz.f177 = some m177 := by kernel_rfl
theorem c183 : cfunc Go.Proofs.Tryz.prog (polL p183) Go.Proofs.Tryz.f183 = some m183 := by kernel_rfl
theorem c199 : cfunc Go.Proofs.Tryz.prog (polL p199) Go.Proofs.Tryz.f199 = some m199 := by kernel_rfl
theorem c203 : cfunc Go.Proofs.Tryz.prog (polL p203) Go.Proofs.Tryz.f203 = some m203 := by kernel_rfl
theorem c207 : cfunc Go.Proofs.Tryz.prog (polL p207) Go.Proofs.Tryz.f207 = some m207 := by kernel_rfl
theorem c211 : cfunc Go.Proofs.Tryz.prog (polL p211) Go.Proofs.Tryz.f211 = some m211 := by kernel_rfl
theorem c221 : cfunc Go.Proofs.Tryz.prog (polL p221) Go.Proofs.Tryz.f221 = some m221 := by kernel_rfl
theorem c225 : cfunc Go.Proofs.Tryz.prog (polL p225) Go.Proofs.Tryz.f225 = some m225 := by kernel_rfl
theorem c231 : cfunc Go.Proofs.Tryz.prog (polL p231) Go.Proofs.Tryz.f231 = some m231 := by kernel_rfl
theorem c240 : cfunc Go.Proofs.Tryz.prog (polL p240) Go.Proofs.Tryz.f240 = some m240 := by kernel_rfl
theorem c245 : cfunc Go.Proofs.Tryz.prog (polL p245) Go.Proofs.Tryz.f245 = some m245 := by kernel_rfl
theorem c250 : cfunc Go.Proofs.Tryz.prog (polL p250) Go.Proofs.Tryz.f250 = some m250 := by kernel_rfl
theorem c254 : cfunc Go.Proofs.Tryz.prog (polL p254) Go.Proofs.Tryz.f254 = some m254 := by kernel_rfl
theorem c262 : cfunc Go.Proofs.Tryz.prog (polL p262) Go.Proofs.Tryz.f262 = some m262 := by kernel_rfl
theorem c266 : cfunc Go.Proofs.Tryz.prog (polL p266) Go.Proofs.Tryz.f266 = some m266 := by kernel_rfl
theorem c270 : cfunc Go.Proofs.Tryz.prog (polL p270) Go.Proofs.Tryz.f270 = some m270 := by kernel_rfl
theorem c276 : cfunc Go.Proofs.Tryz.prog (polL p276) Go.Proofs.Tryz.f276 = some m276 := by kernel_rfl
theorem c281 : cfunc Go.Proofs.Tryz.prog (polL p281) Go.Proofs.Tryz.f281 = some m281 := by kernel_rfl
theorem c286 : cfunc Go.Proofs.Tryz.prog (polL p286) Go.Proofs.Tryz.f286 = some m286 := by kernel_rfl
theorem c290 : cfunc Go.Proofs.Tryz.prog (polL p290) Go.Proofs.Tryz.f290 = some m290 := by kernel_rfl
theorem c295 : cfunc Go.Proofs.Tryz.prog (polL p295) Go.Proofs.Tryz.f295 = some m295 := by kernel_rfl
theorem c312 : cfunc Go.Proofs.Tryz.prog (polL p312) Go.Proofs.Tryz.f312 = some m312 := by kernel_rfl
theorem c316 : cfunc Go.Proofs.Tryz.prog (polL p316) Go.Proofs.Tryz.f316 = some m316 := by kernel_rfl
theorem c321 : cfunc Go.Proofs.Tryz.prog (polL p321) Go.Proofs.Tryz.f321 = some m321 := by kernel_rfl
theorem c345 : cfunc Go.Proofs.Tryz.prog (polL p345) Go.Proofs.Tryz.f345 = some m345 := by kernel_rfl
end Go.AM.D16
