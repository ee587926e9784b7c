import Derived.Test.YtphmjdnljmhipaaGreatDoorAmFast2
import Derived.Test.YtphmjdnljmhipaaGreatDoorAmTbl
import Derived.Test.YtphmjdnljmhipaaGreatDoorAmEv
import Derived.Test.YtphmjdnljmhipaaGreatDoorProg
import Derived.KernelRfl
set_option maxRecDepth 100000
namespace Go.AM.D16
open Go Go.AM Go.Proofs
theorem c7 : cfunc Tryz.prog (polL p7) Tryz.f7 = some m7 := by kernel_rfl
theorem c12 : cfunc Tryz.prog (polL p12) Tryz.f12 = some m12 := by kernel_rfl
theorem c21 : cfunc Tryz.prog (polL p21) Tryz.f21 = some m21 := by kernel_rfl
theorem c27 : cfunc Tryz.prog (polL p27) Tryz.f27 = some m27 := by kernel_rfl
theorem c31 : cfunc Tryz.prog (polL p31) Tryz.f31 = some m31 := by kernel_rfl
theorem c35 : cfunc Tryz.prog (polL p35) Tryz.f35 = some m35 := by kernel_rfl
theorem c39 : cfunc Tryz.prog (polL p39) Tryz.f39 = some m39 := by kernel_rfl
theorem c43 : cfunc Tryz.prog (polL p43) Tryz.f43 = some m43 := by kernel_rfl
theorem c53 : cfunc Tryz.prog (polL p53) Tryz.f53 = some m53 := by kernel_rfl
theorem c58 : cfunc Tryz.prog (polL p58) Tryz.f58 = some m58 := by kernel_rfl
theorem c63 : cfunc Tryz.prog (polL p63) Tryz.f63 = some m63 := by kernel_rfl
theorem c67 : cfunc Tryz.prog (polL p67) Tryz.f67 = some m67 := by kernel_rfl
theorem c71 : cfunc Tryz.prog (polL p71) Tryz.f71 = some m71 := by kernel_rfl
theorem c75 : cfunc Tryz.prog (polL p75) Tryz.f75 = some m75 := by kernel_rfl
theorem c85 : cfunc Tryz.prog (polL p85) Tryz.f85 = some m85 := by kernel_rfl
theorem c90 : cfunc Tryz.prog (polL p90) Tryz.f90 = some m90 := by kernel_rfl
theorem c98 : cfunc Tryz.prog (polL p98) Tryz.f98 = some m98 := by kernel_rfl
theorem c102 : cfunc Tryz.prog (polL p102) Tryz.f102 = some m102 := by kernel_rfl
theorem c106 : cfunc Tryz.prog (polL p106) Tryz.f106 = some m106 := by kernel_rfl
theorem c110 : cfunc Tryz.prog (polL p110) Tryz.f110 = some m110 := by kernel_rfl
theorem c118 : cfunc Tryz.prog (polL p118) Tryz.f118 = some m118 := by kernel_rfl
theorem c122 : cfunc Tryz.prog (polL p122) Tryz.f122 = some m122 := by kernel_rfl
theorem c127 : cfunc Tryz.prog (polL p127) Tryz.f127 = some m127 := by kernel_rfl
theorem c131 : cfunc Tryz.prog (polL p131) Tryz.f131 = some m131 := by kernel_rfl
theorem c135 : cfunc Tryz.prog (polL p135) Tryz.f135 = some m135 := by kernel_rfl
theorem c139 : cfunc Tryz.prog (polL p139) Tryz.f139 = some m139 := by kernel_rfl
theorem c146 : cfunc Tryz.prog (polL p146) Tryz.f146 = some m146 := by kernel_rfl
theorem c150 : cfunc Tryz.prog (polL p150) Tryz.f150 = some m150 := by kernel_rfl
theorem c154 : cfunc Tryz.prog (polL p154) Tryz.f154 = some m154 := by kernel_rfl
theorem c158 : cfunc Tryz.prog (polL p158) Tryz.f158 = some m158 := by kernel_rfl
theorem c162 : cfunc Tryz.prog (polL p162) Tryz.f162 = some m162 := by kernel_rfl
theorem c173 : cfunc Tryz.prog (polL p173) Tryz.f173 = some m173 := by kernel_rfl
theorem c177 : cfunc Tryz.prog (polL p177) Tryz.f177 = some m177 := by kernel_rfl
theorem c183 : cfunc Tryz.prog (polL p183) Tryz.f183 = some m183 := by kernel_rfl
theorem c199 : cfunc Tryz.prog (polL p199) Tryz.f199 = some m199 := by kernel_rfl
theorem c203 : cfunc Tryz.prog (polL p203) Tryz.f203 = some m203 := by kernel_rfl
theorem c207 : cfunc Tryz.prog (polL p207) Tryz.f207 = some m207 := by kernel_rfl
theorem c211 : cfunc Tryz.prog (polL p211) Tryz.f211 = some m211 := by kernel_rfl
theorem c221 : cfunc Tryz.prog (polL p221) Tryz.f221 = some m221 := by kernel_rfl
theorem c225 : cfunc Tryz.prog (polL p225) Tryz.f225 = some m225 := by kernel_rfl
theorem c231 : cfunc Tryz.prog (polL p231) Tryz.f231 = some m231 := by kernel_rfl
theorem c240 : cfunc Tryz.prog (polL p240) Tryz.f240 = some m240 := by kernel_rfl
theorem c245 : cfunc Tryz.prog (polL p245) Tryz.f245 = some m245 := by kernel_rfl
theorem c250 : cfunc Tryz.prog (polL p250) Tryz.f250 = some m250 := by kernel_rfl
theorem c254 : cfunc Tryz.prog (polL p254) Tryz.f254 = some m254 := by kernel_rfl
theorem c262 : cfunc Tryz.prog (polL p262) Tryz.f262 = some m262 := by kernel_rfl
theorem c266 : cfunc Tryz.prog (polL p266) Tryz.f266 = some m266 := by kernel_rfl
theorem c270 : cfunc Tryz.prog (polL p270) Tryz.f270 = some m270 := by kernel_rfl
theorem c276 : cfunc Tryz.prog (polL p276) Tryz.f276 = some m276 := by kernel_rfl
theorem c281 : cfunc Tryz.prog (polL p281) Tryz.f281 = some m281 := by kernel_rfl
theorem c286 : cfunc Tryz.prog (polL p286) Tryz.f286 = some m286 := by kernel_rfl
theorem c290 : cfunc Tryz.prog (polL p290) Tryz.f290 = some m290 := by kernel_rfl
theorem c295 : cfunc Tryz.prog (polL p295) Tryz.f295 = some m295 := by kernel_rfl
theorem c312 : cfunc Tryz.prog (polL p312) Tryz.f312 = some m312 := by kernel_rfl
theorem c316 : cfunc Tryz.prog (polL p316) Tryz.f316 = some m316 := by kernel_rfl
theorem c321 : cfunc Tryz.prog (polL p321) Tryz.f321 = some m321 := by kernel_rfl
theorem c345 : cfunc Tryz.prog (polL p345) Tryz.f345 = some m345 := by kernel_rfl
end Go.AM.D16
