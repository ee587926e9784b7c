import Derived.Test.YtphmjdnljmhipaaGreatDoorAmFast2
import Derived.Test.YtphmjdnljmhipaaGreatDoorAmTbl
import Derived.Test.YtphmjdnljmhipaaGreatDoorAmEv
import Derived.Test.YtphmjdnljmhipaaGreatDoorProg
import Derived.KernelRfl
set_option maxRecDepth 100000
namespace Go.AM.D16
open Go Go.AM Go.Proofs
theorem c4 : cfunc Tryz.prog (polL p4) Tryz.f4 = some m4 := by kernel_rfl
theorem c11 : cfunc Tryz.prog (polL p11) Tryz.f11 = some m11 := by kernel_rfl
theorem c20 : cfunc Tryz.prog (polL p20) Tryz.f20 = some m20 := by kernel_rfl
theorem c26 : cfunc Tryz.prog (polL p26) Tryz.f26 = some m26 := by kernel_rfl
theorem c30 : cfunc Tryz.prog (polL p30) Tryz.f30 = some m30 := by kernel_rfl
theorem c34 : cfunc Tryz.prog (polL p34) Tryz.f34 = some m34 := by kernel_rfl
theorem c38 : cfunc Tryz.prog (polL p38) Tryz.f38 = some m38 := by kernel_rfl
theorem c42 : cfunc Tryz.prog (polL p42) Tryz.f42 = some m42 := by kernel_rfl
theorem c52 : cfunc Tryz.prog (polL p52) Tryz.f52 = some m52 := by kernel_rfl
theorem c56 : cfunc Tryz.prog (polL p56) Tryz.f56 = some m56 := by kernel_rfl
theorem c62 : cfunc Tryz.prog (polL p62) Tryz.f62 = some m62 := by kernel_rfl
theorem c66 : cfunc Tryz.prog (polL p66) Tryz.f66 = some m66 := by kernel_rfl
theorem c70 : cfunc Tryz.prog (polL p70) Tryz.f70 = some m70 := by kernel_rfl
theorem c74 : cfunc Tryz.prog (polL p74) Tryz.f74 = some m74 := by kernel_rfl
theorem c84 : cfunc Tryz.prog (polL p84) Tryz.f84 = some m84 := by kernel_rfl
theorem c89 : cfunc Tryz.prog (polL p89) Tryz.f89 = some m89 := by kernel_rfl
theorem c97 : cfunc Tryz.prog (polL p97) Tryz.f97 = some m97 := by kernel_rfl
theorem c101 : cfunc Tryz.prog (polL p101) Tryz.f101 = some m101 := by kernel_rfl
theorem c105 : cfunc Tryz.prog (polL p105) Tryz.f105 = some m105 := by kernel_rfl
theorem c109 : cfunc Tryz.prog (polL p109) Tryz.f109 = some m109 := by kernel_rfl
theorem c113 : cfunc Tryz.prog (polL p113) Tryz.f113 = some m113 := by kernel_rfl
theorem c121 : cfunc Tryz.prog (polL p121) Tryz.f121 = some m121 := by kernel_rfl
theorem c126 : cfunc Tryz.prog (polL p126) Tryz.f126 = some m126 := by kernel_rfl
theorem c130 : cfunc Tryz.prog (polL p130) Tryz.f130 = some m130 := by kernel_rfl
theorem c134 : cfunc Tryz.prog (polL p134) Tryz.f134 = some m134 := by kernel_rfl
theorem c138 : cfunc Tryz.prog (polL p138) Tryz.f138 = some m138 := by kernel_rfl
theorem c145 : cfunc Tryz.prog (polL p145) Tryz.f145 = some m145 := by kernel_rfl
theorem c149 : cfunc Tryz.prog (polL p149) Tryz.f149 = some m149 := by kernel_rfl
theorem c153 : cfunc Tryz.prog (polL p153) Tryz.f153 = some m153 := by kernel_rfl
theorem c157 : cfunc Tryz.prog (polL p157) Tryz.f157 = some m157 := by kernel_rfl
theorem c161 : cfunc Tryz.prog (polL p161) Tryz.f161 = some m161 := by kernel_rfl
theorem c169 : cfunc Tryz.prog (polL p169) Tryz.f169 = some m169 := by kernel_rfl
theorem c176 : cfunc Tryz.prog (polL p176) Tryz.f176 = some m176 := by kernel_rfl
theorem c182 : cfunc Tryz.prog (polL p182) Tryz.f182 = some m182 := by kernel_rfl
theorem c198 : cfunc Tryz.prog (polL p198) Tryz.f198 = some m198 := by kernel_rfl
theorem c202 : cfunc Tryz.prog (polL p202) Tryz.f202 = some m202 := by kernel_rfl
theorem c206 : cfunc Tryz.prog (polL p206) Tryz.f206 = some m206 := by kernel_rfl
theorem c210 : cfunc Tryz.prog (polL p210) Tryz.f210 = some m210 := by kernel_rfl
theorem c214 : cfunc Tryz.prog (polL p214) Tryz.f214 = some m214 := by kernel_rfl
theorem c224 : cfunc Tryz.prog (polL p224) Tryz.f224 = some m224 := by kernel_rfl
theorem c229 : cfunc Tryz.prog (polL p229) Tryz.f229 = some m229 := by kernel_rfl
theorem c239 : cfunc Tryz.prog (polL p239) Tryz.f239 = some m239 := by kernel_rfl
theorem c244 : cfunc Tryz.prog (polL p244) Tryz.f244 = some m244 := by kernel_rfl
theorem c249 : cfunc Tryz.prog (polL p249) Tryz.f249 = some m249 := by kernel_rfl
theorem c253 : cfunc Tryz.prog (polL p253) Tryz.f253 = some m253 := by kernel_rfl
theorem c261 : cfunc Tryz.prog (polL p261) Tryz.f261 = some m261 := by kernel_rfl
theorem c265 : cfunc Tryz.prog (polL p265) Tryz.f265 = some m265 := by kernel_rfl
theorem c269 : cfunc Tryz.prog (polL p269) Tryz.f269 = some m269 := by kernel_rfl
theorem c275 : cfunc Tryz.prog (polL p275) Tryz.f275 = some m275 := by kernel_rfl
theorem c280 : cfunc Tryz.prog (polL p280) Tryz.f280 = some m280 := by kernel_rfl
theorem c285 : cfunc Tryz.prog (polL p285) Tryz.f285 = some m285 := by kernel_rfl
theorem c289 : cfunc Tryz.prog (polL p289) Tryz.f289 = some m289 := by kernel_rfl
theorem c294 : cfunc Tryz.prog (polL p294) Tryz.f294 = some m294 := by kernel_rfl
theorem c302 : cfunc Tryz.prog (polL p302) Tryz.f302 = some m302 := by kernel_rfl
theorem c315 : cfunc Tryz.prog (polL p315) Tryz.f315 = some m315 := by kernel_rfl
theorem c320 : cfunc Tryz.prog (polL p320) Tryz.f320 = some m320 := by kernel_rfl
theorem c328 : cfunc Tryz.prog (polL p328) Tryz.f328 = some m328 := by kernel_rfl
end Go.AM.D16
