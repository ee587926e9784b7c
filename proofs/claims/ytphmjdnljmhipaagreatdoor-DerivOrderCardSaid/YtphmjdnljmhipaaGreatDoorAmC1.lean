import Derived.Test.YtphmjdnljmhipaaGreatDoorAmFast2
import Derived.Test.YtphmjdnljmhipaaGreatDoorAmTbl
import Derived.Test.YtphmjdnljmhipaaGreatDoorAmEv
import Derived.Test.YtphmjdnljmhipaaGreatDoorProg
import Derived.KernelRfl
/- The table is that of the program, part 1. Made by program. -/
set_option maxRecDepth 100000
namespace Go.AM.D16
open Go Go.AM
theorem c4 : cfunc Go.Proofs.Tryz.prog (polL p4) Go.Proofs.Tryz.f4 = some m4 := by kernel_rfl
theorem c10 : cfunc Go.Proofs.Tryz.prog (polL p10) Go.Proofs.Tryz.f10 = some m10 := by kernel_rfl
theorem c18 : cfunc Go.Proofs.Tryz.prog (polL p18) Go.Proofs.Tryz.f18 = some m18 := by kernel_rfl
theorem c25 : cfunc Go.Proofs.Tryz.prog (polL p25) Go.Proofs.Tryz.f25 = some m25 := by kernel_rfl
theorem c29 : cfunc Go.Proofs.Tryz.prog (polL p29) Go.Proofs.Tryz.f29 = some m29 := by kernel_rfl
theorem c33 : cfunc Go.Proofs.Tryz.prog (polL p33) Go.Proofs.Tryz.f33 = some m33 := by kernel_rfl
theorem c37 : cfunc Go.Proofs.Tryz.prog (polL p37) Go.Proofs.Tryz.f37 = some m37 := by kernel_rfl
theorem c41 : cfunc Go.Proofs.Tryz.prog (polL p41) Go.Proofs.Tryz.f41 = some m41 := by kernel_rfl
theorem c45 : cfunc Go.Proofs.Tryz.prog (polL p45) Go.Proofs.Tryz.f45 = some m45 := by kernel_rfl
theorem c55 : cfunc Go.Proofs.Tryz.prog (polL p55) Go.Proofs.Tryz.f55 = some m55 := by kernel_rfl
theorem c61 : cfunc Go.Proofs.Tryz.prog (polL p61) Go.Proofs.Tryz.f61 = some m61 := by kernel_rfl
theorem c65 : cfunc Go.Proofs.Tryz.prog (polL p65) Go.Proofs.Tryz.f65 = some m65 := by kernel_rfl
theorem c69 : cfunc Go.Proofs.Tryz.prog (polL p69) Go.Proofs.Tryz.f69 = some m69 := by kernel_rfl
theorem c73 : cfunc Go.Proofs.Tryz.prog (polL p73) Go.Proofs.Tryz.f73 = some m73 := by kernel_rfl
theorem c84 : cfunc Go.Proofs.Tryz.prog (polL p84) Go.Proofs.Tryz.f84 = some m84 := by kernel_rfl
theorem c89 : cfunc Go.Proofs.Tryz.prog (polL p89) Go.Proofs.Tryz.f89 = some m89 := by kernel_rfl
theorem c97 : cfunc Go.Proofs.Tryz.prog (polL p97) Go.Proofs.Tryz.f97 = some m97 := by kernel_rfl
theorem c101 : cfunc Go.Proofs.Tryz.prog (polL p101) Go.Proofs.Tryz.f101 = some m101 := by kernel_rfl
theorem c105 : cfunc Go.Proofs.Tryz.prog (polL p105) Go.Proofs.Tryz.f105 = some m105 := by kernel_rfl
theorem c109 : cfunc Go.Proofs.Tryz.prog (polL p109) Go.Proofs.Tryz.f109 = some m109 := by kernel_rfl
theorem c113 : cfunc Go.Proofs.Tryz.prog (polL p113) Go.Proofs.Tryz.f113 = some m113 := by kernel_rfl
theorem c121 : cfunc Go.Proofs.Tryz.prog (polL p121) Go.Proofs.Tryz.f121 = some m121 := by kernel_rfl
theorem c126 : cfunc Go.Proofs.Tryz.prog (polL p126) Go.Proofs.Tryz.f126 = some m126 := by kernel_rfl
theorem c130 : cfunc Go.Proofs.Tryz.prog (polL p130) Go.Proofs.Tryz.f130 = some m130 := by kernel_rfl
theorem c134 : cfunc Go.Proofs.Tryz.prog (polL p134) Go.Proofs.Tryz.f134 = some m134 := by kernel_rfl
theorem c138 : cfunc Go.Proofs.Tryz.prog (polL p138) Go.Proofs.Tryz.f138 = some m138 := by kernel_rfl
theorem c145 : cfunc Go.Proofs.Tryz.prog (polL p145) Go.Proofs.Tryz.f145 = some m145 := by kernel_rfl
theorem c149 : cfunc Go.Proofs.Tryz.prog (polL p149) Go.Proofs.Tryz.f149 = some m149 := by kernel_rfl
theorem c153 : cfunc Go.Proofs.Tryz.prog (polL p153) Go.Proofs.Tryz.f153 = some m153 := by kernel_rfl
theorem c157 : cfunc Go.Proofs.Tryz.prog (polL p157) Go.Proofs.Tryz.f157 = some m157 := by kernel_rfl
theorem c161 : cfunc Go.Proofs.Tryz.prog (polL p161) Go.Proofs.Tryz.f161 = some m161 := by kernel_rfl
theorem c169 : cfunc Go.Proofs.Tryz.prog (polL p169) Go.Proofs.Tryz.f169 = some m169 := by kernel_rfl
theorem c176 : cfunc Go.Proofs.Tryz.prog (polL p176) Go.Proofs.Tryz.f176 = some m176 := by kernel_rfl
theorem c182 : cfunc Go.Proofs.Tryz.prog (polL p182) Go.Proofs.Tryz.f182 = some m182 := by kernel_rfl
theorem c198 : cfunc Go.Proofs.Tryz.prog (polL p198) Go.Proofs.Tryz.f198 = some m198 := by kernel_rfl
theorem c202 : cfunc Go.Proofs.Tryz.prog (polL p202) Go.Proofs.Tryz.f202 = some m202 := by kernel_rfl
theorem c206 : cfunc Go.Proofs.Tryz.prog (polL p206) Go.Proofs.Tryz.f206 = some m206 := by kernel_rfl
theorem c210 : cfunc Go.Proofs.Tryz.prog (polL p210) Go.Proofs.Tryz.f210 = some m210 := by kernel_rfl
theorem c214 : cfunc Go.Proofs.Tryz.prog (polL p214) Go.Proofs.Tryz.f214 = some m214 := by kernel_rfl
theorem c224 : cfunc Go.Proofs.Tryz.prog (polL p224) Go.Proofs.Tryz.f224 = some m224 := by kernel_rfl
theorem c229 : cfunc Go.Proofs.Tryz.prog (polL p229) Go.Proofs.Tryz.f229 = some m229 := by kernel_rfl
theorem c239 : cfunc Go.Proofs.Tryz.prog (polL p239) Go.Proofs.Tryz.f239 = some m239 := by kernel_rfl
theorem c244 : cfunc Go.Proofs.Tryz.prog (polL p244) Go.Proofs.Tryz.f244 = some m244 := by kernel_rfl
theorem c249 : cfunc Go.Proofs.Tryz.prog (polL p249) Go.Proofs.Tryz.f249 = some m249 := by kernel_rfl
theorem c253 : cfunc Go.Proofs.Tryz.prog (polL p253) Go.Proofs.Tryz.f253 = some m253 := by kernel_rfl
theorem c261 : cfunc Go.Proofs.Tryz.prog (polL p261) Go.Proofs.Tryz.f261 = some m261 := by kernel_rfl
theorem c265 : cfunc Go.Proofs.Tryz.prog (polL p265) Go.Proofs.Tryz.f265 = some m265 := by kernel_rfl
theorem c269 : cfunc Go.Proofs.Tryz.prog (polL p269) Go.Proofs.Tryz.f269 = some m269 := by kernel_rfl
theorem c275 : cfunc Go.Proofs.Tryz.prog (polL p275) Go.Proofs.Tryz.f275 = some m275 := by kernel_rfl
theorem c280 : cfunc Go.Proofs.Tryz.prog (polL p280) Go.Proofs.Tryz.f280 = some m280 := by kernel_rfl
theorem c285 : cfunc Go.Proofs.Tryz.prog (polL p285) Go.Proofs.Tryz.f285 = some m285 := by kernel_rfl
theorem c289 : cfunc Go.Proofs.Tryz.prog (polL p289) Go.Proofs.Tryz.f289 = some m289 := by kernel_rfl
theorem c294 : cfunc Go.Proofs.Tryz.prog (polL p294) Go.Proofs.Tryz.f294 = some m294 := by kernel_rfl
theorem c302 : cfunc Go.Proofs.Tryz.prog (polL p302) Go.Proofs.Tryz.f302 = some m302 := by kernel_rfl
theorem c315 : cfunc Go.Proofs.Tryz.prog (polL p315) Go.Proofs.Tryz.f315 = some m315 := by kernel_rfl
theorem c320 : cfunc Go.Proofs.Tryz.prog (polL p320) Go.Proofs.Tryz.f320 = some m320 := by kernel_rfl
theorem c328 : cfunc Go.Proofs.Tryz.prog (polL p328) Go.Proofs.Tryz.f328 = some m328 := by kernel_rfl
end Go.AM.D16
