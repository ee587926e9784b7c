import Derived.Test.YtphmjdnljmhipaaGreatDoorAmFast2
import Derived.Test.YtphmjdnljmhipaaGreatDoorAmTbl
import Derived.Test.YtphmjdnljmhipaaGreatDoorAmEv
import Derived.Test.YtphmjdnljmhipaaGreatDoorProg
import Derived.KernelRfl
/- The table is that of the program, part 3. Made by program. -/
set_option maxRecDepth 100000
namespace Go.AM.D16
open Go Go.AM
theorem c8 : cfunc Go.Proofs.Tryz.prog (polL p8) Go.Proofs.Tryz.f8 = some m8 := by kernel_rfl
theorem c12 : cfunc Go.Proofs.Tryz.prog (polL p12) Go.Proofs.Tryz.f12 = some m12 := by kernel_rfl
theorem c21 : cfunc Go.Proofs.Tryz.prog (polL p21) Go.Proofs.Tryz.f21 = some m21 := by kernel_rfl
theorem c27 : cfunc Go.Proofs.Tryz.prog (polL p27) Go.Proofs.Tryz.f27 = some m27 := by kernel_rfl
theorem c31 : cfunc Go.Proofs.Tryz.prog (polL p31) Go.Proofs.Tryz.f31 = some m31 := by kernel_rfl
theorem c35 : cfunc Go.Proofs.Tryz.prog (polL p35) Go.Proofs.Tryz.f35 = some m35 := by kernel_rfl
theorem c39 : cfunc Go.Proofs.Tryz.prog (polL p39) Go.Proofs.Tryz.f39 = some m39 := by kernel_rfl
theorem c43 : cfunc Go.Proofs.Tryz.prog (polL p43) Go.Proofs.Tryz.f43 = some m43 := by kernel_rfl
theorem c53 : cfunc Go.Proofs.Tryz.prog (polL p53) Go.Proofs.Tryz.f53 = some m53 := by kernel_rfl
theorem c58 : cfunc Go.Proofs.Tryz.prog (polL p58) Go.Proofs.Tryz.f58 = some m58 := by kernel_rfl
theorem c63 : cfunc Go.Proofs.Tryz.prog (polL p63) Go.Proofs.Tryz.f63 = some m63 := by kernel_rfl
theorem c67 : cfunc Go.Proofs.Tryz.prog (polL p67) Go.Proofs.Tryz.f67 = some m67 := by kernel_rfl
theorem c71 : cfunc Go.Proofs.Tryz.prog (polL p71) Go.Proofs.Tryz.f71 = some m71 := by kernel_rfl
theorem c82 : cfunc Go.Proofs.Tryz.prog (polL p82) Go.Proofs.Tryz.f82 = some m82 := by kernel_rfl
theorem c86 : cfunc Go.Proofs.Tryz.prog (polL p86) Go.Proofs.Tryz.f86 = some m86 := by kernel_rfl
theorem c91 : cfunc Go.Proofs.Tryz.prog (polL p91) Go.Proofs.Tryz.f91 = some m91 := by kernel_rfl
theorem c99 : cfunc Go.Proofs.Tryz.prog (polL p99) Go.Proofs.Tryz.f99 = some m99 := by kernel_rfl
theorem c103 : cfunc Go.Proofs.Tryz.prog (polL p103) Go.Proofs.Tryz.f103 = some m103 := by kernel_rfl
theorem c107 : cfunc Go.Proofs.Tryz.prog (polL p107) Go.Proofs.Tryz.f107 = some m107 := by kernel_rfl
theorem c111 : cfunc Go.Proofs.Tryz.prog (polL p111) Go.Proofs.Tryz.f111 = some m111 := by kernel_rfl
theorem c119 : cfunc Go.Proofs.Tryz.prog (polL p119) Go.Proofs.Tryz.f119 = some m119 := by kernel_rfl
theorem c123 : cfunc Go.Proofs.Tryz.prog (polL p123) Go.Proofs.Tryz.f123 = some m123 := by kernel_rfl
theorem c128 : cfunc Go.Proofs.Tryz.prog (polL p128) Go.Proofs.Tryz.f128 = some m128 := by kernel_rfl
theorem c132 : cfunc Go.Proofs.Tryz.prog (polL p132) Go.Proofs.Tryz.f132 = some m132 := by kernel_rfl
theorem c136 : cfunc Go.Proofs.Tryz.prog (polL p136) Go.Proofs.Tryz.f136 = some m136 := by kernel_rfl
theorem c143 : cfunc Go.Proofs.Tryz.prog (polL p143) Go.Proofs.Tryz.f143 = some m143 := by kernel_rfl
theorem c147 : cfunc Go.Proofs.Tryz.prog (polL p147) Go.Proofs.Tryz.f147 = some m147 := by kernel_rfl
theorem c151 : cfunc Go.Proofs.Tryz.prog (polL p151) Go.Proofs.Tryz.f151 = some m151 := by kernel_rfl
theorem c155 : cfunc Go.Proofs.Tryz.prog (polL p155) Go.Proofs.Tryz.f155 = some m155 := by kernel_rfl
theorem c159 : cfunc Go.Proofs.Tryz.prog (polL p159) Go.Proofs.Tryz.f159 = some m159 := by kernel_rfl
theorem c163 : cfunc Go.Proofs.Tryz.prog (polL p163) Go.Proofs.Tryz.f163 = some m163 := by kernel_rfl
theorem c174 : cfunc Go.Proofs.Tryz.prog (polL p174) Go.Proofs.Tryz.f174 = some m174 := by kernel_rfl
theorem c178 : cfunc Go.Proofs.Tryz.prog (polL p178) Go.Proofs.Tryz.f178 = some m178 := by kernel_rfl
theorem c194 : cfunc Go.Proofs.Tryz.prog (polL p194) Go.Proofs.Tryz.f194 = some m194 := by kernel_rfl
theorem c200 : cfunc Go.Proofs.Tryz.prog (polL p200) Go.Proofs.Tryz.f200 = some m200 := by kernel_rfl
theorem c204 : cfunc Go.Proofs.Tryz.prog (polL p204) Go.Proofs.Tryz.f204 = some m204 := by kernel_rfl
theorem c208 : cfunc Go.Proofs.Tryz.prog (polL p208) Go.Proofs.Tryz.f208 = some m208 := by kernel_rfl
theorem c212 : cfunc Go.Proofs.Tryz.prog (polL p212) Go.Proofs.Tryz.f212 = some m212 := by kernel_rfl
theorem c222 : cfunc Go.Proofs.Tryz.prog (polL p222) Go.Proofs.Tryz.f222 = some m222 := by kernel_rfl
theorem c226 : cfunc Go.Proofs.Tryz.prog (polL p226) Go.Proofs.Tryz.f226 = some m226 := by kernel_rfl
theorem c235 : cfunc Go.Proofs.Tryz.prog (polL p235) Go.Proofs.Tryz.f235 = some m235 := by kernel_rfl
theorem c241 : cfunc Go.Proofs.Tryz.prog (polL p241) Go.Proofs.Tryz.f241 = some m241 := by kernel_rfl
theorem c246 : cfunc Go.Proofs.Tryz.prog (polL p246) Go.Proofs.Tryz.f246 = some m246 := by kernel_rfl
theorem c251 : cfunc Go.Proofs.Tryz.prog (polL p251) Go.Proofs.Tryz.f251 = some m251 := by kernel_rfl
theorem c257 : cfunc Go.Proofs.Tryz.prog (polL p257) Go.Proofs.Tryz.f257 = some m257 := by kernel_rfl
theorem c263 : cfunc Go.Proofs.Tryz.prog (polL p263) Go.Proofs.Tryz.f263 = some m263 := by kernel_rfl
theorem c267 : cfunc Go.Proofs.Tryz.prog (polL p267) Go.Proofs.Tryz.f267 = some m267 := by kernel_rfl
theorem c271 : cfunc Go.Proofs.Tryz.prog (polL p271) Go.Proofs.Tryz.f271 = some m271 := by kernel_rfl
theorem c277 : cfunc Go.Proofs.Tryz.prog (polL p277) Go.Proofs.Tryz.f277 = some m277 := by kernel_rfl
theorem c283 : cfunc Go.Proofs.Tryz.prog (polL p283) Go.Proofs.Tryz.f283 = some m283 := by kernel_rfl
theorem c287 : cfunc Go.Proofs.Tryz.prog (polL p287) Go.Proofs.Tryz.f287 = some m287 := by kernel_rfl
theorem c291 : cfunc Go.Proofs.Tryz.prog (polL p291) Go.Proofs.Tryz.f291 = some m291 := by kernel_rfl
theorem c296 : cfunc Go.Proofs.Tryz.prog (polL p296) Go.Proofs.Tryz.f296 = some m296 := by kernel_rfl
theorem c313 : cfunc Go.Proofs.Tryz.prog (polL p313) Go.Proofs.Tryz.f313 = some m313 := by kernel_rfl
theorem c318 : cfunc Go.Proofs.Tryz.prog (polL p318) Go.Proofs.Tryz.f318 = some m318 := by kernel_rfl
theorem c324 : cfunc Go.Proofs.Tryz.prog (polL p324) Go.Proofs.Tryz.f324 = some m324 := by kernel_rfl
theorem c353 : cfunc Go.Proofs.Tryz.prog (polL p353) Go.Proofs.Tryz.f353 = some m353 := by kernel_rfl
end Go.AM.D16
