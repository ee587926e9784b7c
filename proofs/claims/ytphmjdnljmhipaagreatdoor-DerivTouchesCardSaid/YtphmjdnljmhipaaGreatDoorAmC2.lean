import Derived.Test.YtphmjdnljmhipaaGreatDoorAmFast2
import Derived.Test.YtphmjdnljmhipaaGreatDoorAmTbl
import Derived.Test.YtphmjdnljmhipaaGreatDoorAmEv
import Derived.Test.YtphmjdnljmhipaaGreatDoorProg
import Derived.KernelRfl
set_option maxRecDepth 100000
namespace Go.AM.D16
open Go Go.AM Go.Proofs
theorem c8 : cfunc Tryz.prog (polL p8) Tryz.f8 = some m8 := by kernel_rfl
theorem c17 : cfunc Tryz.prog (polL p17) Tryz.f17 = some m17 := by kernel_rfl
theorem c23 : cfunc Tryz.prog (polL p23) Tryz.f23 = some m23 := by kernel_rfl
theorem c28 : cfunc Tryz.prog (polL p28) Tryz.f28 = some m28 := by kernel_rfl
theorem c32 : cfunc Tryz.prog (polL p32) Tryz.f32 = some m32 := by kernel_rfl
theorem c36 : cfunc Tryz.prog (polL p36) Tryz.f36 = some m36 := by kernel_rfl
theorem c40 : cfunc Tryz.prog (polL p40) Tryz.f40 = some m40 := by kernel_rfl
theorem c44 : cfunc Tryz.prog (polL p44) Tryz.f44 = some m44 := by kernel_rfl
theorem c54 : cfunc Tryz.prog (polL p54) Tryz.f54 = some m54 := by kernel_rfl
theorem c59 : cfunc Tryz.prog (polL p59) Tryz.f59 = some m59 := by kernel_rfl
theorem c64 : cfunc Tryz.prog (polL p64) Tryz.f64 = some m64 := by kernel_rfl
theorem c68 : cfunc Tryz.prog (polL p68) Tryz.f68 = some m68 := by kernel_rfl
theorem c72 : cfunc Tryz.prog (polL p72) Tryz.f72 = some m72 := by kernel_rfl
theorem c82 : cfunc Tryz.prog (polL p82) Tryz.f82 = some m82 := by kernel_rfl
theorem c86 : cfunc Tryz.prog (polL p86) Tryz.f86 = some m86 := by kernel_rfl
theorem c91 : cfunc Tryz.prog (polL p91) Tryz.f91 = some m91 := by kernel_rfl
theorem c99 : cfunc Tryz.prog (polL p99) Tryz.f99 = some m99 := by kernel_rfl
theorem c103 : cfunc Tryz.prog (polL p103) Tryz.f103 = some m103 := by kernel_rfl
theorem c107 : cfunc Tryz.prog (polL p107) Tryz.f107 = some m107 := by kernel_rfl
theorem c111 : cfunc Tryz.prog (polL p111) Tryz.f111 = some m111 := by kernel_rfl
theorem c119 : cfunc Tryz.prog (polL p119) Tryz.f119 = some m119 := by kernel_rfl
theorem c123 : cfunc Tryz.prog (polL p123) Tryz.f123 = some m123 := by kernel_rfl
theorem c128 : cfunc Tryz.prog (polL p128) Tryz.f128 = some m128 := by kernel_rfl
theorem c132 : cfunc Tryz.prog (polL p132) Tryz.f132 = some m132 := by kernel_rfl
theorem c136 : cfunc Tryz.prog (polL p136) Tryz.f136 = some m136 := by kernel_rfl
theorem c143 : cfunc Tryz.prog (polL p143) Tryz.f143 = some m143 := by kernel_rfl
theorem c147 : cfunc Tryz.prog (polL p147) Tryz.f147 = some m147 := by kernel_rfl
theorem c151 : cfunc Tryz.prog (polL p151) Tryz.f151 = some m151 := by kernel_rfl
theorem c155 : cfunc Tryz.prog (polL p155) Tryz.f155 = some m155 := by kernel_rfl
theorem c159 : cfunc Tryz.prog (polL p159) Tryz.f159 = some m159 := by kernel_rfl
theorem c163 : cfunc Tryz.prog (polL p163) Tryz.f163 = some m163 := by kernel_rfl
theorem c174 : cfunc Tryz.prog (polL p174) Tryz.f174 = some m174 := by kernel_rfl
theorem c178 : cfunc Tryz.prog (polL p178) Tryz.f178 = some m178 := by kernel_rfl
theorem c194 : cfunc Tryz.prog (polL p194) Tryz.f194 = some m194 := by kernel_rfl
theorem c200 : cfunc Tryz.prog (polL p200) Tryz.f200 = some m200 := by kernel_rfl
theorem c204 : cfunc Tryz.prog (polL p204) Tryz.f204 = some m204 := by kernel_rfl
theorem c208 : cfunc Tryz.prog (polL p208) Tryz.f208 = some m208 := by kernel_rfl
theorem c212 : cfunc Tryz.prog (polL p212) Tryz.f212 = some m212 := by kernel_rfl
theorem c222 : cfunc Tryz.prog (polL p222) Tryz.f222 = some m222 := by kernel_rfl
theorem c226 : cfunc Tryz.prog (polL p226) Tryz.f226 = some m226 := by kernel_rfl
theorem c235 : cfunc Tryz.prog (polL p235) Tryz.f235 = some m235 := by kernel_rfl
theorem c241 : cfunc Tryz.prog (polL p241) Tryz.f241 = some m241 := by kernel_rfl
theorem c246 : cfunc Tryz.prog (polL p246) Tryz.f246 = some m246 := by kernel_rfl
theorem c251 : cfunc Tryz.prog (polL p251) Tryz.f251 = some m251 := by kernel_rfl
theorem c257 : cfunc Tryz.prog (polL p257) Tryz.f257 = some m257 := by kernel_rfl
theorem c263 : cfunc Tryz.prog (polL p263) Tryz.f263 = some m263 := by kernel_rfl
theorem c267 : cfunc Tryz.prog (polL p267) Tryz.f267 = some m267 := by kernel_rfl
theorem c271 : cfunc Tryz.prog (polL p271) Tryz.f271 = some m271 := by kernel_rfl
theorem c277 : cfunc Tryz.prog (polL p277) Tryz.f277 = some m277 := by kernel_rfl
theorem c283 : cfunc Tryz.prog (polL p283) Tryz.f283 = some m283 := by kernel_rfl
theorem c287 : cfunc Tryz.prog (polL p287) Tryz.f287 = some m287 := by kernel_rfl
theorem c291 : cfunc Tryz.prog (polL p291) Tryz.f291 = some m291 := by kernel_rfl
theorem c296 : cfunc Tryz.prog (polL p296) Tryz.f296 = some m296 := by kernel_rfl
theorem c313 : cfunc Tryz.prog (polL p313) Tryz.f313 = some m313 := by kernel_rfl
theorem c318 : cfunc Tryz.prog (polL p318) Tryz.f318 = some m318 := by kernel_rfl
theorem c324 : cfunc Tryz.prog (polL p324) Tryz.f324 = some m324 := by kernel_rfl
theorem c353 : cfunc Tryz.prog (polL p353) Tryz.f353 = some m353 := by kernel_rfl
end Go.AM.D16
