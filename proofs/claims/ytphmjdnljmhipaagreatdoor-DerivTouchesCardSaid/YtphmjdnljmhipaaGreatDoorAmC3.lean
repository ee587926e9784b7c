import Derived.Test.YtphmjdnljmhipaaGreatDoorAmFast2
import Derived.Test.YtphmjdnljmhipaaGreatDoorAmTbl
import Derived.Test.YtphmjdnljmhipaaGreatDoorAmEv
import Derived.Test.YtphmjdnljmhipaaGreatDoorProg
import Derived.KernelRfl
set_option maxRecDepth 100000
namespace Go.AM.D16
open Go Go.AM Go.Proofs
theorem c9 : cfunc Tryz.prog (polL p9) Tryz.f9 = some m9 := by kernel_rfl
theorem c18 : cfunc Tryz.prog (polL p18) Tryz.f18 = some m18 := by kernel_rfl
theorem c25 : cfunc Tryz.prog (polL p25) Tryz.f25 = some m25 := by kernel_rfl
theorem c29 : cfunc Tryz.prog (polL p29) Tryz.f29 = some m29 := by kernel_rfl
theorem c33 : cfunc Tryz.prog (polL p33) Tryz.f33 = some m33 := by kernel_rfl
theorem c37 : cfunc Tryz.prog (polL p37) Tryz.f37 = some m37 := by kernel_rfl
theorem c41 : cfunc Tryz.prog (polL p41) Tryz.f41 = some m41 := by kernel_rfl
theorem c45 : cfunc Tryz.prog (polL p45) Tryz.f45 = some m45 := by kernel_rfl
theorem c55 : cfunc Tryz.prog (polL p55) Tryz.f55 = some m55 := by kernel_rfl
theorem c61 : cfunc Tryz.prog (polL p61) Tryz.f61 = some m61 := by kernel_rfl
theorem c65 : cfunc Tryz.prog (polL p65) Tryz.f65 = some m65 := by kernel_rfl
theorem c69 : cfunc Tryz.prog (polL p69) Tryz.f69 = some m69 := by kernel_rfl
theorem c73 : cfunc Tryz.prog (polL p73) Tryz.f73 = some m73 := by kernel_rfl
theorem c83 : cfunc Tryz.prog (polL p83) Tryz.f83 = some m83 := by kernel_rfl
theorem c87 : cfunc Tryz.prog (polL p87) Tryz.f87 = some m87 := by kernel_rfl
theorem c92 : cfunc Tryz.prog (polL p92) Tryz.f92 = some m92 := by kernel_rfl
theorem c100 : cfunc Tryz.prog (polL p100) Tryz.f100 = some m100 := by kernel_rfl
theorem c104 : cfunc Tryz.prog (polL p104) Tryz.f104 = some m104 := by kernel_rfl
theorem c108 : cfunc Tryz.prog (polL p108) Tryz.f108 = some m108 := by kernel_rfl
theorem c112 : cfunc Tryz.prog (polL p112) Tryz.f112 = some m112 := by kernel_rfl
theorem c120 : cfunc Tryz.prog (polL p120) Tryz.f120 = some m120 := by kernel_rfl
theorem c125 : cfunc Tryz.prog (polL p125) Tryz.f125 = some m125 := by kernel_rfl
theorem c129 : cfunc Tryz.prog (polL p129) Tryz.f129 = some m129 := by kernel_rfl
theorem c133 : cfunc Tryz.prog (polL p133) Tryz.f133 = some m133 := by kernel_rfl
theorem c137 : cfunc Tryz.prog (polL p137) Tryz.f137 = some m137 := by kernel_rfl
theorem c144 : cfunc Tryz.prog (polL p144) Tryz.f144 = some m144 := by kernel_rfl
theorem c148 : cfunc Tryz.prog (polL p148) Tryz.f148 = some m148 := by kernel_rfl
theorem c152 : cfunc Tryz.prog (polL p152) Tryz.f152 = some m152 := by kernel_rfl
theorem c156 : cfunc Tryz.prog (polL p156) Tryz.f156 = some m156 := by kernel_rfl
theorem c160 : cfunc Tryz.prog (polL p160) Tryz.f160 = some m160 := by kernel_rfl
theorem c164 : cfunc Tryz.prog (polL p164) Tryz.f164 = some m164 := by kernel_rfl
theorem c175 : cfunc Tryz.prog (polL p175) Tryz.f175 = some m175 := by kernel_rfl
theorem c179 : cfunc Tryz.prog (polL p179) Tryz.f179 = some m179 := by kernel_rfl
theorem c195 : cfunc Tryz.prog (polL p195) Tryz.f195 = some m195 := by kernel_rfl
theorem c201 : cfunc Tryz.prog (polL p201) Tryz.f201 = some m201 := by kernel_rfl
theorem c205 : cfunc Tryz.prog (polL p205) Tryz.f205 = some m205 := by kernel_rfl
theorem c209 : cfunc Tryz.prog (polL p209) Tryz.f209 = some m209 := by kernel_rfl
theorem c213 : cfunc Tryz.prog (polL p213) Tryz.f213 = some m213 := by kernel_rfl
theorem c223 : cfunc Tryz.prog (polL p223) Tryz.f223 = some m223 := by kernel_rfl
theorem c227 : cfunc Tryz.prog (polL p227) Tryz.f227 = some m227 := by kernel_rfl
theorem c238 : cfunc Tryz.prog (polL p238) Tryz.f238 = some m238 := by kernel_rfl
theorem c242 : cfunc Tryz.prog (polL p242) Tryz.f242 = some m242 := by kernel_rfl
theorem c248 : cfunc Tryz.prog (polL p248) Tryz.f248 = some m248 := by kernel_rfl
theorem c252 : cfunc Tryz.prog (polL p252) Tryz.f252 = some m252 := by kernel_rfl
theorem c260 : cfunc Tryz.prog (polL p260) Tryz.f260 = some m260 := by kernel_rfl
theorem c264 : cfunc Tryz.prog (polL p264) Tryz.f264 = some m264 := by kernel_rfl
theorem c268 : cfunc Tryz.prog (polL p268) Tryz.f268 = some m268 := by kernel_rfl
theorem c274 : cfunc Tryz.prog (polL p274) Tryz.f274 = some m274 := by kernel_rfl
theorem c278 : cfunc Tryz.prog (polL p278) Tryz.f278 = some m278 := by kernel_rfl
theorem c284 : cfunc Tryz.prog (polL p284) Tryz.f284 = some m284 := by kernel_rfl
theorem c288 : cfunc Tryz.prog (polL p288) Tryz.f288 = some m288 := by kernel_rfl
theorem c293 : cfunc Tryz.prog (polL p293) Tryz.f293 = some m293 := by kernel_rfl
theorem c297 : cfunc Tryz.prog (polL p297) Tryz.f297 = some m297 := by kernel_rfl
theorem c314 : cfunc Tryz.prog (polL p314) Tryz.f314 = some m314 := by kernel_rfl
theorem c319 : cfunc Tryz.prog (polL p319) Tryz.f319 = some m319 := by kernel_rfl
theorem c327 : cfunc Tryz.prog (polL p327) Tryz.f327 = some m327 := by kernel_rfl
theorem c371 : cfunc Tryz.prog (polL p371) Tryz.f371 = some m371 := by kernel_rfl
end Go.AM.D16
