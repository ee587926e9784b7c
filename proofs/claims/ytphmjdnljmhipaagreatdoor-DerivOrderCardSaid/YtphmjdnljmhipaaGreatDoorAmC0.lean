import Derived.Test.YtphmjdnljmhipaaGreatDoorAmFast2
import Derived.Test.YtphmjdnljmhipaaGreatDoorAmTbl
import Derived.Test.YtphmjdnljmhipaaGreatDoorAmEv
import Derived.Test.YtphmjdnljmhipaaGreatDoorProg
import Derived.KernelRfl
/- The table is that of the program, part 0. Made by program. -/
set_option maxRecDepth 100000
namespace Go.AM.D16
open Go Go.AM
theorem c3 : cfunc Go.Proofs.Tryz.prog (polL p3) Go.Proofs.Tryz.f3 = some m3 := by kernel_rfl
theorem c9 : cfunc Go.Proofs.Tryz.prog (polL p9) Go.Proofs.Tryz.f9 = some m9 := by kernel_rfl
theorem c17 : cfunc Go.Proofs.Tryz.prog (polL p17) Go.Proofs.Tryz.f17 = some m17 := by kernel_rfl
theorem c23 : cfunc Go.Proofs.Tryz.prog (polL p23) Go.Proofs.Tryz.f23 = some m23 := by kernel_rfl
theorem c28 : cfunc Go.Proofs.Tryz.prog (polL p28) Go.Proofs.Tryz.f28 = some m28 := by kernel_rfl
theorem c32 : cfunc Go.Proofs.Tryz.prog (polL p32) Go.Proofs.Tryz.f32 = some m32 := by kernel_rfl
theorem c36 : cfunc Go.Proofs.Tryz.prog (polL p36) Go.Proofs.Tryz.f36 = some m36 := by kernel_rfl
theorem c40 : cfunc Go.Proofs.Tryz.prog (polL p40) Go.Proofs.Tryz.f40 = some m40 := by kernel_rfl
theorem c44 : cfunc Go.Proofs.Tryz.prog (polL p44) Go.Proofs.Tryz.f44 = some m44 := by kernel_rfl
theorem c54 : cfunc Go.Proofs.Tryz.prog (polL p54) Go.Proofs.Tryz.f54 = some m54 := by kernel_rfl
theorem c59 : cfunc Go.Proofs.Tryz.prog (polL p59) Go.Proofs.Tryz.f59 = some m59 := by kernel_rfl
theorem c64 : cfunc Go.Proofs.Tryz.prog (polL p64) Go.Proofs.Tryz.f64 = some m64 := by kernel_rfl
theorem c68 : cfunc Go.Proofs.Tryz.prog (polL p68) Go.Proofs.Tryz.f68 = some m68 := by kernel_rfl
theorem c72 : cfunc Go.Proofs.Tryz.prog (polL p72) Go.Proofs.Tryz.f72 = some m72 := by kernel_rfl
theorem c83 : cfunc Go.Proofs.Tryz.prog (polL p83) Go.Proofs.Tryz.f83 = some m83 := by kernel_rfl
theorem c87 : cfunc Go.Proofs.Tryz.prog (polL p87) Go.Proofs.Tryz.f87 = some m87 := by kernel_rfl
theorem c92 : cfunc Go.Proofs.Tryz.prog (polL p92) Go.Proofs.Tryz.f92 = some m92 := by kernel_rfl
theorem c100 : cfunc Go.Proofs.Tryz.prog (polL p100) Go.Proofs.Tryz.f100 = some m100 := by kernel_rfl
theorem c104 : cfunc Go.Proofs.Tryz.prog (polL p104) Go.Proofs.Tryz.f104 = some m104 := by kernel_rfl
theorem c108 : cfunc Go.Proofs.Tryz.prog (polL p108) Go.Proofs.Tryz.f108 = some m108 := by kernel_rfl
theorem c112 : cfunc Go.Proofs.Tryz.prog (polL p112) Go.Proofs.Tryz.f112 = some m112 := by kernel_rfl
theorem c120 : cfunc Go.Proofs.Tryz.prog (polL p120) Go.Proofs.Tryz.f120 = some m120 := by kernel_rfl
theorem c125 : cfunc Go.Proofs.Tryz.prog (polL p125) Go.Proofs.Tryz.f125 = some m125 := by kernel_rfl
theorem c129 : cfunc Go.Proofs.Tryz.prog (polL p129) Go.Proofs.Tryz.f129 = some m129 := by kernel_rfl
theorem c133 : cfunc Go.Proofs.Tryz.prog (polL p133) Go.Proofs.Tryz.f133 = some m133 := by kernel_rfl
theorem c137 : cfunc Go.Proofs.Tryz.prog (polL p137) Go.Proofs.Tryz.f137 = some m137 := by kernel_rfl
theorem c144 : cfunc Go.Proofs.Tryz.prog (polL p144) Go.Proofs.Tryz.f144 = some m144 := by kernel_rfl
theorem c148 : cfunc Go.Proofs.Tryz.prog (polL p148) Go.Proofs.Tryz.f148 = some m148 := by kernel_rfl
theorem c152 : cfunc Go.Proofs.Tryz.prog (polL p152) Go.Proofs.Tryz.f152 = some m152 := by kernel_rfl
theorem c156 : cfunc Go.Proofs.Tryz.prog (polL p156) Go.Proofs.Tryz.f156 = some m156 := by kernel_rfl
theorem c160 : cfunc Go.Proofs.Tryz.prog (polL p160) Go.Proofs.Tryz.f160 = some m160 := by kernel_rfl
theorem c164 : cfunc Go.Proofs.Tryz.prog (polL p164) Go.Proofs.Tryz.f164 = some m164 := by kernel_rfl
theorem c175 : cfunc Go.Proofs.Tryz.prog (polL p175) Go.Proofs.Tryz.f175 = some m175 := by kernel_rfl
theorem c179 : cfunc Go.Proofs.Tryz.prog (polL p179) Go.Proofs.Tryz.f179 = some m179 := by kernel_rfl
theorem c195 : cfunc Go.Proofs.Tryz.prog (polL p195) Go.Proofs.Tryz.f195 = some m195 := by kernel_rfl
theorem c201 : cfunc Go.Proofs.Tryz.prog (polL p201) Go.Proofs.Tryz.f201 = some m201 := by kernel_rfl
theorem c205 : cfunc Go.Proofs.Tryz.prog (polL p205) Go.Proofs.Tryz.f205 = some m205 := by kernel_rfl
theorem c209 : cfunc Go.Proofs.Tryz.prog (polL p209) Go.Proofs.Tryz.f209 = some m209 := by kernel_rfl
theorem c213 : cfunc Go.Proofs.Tryz.prog (polL p213) Go.Proofs.Tryz.f213 = some m213 := by kernel_rfl
theorem c223 : cfunc Go.Proofs.Tryz.prog (polL p223) Go.Proofs.Tryz.f223 = some m223 := by kernel_rfl
theorem c227 : cfunc Go.Proofs.Tryz.prog (polL p227) Go.Proofs.Tryz.f227 = some m227 := by kernel_rfl
theorem c238 : cfunc Go.Proofs.Tryz.prog (polL p238) Go.Proofs.Tryz.f238 = some m238 := by kernel_rfl
theorem c242 : cfunc Go.Proofs.Tryz.prog (polL p242) Go.Proofs.Tryz.f242 = some m242 := by kernel_rfl
theorem c248 : cfunc Go.Proofs.Tryz.prog (polL p248) Go.Proofs.Tryz.f248 = some m248 := by kernel_rfl
theorem c252 : cfunc Go.Proofs.Tryz.prog (polL p252) Go.Proofs.Tryz.f252 = some m252 := by kernel_rfl
theorem c260 : cfunc Go.Proofs.Tryz.prog (polL p260) Go.Proofs.Tryz.f260 = some m260 := by kernel_rfl
theorem c264 : cfunc Go.Proofs.Tryz.prog (polL p264) Go.Proofs.Tryz.f264 = some m264 := by kernel_rfl
theorem c268 : cfunc Go.Proofs.Tryz.prog (polL p268) Go.Proofs.Tryz.f268 = some m268 := by kernel_rfl
theorem c274 : cfunc Go.Proofs.Tryz.prog (polL p274) Go.Proofs.Tryz.f274 = some m274 := by kernel_rfl
theorem c278 : cfunc Go.Proofs.Tryz.prog (polL p278) Go.Proofs.Tryz.f278 = some m278 := by kernel_rfl
theorem c284 : cfunc Go.Proofs.Tryz.prog (polL p284) Go.Proofs.Tryz.f284 = some m284 := by kernel_rfl
theorem c288 : cfunc Go.Proofs.Tryz.prog (polL p288) Go.Proofs.Tryz.f288 = some m288 := by kernel_rfl
theorem c293 : cfunc Go.Proofs.Tryz.prog (polL p293) Go.Proofs.Tryz.f293 = some m293 := by kernel_rfl
theorem c297 : cfunc Go.Proofs.Tryz.prog (polL p297) Go.Proofs.Tryz.f297 = some m297 := by kernel_rfl
theorem c314 : cfunc Go.Proofs.Tryz.prog (polL p314) Go.Proofs.Tryz.f314 = some m314 := by kernel_rfl
theorem c319 : cfunc Go.Proofs.Tryz.prog (polL p319) Go.Proofs.Tryz.f319 = some m319 := by kernel_rfl
theorem c327 : cfunc Go.Proofs.Tryz.prog (polL p327) Go.Proofs.Tryz.f327 = some m327 := by kernel_rfl
theorem c371 : cfunc Go.Proofs.Tryz.prog (polL p371) Go.Proofs.Tryz.f371 = some m371 := by kernel_rfl
end Go.AM.D16
