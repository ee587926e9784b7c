import Derived.Test.YtphmjdnljmhipaaGreatDoorAmFast2
import Derived.Test.YtphmjdnljmhipaaGreatDoorAmS0
import Derived.Test.YtphmjdnljmhipaaGreatDoorAmS1
import Derived.Test.YtphmjdnljmhipaaGreatDoorAmS2
import Derived.Test.YtphmjdnljmhipaaGreatDoorAmS3
import Derived.Test.YtphmjdnljmhipaaGreatDoorAmS4
import Derived.Test.YtphmjdnljmhipaaGreatDoorAmS5
import Derived.Test.YtphmjdnljmhipaaGreatDoorAmS6
import Derived.Test.YtphmjdnljmhipaaGreatDoorAmS7
namespace Go.AM.D16
open Go Go.AM
theorem sane_ev : ∃ fr1 st1 st', (Ev (gamT tbl hnd 60) 60 (tailAt m7.code 0) F0 L0 (.norm fr1 st1) \/ Ev (gamT tbl hnd 60) 60 (tailAt m7.code 0) F0 L0 (.ret fr1 st1)) /\ fr1.ds = [] /\ resultA fr1 st1 m7.res = .ret (.bool true) st' := by
 obtain ⟨fr1, st1, st', hev, hds, hr⟩ := last_ev (lastK_of s7)
 refine ⟨fr1, st1, st', ?_, hds, hr⟩
 rcases hev with hev | hev
 ·exact .inl (piece_ev (pieceK_of s0) (by rw [tailAt_add]; exact piece_ev (pieceK_of s1) (by rw [tailAt_add]; exact piece_ev (pieceK_of s2) (by rw [tailAt_add]; exact piece_ev (pieceK_of s3) (by rw [tailAt_add]; exact piece_ev (pieceK_of s4) (by rw [tailAt_add]; exact piece_ev (pieceK_of s5) (by rw [tailAt_add]; exact piece_ev (pieceK_of s6) (by rw [tailAt_add]; exact hev))))))))
 ·exact .inr (piece_ev (pieceK_of s0) (by rw [tailAt_add]; exact piece_ev (pieceK_of s1) (by rw [tailAt_add]; exact piece_ev (pieceK_of s2) (by rw [tailAt_add]; exact piece_ev (pieceK_of s3) (by rw [tailAt_add]; exact piece_ev (pieceK_of s4) (by rw [tailAt_add]; exact piece_ev (pieceK_of s5) (by rw [tailAt_add]; exact piece_ev (pieceK_of s6) (by rw [tailAt_add]; exact hev))))))))
end Go.AM.D16
