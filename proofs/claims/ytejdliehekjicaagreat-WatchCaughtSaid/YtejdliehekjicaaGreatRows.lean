/-
  NARROWER THAN 'FOR EVERY INPUT', by the rows' own cells (each row's printed sentence says how): WatchOrder: loops · WatchCaught: loops · WatchAsCome: loops.
  DERIVED. THE GIVEN ROWS OF THIS SEAT. 3 by the template 'for every input the law returns true; each argument reads behind the call as it read before'; 0 by the template 'total and deterministic' (their statements: YtejdliehekjicaaGreatTotals.lean).
  GIVEN WITH THE SEED: the statements are not yours to turn. If you find one false, say at which input.
  Laid BY PROGRAM, IN A SANDBOX (cutbox-rows.mjs): the forced cells as the released guide's own fill.sh prints them over the translation 13cd72b2782496bf… (all of the seat's roots in one cut). By AI agents, Wed Nov 11 2026. No macro, syntax, notation, axiom, sorry.
-/
import Derived.Test.YtejdliehekjicaaGreatChecked
import GoSem.Claim
import GoSem.ClaimJoined
import GoSem.ClaimMapViews
import Derived.JoinedTies
import Derived.KernelRfl
namespace Go.Proofs.YtejdliehekjicaaGreat
/- THE CELL 'sum', in the pinned program and in every row, IS THE sha256 OF THE DUMP (.gsa) THAT YtejdliehekjicaaGreatProg.lean LOADS. Nothing in Lean hashes anything: it is a label: what it is worth is what the hold of that sum in a sandbox is worth. -/
noncomputable def Tryz.pinned : Pinned := { name := "ytejdliehekjicaagreat", sum := "13cd72b2782496bfe2403aaa6e3b4cd276fe8c764b0152ea6b90d8b726123f17", checked := Tryz.checked }
namespace Rows
def none {H : Type} : Left H := { results := [], args := [] }

/-- 'madrigallaw32.WatchOrder': WHATEVER THE INPUT: true; the input reads as it did. -/
def watchOrderSpec : ChangeSpec := { name := "watchOrder", fn := fun _ => fun
  | [d1, d2] => { results := [.lit (.bool true)], args := [d1, d2] }
  | _ => none }
def watchOrderRow : OpenClaim := { program := "ytejdliehekjicaagreat", sum := "13cd72b2782496bfe2403aaa6e3b4cd276fe8c764b0152ea6b90d8b726123f17", func := "madrigal/madrigallaw32.WatchOrder", spec := "watchOrder", inPlace := ["internal/bytealg.IndexByteString", "internal/bytealg.IndexString", "internal/bytealg.CountString", "slices.overlaps[*madrigal/watch.point]"], unfollowed := true, recurses := true, named := ["internal/bytealg.MaxLen"], loops := true, apart := false }
def WatchOrderSaid : Prop := watchOrderRow.holds Tryz.pinned (OpenSpec.ofChange watchOrderSpec)

/-- ITS FALSE NEIGHBOUR: 'it returns false'. Refute it at one input. -/
def watchOrderWrong : ChangeSpec := { name := "watchOrder", fn := fun _ => fun
  | [d1, d2] => { results := [.lit (.bool false)], args := [d1, d2] }
  | _ => none }
def WatchOrderWrongFalsely : Prop := watchOrderRow.holds Tryz.pinned (OpenSpec.ofChange watchOrderWrong)

/-- 'madrigallaw32.WatchCaught': WHATEVER THE INPUT: true; the input reads as it did. -/
def watchCaughtSpec : ChangeSpec := { name := "watchCaught", fn := fun _ => fun
  | [d1, d2] => { results := [.lit (.bool true)], args := [d1, d2] }
  | _ => none }
def watchCaughtRow : OpenClaim := { program := "ytejdliehekjicaagreat", sum := "13cd72b2782496bfe2403aaa6e3b4cd276fe8c764b0152ea6b90d8b726123f17", func := "madrigal/madrigallaw32.WatchCaught", spec := "watchCaught", inPlace := ["internal/bytealg.IndexByteString", "internal/bytealg.IndexString", "internal/bytealg.CountString", "slices.overlaps[*madrigal/watch.point]", "slices.overlaps[madrigal/api.WtEntry]"], unfollowed := true, recurses := true, named := ["internal/bytealg.MaxLen"], loops := true, apart := false }
def WatchCaughtSaid : Prop := watchCaughtRow.holds Tryz.pinned (OpenSpec.ofChange watchCaughtSpec)

/-- ITS FALSE NEIGHBOUR: 'it returns false'. Refute it at one input. -/
def watchCaughtWrong : ChangeSpec := { name := "watchCaught", fn := fun _ => fun
  | [d1, d2] => { results := [.lit (.bool false)], args := [d1, d2] }
  | _ => none }
def WatchCaughtWrongFalsely : Prop := watchCaughtRow.holds Tryz.pinned (OpenSpec.ofChange watchCaughtWrong)

/-- 'madrigallaw32.WatchAsCome': WHATEVER THE INPUT: true; the input reads as it did. -/
def watchAsComeSpec : ChangeSpec := { name := "watchAsCome", fn := fun _ => fun
  | [d1, d2] => { results := [.lit (.bool true)], args := [d1, d2] }
  | _ => none }
def watchAsComeRow : OpenClaim := { program := "ytejdliehekjicaagreat", sum := "13cd72b2782496bfe2403aaa6e3b4cd276fe8c764b0152ea6b90d8b726123f17", func := "madrigal/madrigallaw32.WatchAsCome", spec := "watchAsCome", inPlace := ["internal/bytealg.IndexByteString", "internal/bytealg.IndexString", "internal/bytealg.CountString", "slices.overlaps[*madrigal/watch.point]"], unfollowed := true, recurses := true, named := ["internal/bytealg.MaxLen"], loops := true, apart := false }
def WatchAsComeSaid : Prop := watchAsComeRow.holds Tryz.pinned (OpenSpec.ofChange watchAsComeSpec)

/-- ITS FALSE NEIGHBOUR: 'it returns false'. Refute it at one input. -/
def watchAsComeWrong : ChangeSpec := { name := "watchAsCome", fn := fun _ => fun
  | [d1, d2] => { results := [.lit (.bool false)], args := [d1, d2] }
  | _ => none }
def WatchAsComeWrongFalsely : Prop := watchAsComeRow.holds Tryz.pinned (OpenSpec.ofChange watchAsComeWrong)

/- THE SECOND FORM. 'bulk': how many values and letters a reading holds, each counted each time it is reached (what is shared counts as often as it is met; a slice's spare places count too). A statement '..UptoSaid' is the law's where the arguments, and the package variables that the reading takes, are together of bulk at most 1048576: NARROWER than '..Said'. Prove '..Said' where nothing that the law and all that it calls make is longer than what came in: it says more and counts as full. Else prove '..UptoSaid'. A law counts once. -/
mutual
def uptoBulk {H : Type} : DataW H → Nat
  | .lit (.string bytes) => bytes.length + 1
  | .lit _ => 1
  | .nil => 1
  | .ptr d => uptoBulk d + 1
  | .slice elems spare => uptoBulkAll elems + uptoBulkAll spare + 1
  | .agg parts => uptoBulkAll parts + 1
  | .iface _ d => uptoBulk d + 1
  | .map entries => uptoBulkEntries entries + 1
  | .held _ => 1
def uptoBulkAll {H : Type} : List (DataW H) → Nat
  | [] => 0
  | d :: r => uptoBulk d + uptoBulkAll r
def uptoBulkEntries {H : Type} : List (Lit × DataW H) → Nat
  | [] => 0
  | x :: r => uptoBulkEntry x + uptoBulkEntries r
def uptoBulkEntry {H : Type} : Lit × DataW H → Nat
  | (.string bytes, d) => bytes.length + uptoBulk d + 1
  | (_, d) => uptoBulk d + 1
 end
def uptoSmall : (H : Type) → List (DataW H) → Bool := fun _ ds => decide (uptoBulkAll ds ≤ 1048576)
def OpenSpec.upto (s : _root_.Go.ChangeSpec) : _root_.Go.OpenSpec := { _root_.Go.OpenSpec.ofChange s with cond := some uptoSmall }

/-- 'madrigallaw32.WatchOrder', WHERE WHAT IT READS IS OF BULK AT MOST 1048576: true; the input reads as it did. -/
def watchOrderUptoRow : OpenClaim := { program := "ytejdliehekjicaagreat", sum := "13cd72b2782496bfe2403aaa6e3b4cd276fe8c764b0152ea6b90d8b726123f17", func := "madrigal/madrigallaw32.WatchOrder", spec := "watchOrder", inPlace := ["internal/bytealg.IndexByteString", "internal/bytealg.IndexString", "internal/bytealg.CountString", "slices.overlaps[*madrigal/watch.point]"], unfollowed := true, recurses := true, named := ["internal/bytealg.MaxLen"], loops := true, apart := false, narrowed := true }
def WatchOrderUptoSaid : Prop := watchOrderUptoRow.holds Tryz.pinned (OpenSpec.upto watchOrderSpec)

/-- 'madrigallaw32.WatchCaught', WHERE WHAT IT READS IS OF BULK AT MOST 1048576: true; the input reads as it did. -/
def watchCaughtUptoRow : OpenClaim := { program := "ytejdliehekjicaagreat", sum := "13cd72b2782496bfe2403aaa6e3b4cd276fe8c764b0152ea6b90d8b726123f17", func := "madrigal/madrigallaw32.WatchCaught", spec := "watchCaught", inPlace := ["internal/bytealg.IndexByteString", "internal/bytealg.IndexString", "internal/bytealg.CountString", "slices.overlaps[*madrigal/watch.point]", "slices.overlaps[madrigal/api.WtEntry]"], unfollowed := true, recurses := true, named := ["internal/bytealg.MaxLen"], loops := true, apart := false, narrowed := true }
def WatchCaughtUptoSaid : Prop := watchCaughtUptoRow.holds Tryz.pinned (OpenSpec.upto watchCaughtSpec)

/-- 'madrigallaw32.WatchAsCome', WHERE WHAT IT READS IS OF BULK AT MOST 1048576: true; the input reads as it did. -/
def watchAsComeUptoRow : OpenClaim := { program := "ytejdliehekjicaagreat", sum := "13cd72b2782496bfe2403aaa6e3b4cd276fe8c764b0152ea6b90d8b726123f17", func := "madrigal/madrigallaw32.WatchAsCome", spec := "watchAsCome", inPlace := ["internal/bytealg.IndexByteString", "internal/bytealg.IndexString", "internal/bytealg.CountString", "slices.overlaps[*madrigal/watch.point]"], unfollowed := true, recurses := true, named := ["internal/bytealg.MaxLen"], loops := true, apart := false, narrowed := true }
def WatchAsComeUptoSaid : Prop := watchAsComeUptoRow.holds Tryz.pinned (OpenSpec.upto watchAsComeSpec)

end Rows
end Go.Proofs.YtejdliehekjicaaGreat
