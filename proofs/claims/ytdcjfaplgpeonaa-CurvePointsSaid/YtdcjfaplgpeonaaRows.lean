/-
  No cell of these rows narrows 'for every input' (looked for: loops, veiled, ifaces, maps, wideKeys, modest, calm, conditions, laid).
  DERIVED. THE GIVEN ROWS OF THIS SEAT. 10 by the template 'for every input the law returns true; each argument reads behind the call as it read before'; 0 by the template 'total and deterministic' (their statements: YtdcjfaplgpeonaaTotals.lean).
  GIVEN WITH THE SEED: the statements are not yours to turn. If you find one false, say at which input.
  Laid BY PROGRAM, IN A SANDBOX (cutbox-rows.mjs): the forced cells as the released guide's own fill.sh prints them over the translation 1b7c59493cb4807d… (all of the seat's roots in one cut). By AI agents, Wed Nov 11 2026. No macro, syntax, notation, axiom, sorry.
-/
import Derived.Test.YtdcjfaplgpeonaaChecked
import GoSem.Claim
import GoSem.ClaimJoined
import GoSem.ClaimMapViews
import Derived.JoinedTies
import Derived.KernelRfl
namespace Go.Proofs.Ytdcjfaplgpeonaa
/- THE CELL 'sum', in the pinned program and in every row, IS THE sha256 OF THE DUMP (.gsa) THAT YtdcjfaplgpeonaaProg.lean LOADS. Nothing in Lean hashes anything: it is a label: what it is worth is what the hold of that sum in a sandbox is worth. -/
noncomputable def Try.pinned : Pinned := { name := "ytdcjfaplgpeonaa", sum := "1b7c59493cb4807d8cdef2b7ed7e9adc7e01ef214b719e802306528648a7e89d", checked := Try.checked }
namespace Rows
def none {H : Type} : Left H := { results := [], args := [] }

/-- 'damperlaw12.IndexPlays': WHATEVER THE INPUT: true; the input reads as it did. -/
def indexPlaysSpec : ChangeSpec := { name := "indexPlays", fn := fun _ => fun
  | [d] => { results := [.lit (.bool true)], args := [d] }
  | _ => none }
def indexPlaysRow : OpenClaim := { program := "ytdcjfaplgpeonaa", sum := "1b7c59493cb4807d8cdef2b7ed7e9adc7e01ef214b719e802306528648a7e89d", func := "damper/damperlaw12.IndexPlays", spec := "indexPlays", unfollowed := true, recurses := true, plainKeys := false, apart := false }
def IndexPlaysSaid : Prop := indexPlaysRow.holds Try.pinned (OpenSpec.ofChange indexPlaysSpec)

/-- ITS FALSE NEIGHBOUR: 'it returns false'. Refute it at one input. -/
def indexPlaysWrong : ChangeSpec := { name := "indexPlays", fn := fun _ => fun
  | [d] => { results := [.lit (.bool false)], args := [d] }
  | _ => none }
def IndexPlaysWrongFalsely : Prop := indexPlaysRow.holds Try.pinned (OpenSpec.ofChange indexPlaysWrong)

/-- 'damperlaw12.IndexApart': WHATEVER THE INPUT: true; the input reads as it did. -/
def indexApartSpec : ChangeSpec := { name := "indexApart", fn := fun _ => fun
  | [d1, d2] => { results := [.lit (.bool true)], args := [d1, d2] }
  | _ => none }
def indexApartRow : OpenClaim := { program := "ytdcjfaplgpeonaa", sum := "1b7c59493cb4807d8cdef2b7ed7e9adc7e01ef214b719e802306528648a7e89d", func := "damper/damperlaw12.IndexApart", spec := "indexApart", unfollowed := true, recurses := true, plainKeys := false, apart := false }
def IndexApartSaid : Prop := indexApartRow.holds Try.pinned (OpenSpec.ofChange indexApartSpec)

/-- ITS FALSE NEIGHBOUR: 'it returns false'. Refute it at one input. -/
def indexApartWrong : ChangeSpec := { name := "indexApart", fn := fun _ => fun
  | [d1, d2] => { results := [.lit (.bool false)], args := [d1, d2] }
  | _ => none }
def IndexApartWrongFalsely : Prop := indexApartRow.holds Try.pinned (OpenSpec.ofChange indexApartWrong)

/-- 'damperlaw09.ArenaHolds': WHATEVER THE INPUT: true; the input reads as it did. -/
def arenaHoldsSpec : ChangeSpec := { name := "arenaHolds", fn := fun _ => fun
  | [d1, d2] => { results := [.lit (.bool true)], args := [d1, d2] }
  | _ => none }
def arenaHoldsRow : OpenClaim := { program := "ytdcjfaplgpeonaa", sum := "1b7c59493cb4807d8cdef2b7ed7e9adc7e01ef214b719e802306528648a7e89d", func := "damper/damperlaw09.ArenaHolds", spec := "arenaHolds", plainKeys := false, apart := false }
def ArenaHoldsSaid : Prop := arenaHoldsRow.holds Try.pinned (OpenSpec.ofChange arenaHoldsSpec)

/-- ITS FALSE NEIGHBOUR: 'it returns false'. Refute it at one input. -/
def arenaHoldsWrong : ChangeSpec := { name := "arenaHolds", fn := fun _ => fun
  | [d1, d2] => { results := [.lit (.bool false)], args := [d1, d2] }
  | _ => none }
def ArenaHoldsWrongFalsely : Prop := arenaHoldsRow.holds Try.pinned (OpenSpec.ofChange arenaHoldsWrong)

/-- 'damperlaw09.ArenaPlays': WHATEVER THE INPUT: true; the input reads as it did. -/
def arenaPlaysSpec : ChangeSpec := { name := "arenaPlays", fn := fun _ => fun
  | [d1, d2] => { results := [.lit (.bool true)], args := [d1, d2] }
  | _ => none }
def arenaPlaysRow : OpenClaim := { program := "ytdcjfaplgpeonaa", sum := "1b7c59493cb4807d8cdef2b7ed7e9adc7e01ef214b719e802306528648a7e89d", func := "damper/damperlaw09.ArenaPlays", spec := "arenaPlays", plainKeys := false, apart := false }
def ArenaPlaysSaid : Prop := arenaPlaysRow.holds Try.pinned (OpenSpec.ofChange arenaPlaysSpec)

/-- ITS FALSE NEIGHBOUR: 'it returns false'. Refute it at one input. -/
def arenaPlaysWrong : ChangeSpec := { name := "arenaPlays", fn := fun _ => fun
  | [d1, d2] => { results := [.lit (.bool false)], args := [d1, d2] }
  | _ => none }
def ArenaPlaysWrongFalsely : Prop := arenaPlaysRow.holds Try.pinned (OpenSpec.ofChange arenaPlaysWrong)

/-- 'damperlaw09.ArenaEach': WHATEVER THE INPUT: true; the input reads as it did. -/
def arenaEachSpec : ChangeSpec := { name := "arenaEach", fn := fun _ => fun
  | [d1, d2, d3] => { results := [.lit (.bool true)], args := [d1, d2, d3] }
  | _ => none }
def arenaEachRow : OpenClaim := { program := "ytdcjfaplgpeonaa", sum := "1b7c59493cb4807d8cdef2b7ed7e9adc7e01ef214b719e802306528648a7e89d", func := "damper/damperlaw09.ArenaEach", spec := "arenaEach", unfollowed := true, recurses := true, plainKeys := false, apart := false }
def ArenaEachSaid : Prop := arenaEachRow.holds Try.pinned (OpenSpec.ofChange arenaEachSpec)

/-- ITS FALSE NEIGHBOUR: 'it returns false'. Refute it at one input. -/
def arenaEachWrong : ChangeSpec := { name := "arenaEach", fn := fun _ => fun
  | [d1, d2, d3] => { results := [.lit (.bool false)], args := [d1, d2, d3] }
  | _ => none }
def ArenaEachWrongFalsely : Prop := arenaEachRow.holds Try.pinned (OpenSpec.ofChange arenaEachWrong)

/-- 'damperlaw09.ArenaNils': WHATEVER THE INPUT: true; the input reads as it did. -/
def arenaNilsSpec : ChangeSpec := { name := "arenaNils", fn := fun _ => fun
  | [d1, d2] => { results := [.lit (.bool true)], args := [d1, d2] }
  | _ => none }
def arenaNilsRow : OpenClaim := { program := "ytdcjfaplgpeonaa", sum := "1b7c59493cb4807d8cdef2b7ed7e9adc7e01ef214b719e802306528648a7e89d", func := "damper/damperlaw09.ArenaNils", spec := "arenaNils", unfollowed := true, recurses := true, plainKeys := false, apart := false }
def ArenaNilsSaid : Prop := arenaNilsRow.holds Try.pinned (OpenSpec.ofChange arenaNilsSpec)

/-- ITS FALSE NEIGHBOUR: 'it returns false'. Refute it at one input. -/
def arenaNilsWrong : ChangeSpec := { name := "arenaNils", fn := fun _ => fun
  | [d1, d2] => { results := [.lit (.bool false)], args := [d1, d2] }
  | _ => none }
def ArenaNilsWrongFalsely : Prop := arenaNilsRow.holds Try.pinned (OpenSpec.ofChange arenaNilsWrong)

/-- 'damperlaw12.IndexEach': WHATEVER THE INPUT: true; the input reads as it did. -/
def indexEachSpec : ChangeSpec := { name := "indexEach", fn := fun _ => fun
  | [d1, d2, d3] => { results := [.lit (.bool true)], args := [d1, d2, d3] }
  | _ => none }
def indexEachRow : OpenClaim := { program := "ytdcjfaplgpeonaa", sum := "1b7c59493cb4807d8cdef2b7ed7e9adc7e01ef214b719e802306528648a7e89d", func := "damper/damperlaw12.IndexEach", spec := "indexEach", unfollowed := true, recurses := true, plainKeys := false, apart := false }
def IndexEachSaid : Prop := indexEachRow.holds Try.pinned (OpenSpec.ofChange indexEachSpec)

/-- ITS FALSE NEIGHBOUR: 'it returns false'. Refute it at one input. -/
def indexEachWrong : ChangeSpec := { name := "indexEach", fn := fun _ => fun
  | [d1, d2, d3] => { results := [.lit (.bool false)], args := [d1, d2, d3] }
  | _ => none }
def IndexEachWrongFalsely : Prop := indexEachRow.holds Try.pinned (OpenSpec.ofChange indexEachWrong)

/-- 'damperlaw16.CurveNumbers': WHATEVER THE INPUT: true; the input reads as it did. -/
def curveNumbersSpec : ChangeSpec := { name := "curveNumbers", fn := fun _ => fun
  | [d1, d2, d3] => { results := [.lit (.bool true)], args := [d1, d2, d3] }
  | _ => none }
def curveNumbersRow : OpenClaim := { program := "ytdcjfaplgpeonaa", sum := "1b7c59493cb4807d8cdef2b7ed7e9adc7e01ef214b719e802306528648a7e89d", func := "damper/damperlaw16.CurveNumbers", spec := "curveNumbers", inPlace := ["slices.overlaps[damper/ladder.Level]"], unfollowed := true, recurses := true, plainKeys := false, apart := false }
def CurveNumbersSaid : Prop := curveNumbersRow.holds Try.pinned (OpenSpec.ofChange curveNumbersSpec)

/-- ITS FALSE NEIGHBOUR: 'it returns false'. Refute it at one input. -/
def curveNumbersWrong : ChangeSpec := { name := "curveNumbers", fn := fun _ => fun
  | [d1, d2, d3] => { results := [.lit (.bool false)], args := [d1, d2, d3] }
  | _ => none }
def CurveNumbersWrongFalsely : Prop := curveNumbersRow.holds Try.pinned (OpenSpec.ofChange curveNumbersWrong)

/-- 'damperlaw16.CurvePoints': WHATEVER THE INPUT: true; the input reads as it did. -/
def curvePointsSpec : ChangeSpec := { name := "curvePoints", fn := fun _ => fun
  | [d1, d2] => { results := [.lit (.bool true)], args := [d1, d2] }
  | _ => none }
def curvePointsRow : OpenClaim := { program := "ytdcjfaplgpeonaa", sum := "1b7c59493cb4807d8cdef2b7ed7e9adc7e01ef214b719e802306528648a7e89d", func := "damper/damperlaw16.CurvePoints", spec := "curvePoints", inPlace := ["slices.overlaps[damper/ladder.Level]"], unfollowed := true, recurses := true, plainKeys := false, apart := false }
def CurvePointsSaid : Prop := curvePointsRow.holds Try.pinned (OpenSpec.ofChange curvePointsSpec)

/-- ITS FALSE NEIGHBOUR: 'it returns false'. Refute it at one input. -/
def curvePointsWrong : ChangeSpec := { name := "curvePoints", fn := fun _ => fun
  | [d1, d2] => { results := [.lit (.bool false)], args := [d1, d2] }
  | _ => none }
def CurvePointsWrongFalsely : Prop := curvePointsRow.holds Try.pinned (OpenSpec.ofChange curvePointsWrong)

/-- 'damperlaw16.CurveTurns': WHATEVER THE INPUT: true; the input reads as it did. -/
def curveTurnsSpec : ChangeSpec := { name := "curveTurns", fn := fun _ => fun
  | [d1, d2, d3] => { results := [.lit (.bool true)], args := [d1, d2, d3] }
  | _ => none }
def curveTurnsRow : OpenClaim := { program := "ytdcjfaplgpeonaa", sum := "1b7c59493cb4807d8cdef2b7ed7e9adc7e01ef214b719e802306528648a7e89d", func := "damper/damperlaw16.CurveTurns", spec := "curveTurns", inPlace := ["slices.overlaps[damper/ladder.Level]"], unfollowed := true, recurses := true, plainKeys := false, apart := false }
def CurveTurnsSaid : Prop := curveTurnsRow.holds Try.pinned (OpenSpec.ofChange curveTurnsSpec)

/-- ITS FALSE NEIGHBOUR: 'it returns false'. Refute it at one input. -/
def curveTurnsWrong : ChangeSpec := { name := "curveTurns", fn := fun _ => fun
  | [d1, d2, d3] => { results := [.lit (.bool false)], args := [d1, d2, d3] }
  | _ => none }
def CurveTurnsWrongFalsely : Prop := curveTurnsRow.holds Try.pinned (OpenSpec.ofChange curveTurnsWrong)

/- THE SECOND FORM. 'bulk': how many values and letters a reading holds, each counted each time it is reached (what is shared counts as often as it is met; a slice's spare places count too). A statement '..UptoSaid' is the law's where the arguments, and the package variables that the reading takes, are together of bulk at most 1048576: NARROWER than '..Said'. Prove '..Said' where nothing that the law and all that it calls make is longer than what came in: it says more and counts as full. Else prove '..UptoSaid'. A law counts once. -/
mutual
def uptoBulk {H : Type} : DataW H → Nat
  | .lit (.string bytes) => bytes.length + 1
  | .lit _ => 1
  | .nil => 1
  | .ptr d => uptoBulk d + 1
  | .slice elems spare => uptoBulkAll elems + uptoBulkAll spare + 1
  | .agg parts => uptoBulkAll parts + 1
  | .iface _ d => uptoBulk d + 1
  | .map entries => uptoBulkEntries entries + 1
  | .held _ => 1
def uptoBulkAll {H : Type} : List (DataW H) → Nat
  | [] => 0
  | d :: r => uptoBulk d + uptoBulkAll r
def uptoBulkEntries {H : Type} : List (Lit × DataW H) → Nat
  | [] => 0
  | x :: r => uptoBulkEntry x + uptoBulkEntries r
def uptoBulkEntry {H : Type} : Lit × DataW H → Nat
  | (.string bytes, d) => bytes.length + uptoBulk d + 1
  | (_, d) => uptoBulk d + 1
 end
def uptoSmall : (H : Type) → List (DataW H) → Bool := fun _ ds => decide (uptoBulkAll ds ≤ 1048576)
def OpenSpec.upto (s : _root_.Go.ChangeSpec) : _root_.Go.OpenSpec := { _root_.Go.OpenSpec.ofChange s with cond := some uptoSmall }

/-- 'damperlaw12.IndexPlays', WHERE WHAT IT READS IS OF BULK AT MOST 1048576: true; the input reads as it did. -/
def indexPlaysUptoRow : OpenClaim := { program := "ytdcjfaplgpeonaa", sum := "1b7c59493cb4807d8cdef2b7ed7e9adc7e01ef214b719e802306528648a7e89d", func := "damper/damperlaw12.IndexPlays", spec := "indexPlays", unfollowed := true, recurses := true, plainKeys := false, apart := false, narrowed := true }
def IndexPlaysUptoSaid : Prop := indexPlaysUptoRow.holds Try.pinned (OpenSpec.upto indexPlaysSpec)

/-- 'damperlaw12.IndexApart', WHERE WHAT IT READS IS OF BULK AT MOST 1048576: true; the input reads as it did. -/
def indexApartUptoRow : OpenClaim := { program := "ytdcjfaplgpeonaa", sum := "1b7c59493cb4807d8cdef2b7ed7e9adc7e01ef214b719e802306528648a7e89d", func := "damper/damperlaw12.IndexApart", spec := "indexApart", unfollowed := true, recurses := true, plainKeys := false, apart := false, narrowed := true }
def IndexApartUptoSaid : Prop := indexApartUptoRow.holds Try.pinned (OpenSpec.upto indexApartSpec)

/-- 'damperlaw09.ArenaHolds', WHERE WHAT IT READS IS OF BULK AT MOST 1048576: true; the input reads as it did. -/
def arenaHoldsUptoRow : OpenClaim := { program := "ytdcjfaplgpeonaa", sum := "1b7c59493cb4807d8cdef2b7ed7e9adc7e01ef214b719e802306528648a7e89d", func := "damper/damperlaw09.ArenaHolds", spec := "arenaHolds", plainKeys := false, apart := false, narrowed := true }
def ArenaHoldsUptoSaid : Prop := arenaHoldsUptoRow.holds Try.pinned (OpenSpec.upto arenaHoldsSpec)

/-- 'damperlaw09.ArenaPlays', WHERE WHAT IT READS IS OF BULK AT MOST 1048576: true; the input reads as it did. -/
def arenaPlaysUptoRow : OpenClaim := { program := "ytdcjfaplgpeonaa", sum := "1b7c59493cb4807d8cdef2b7ed7e9adc7e01ef214b719e802306528648a7e89d", func := "damper/damperlaw09.ArenaPlays", spec := "arenaPlays", plainKeys := false, apart := false, narrowed := true }
def ArenaPlaysUptoSaid : Prop := arenaPlaysUptoRow.holds Try.pinned (OpenSpec.upto arenaPlaysSpec)

/-- 'damperlaw09.ArenaEach', WHERE WHAT IT READS IS OF BULK AT MOST 1048576: true; the input reads as it did. -/
def arenaEachUptoRow : OpenClaim := { program := "ytdcjfaplgpeonaa", sum := "1b7c59493cb4807d8cdef2b7ed7e9adc7e01ef214b719e802306528648a7e89d", func := "damper/damperlaw09.ArenaEach", spec := "arenaEach", unfollowed := true, recurses := true, plainKeys := false, apart := false, narrowed := true }
def ArenaEachUptoSaid : Prop := arenaEachUptoRow.holds Try.pinned (OpenSpec.upto arenaEachSpec)

/-- 'damperlaw09.ArenaNils', WHERE WHAT IT READS IS OF BULK AT MOST 1048576: true; the input reads as it did. -/
def arenaNilsUptoRow : OpenClaim := { program := "ytdcjfaplgpeonaa", sum := "1b7c59493cb4807d8cdef2b7ed7e9adc7e01ef214b719e802306528648a7e89d", func := "damper/damperlaw09.ArenaNils", spec := "arenaNils", unfollowed := true, recurses := true, plainKeys := false, apart := false, narrowed := true }
def ArenaNilsUptoSaid : Prop := arenaNilsUptoRow.holds Try.pinned (OpenSpec.upto arenaNilsSpec)

/-- 'damperlaw12.IndexEach', WHERE WHAT IT READS IS OF BULK AT MOST 1048576: true; the input reads as it did. -/
def indexEachUptoRow : OpenClaim := { program := "ytdcjfaplgpeonaa", sum := "1b7c59493cb4807d8cdef2b7ed7e9adc7e01ef214b719e802306528648a7e89d", func := "damper/damperlaw12.IndexEach", spec := "indexEach", unfollowed := true, recurses := true, plainKeys := false, apart := false, narrowed := true }
def IndexEachUptoSaid : Prop := indexEachUptoRow.holds Try.pinned (OpenSpec.upto indexEachSpec)

/-- 'damperlaw16.CurveNumbers', WHERE WHAT IT READS IS OF BULK AT MOST 1048576: true; the input reads as it did. -/
def curveNumbersUptoRow : OpenClaim := { program := "ytdcjfaplgpeonaa", sum := "1b7c59493cb4807d8cdef2b7ed7e9adc7e01ef214b719e802306528648a7e89d", func := "damper/damperlaw16.CurveNumbers", spec := "curveNumbers", inPlace := ["slices.overlaps[damper/ladder.Level]"], unfollowed := true, recurses := true, plainKeys := false, apart := false, narrowed := true }
def CurveNumbersUptoSaid : Prop := curveNumbersUptoRow.holds Try.pinned (OpenSpec.upto curveNumbersSpec)

/-- 'damperlaw16.CurvePoints', WHERE WHAT IT READS IS OF BULK AT MOST 1048576: true; the input reads as it did. -/
def curvePointsUptoRow : OpenClaim := { program := "ytdcjfaplgpeonaa", sum := "1b7c59493cb4807d8cdef2b7ed7e9adc7e01ef214b719e802306528648a7e89d", func := "damper/damperlaw16.CurvePoints", spec := "curvePoints", inPlace := ["slices.overlaps[damper/ladder.Level]"], unfollowed := true, recurses := true, plainKeys := false, apart := false, narrowed := true }
def CurvePointsUptoSaid : Prop := curvePointsUptoRow.holds Try.pinned (OpenSpec.upto curvePointsSpec)

/-- 'damperlaw16.CurveTurns', WHERE WHAT IT READS IS OF BULK AT MOST 1048576: true; the input reads as it did. -/
def curveTurnsUptoRow : OpenClaim := { program := "ytdcjfaplgpeonaa", sum := "1b7c59493cb4807d8cdef2b7ed7e9adc7e01ef214b719e802306528648a7e89d", func := "damper/damperlaw16.CurveTurns", spec := "curveTurns", inPlace := ["slices.overlaps[damper/ladder.Level]"], unfollowed := true, recurses := true, plainKeys := false, apart := false, narrowed := true }
def CurveTurnsUptoSaid : Prop := curveTurnsUptoRow.holds Try.pinned (OpenSpec.upto curveTurnsSpec)

end Rows
end Go.Proofs.Ytdcjfaplgpeonaa
