/-
  The library's slices.Sorted at int64s, laid at this program (written by the kit's own tool, the names moved).
-/
import Derived.Shelf.SlIterI.Nil
import Derived.Ground.GgzProg
import Derived.Test.YtdcjfaplgpeonaaRows
namespace Go.Proofs.Ytdcjfaplgpeonaa
open Go.Shelf
def sortedL_ren : Go.Shelf.Ren := ⟨fun | 6 => 69 | 8 => 90 | 9 => 76 | 11 => 107 | 13 => 94 | 12 => 93 | 23 => 117 | 24 => 118 | 14 => 108 | 15 => 109 | 16 => 110 | 17 => 111 | 18 => 112 | 19 => 113 | 20 => 114 | 21 => 115 | 22 => 116 | 25 => 125 | 26 => 126 | 27 => 127 | 28 => 128 | 29 => 129 | 30 => 130 | 31 => 132 | n => n, fun | 26 => 2 | 28 => 138 | 24 => 91 | 0 => 0 | 3 => 3 | 37 => 172 | 48 => 210 | 50 => 176 | 4 => 4 | 40 => 203 | 39 => 202 | 45 => 40 | 5 => 5 | 9 => 9 | 51 => 217 | 55 => 221 | 57 => 223 | 58 => 224 | 33 => 171 | n => n, fun | n => n⟩
theorem sortedL : Go.Proofs.SlLaysZI.n6 Try.prog sortedL_ren := {
  mixed := by kernel_rfl
  f6 := ⟨Try.f69.name, by decide, Try.func69.trans (congrArg some (by kernel_rfl))⟩
  f8 := ⟨Try.f90.name, by decide, Try.func90.trans (congrArg some (by kernel_rfl))⟩
  f11 := ⟨Try.f107.name, by decide, Try.func107.trans (congrArg some (by kernel_rfl))⟩
  t0 := Try.underlying0
  a0 := Try.isAgg0
  z0 := Try.sizeOf0
  v0 := Try.zeroValue0
  t24 := Try.underlying91
  a24 := Try.isAgg91
  z24 := Try.sizeOf91
  v24 := Try.zeroValue91
  t26 := Try.underlying2
  a26 := Try.isAgg2
  z26 := Try.sizeOf2
  v26 := Try.zeroValue2
  t28 := Try.underlying138
  a28 := Try.isAgg138
  z28 := Try.sizeOf138
  v28 := Try.zeroValue138
  i26 := by kernel_rfl }
end Go.Proofs.Ytdcjfaplgpeonaa
