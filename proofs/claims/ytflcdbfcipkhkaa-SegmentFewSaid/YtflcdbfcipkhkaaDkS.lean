/- Segment: the keys of a map, sorted, and the sort, laid at this seat in plain words. -/
import Derived.Shelf.SlIter.Nil
import Derived.Shelf.SortM.Plain
import Derived.Shelf.SortM.SortNone
import Derived.Ground.GgzProg
import Derived.Ground.SlgmProg
import Derived.Test.YtflcdbfcipkhkaaProg

set_option linter.unusedVariables false
set_option linter.unusedSimpArgs false
namespace Go.Proofs.Ytflcdbfcipkhkaa
open Go.Shelf
def Try.keys114_ren : Go.Shelf.Ren := ⟨fun | 7 => 114 | 10 => 146 | n => n, fun | 23 => 155 | 26 => 9 | 3 => 4 | 28 => 158 | 0 => 0 | 27 => 157 | 33 => 135 | 4 => 4 | n => n, fun | n => n⟩
theorem Try.keys114 : Go.Proofs.SlLaysZ.n7 Try.prog Try.keys114_ren := {
  mixed := by kernel_rfl
  f7 := ⟨Try.f114.name, by decide, Try.func114.trans (congrArg some (by kernel_rfl))⟩
  f10 := ⟨Try.f146.name, by decide, Try.func146.trans (congrArg some (by kernel_rfl))⟩
  t0 := Try.underlying0
  a0 := Try.isAgg0
  z0 := Try.sizeOf0
  v0 := Try.zeroValue0
  t4 := Try.underlying4
  a4 := Try.isAgg4
  z4 := Try.sizeOf4
  v4 := Try.zeroValue4
  t23 := Try.underlying155
  a23 := Try.isAgg155
  z23 := Try.sizeOf155
  v23 := Try.zeroValue155
  t26 := Try.underlying9
  a26 := Try.isAgg9
  z26 := Try.sizeOf9
  v26 := Try.zeroValue9
  t27 := Try.underlying157
  a27 := Try.isAgg157
  z27 := Try.sizeOf157
  v27 := Try.zeroValue157
  t28 := Try.underlying158
  a28 := Try.isAgg158
  z28 := Try.sizeOf158
  v28 := Try.zeroValue158
  t33 := Try.underlying135
  a33 := Try.isAgg135
  z33 := Try.sizeOf135
  v33 := Try.zeroValue135 }
def Try.sorted113_ren : Go.Shelf.Ren := ⟨fun | 6 => 113 | 8 => 144 | 9 => 145 | 11 => 158 | 13 => 160 | 12 => 159 | 23 => 171 | 24 => 172 | 14 => 162 | 15 => 163 | 16 => 164 | 17 => 165 | 18 => 166 | 19 => 167 | 20 => 168 | 21 => 169 | 22 => 170 | 25 => 173 | 26 => 174 | 27 => 175 | 28 => 176 | 29 => 177 | 30 => 178 | 31 => 179 | n => n, fun | 26 => 9 | 28 => 158 | 24 => 57 | 0 => 0 | 3 => 3 | 37 => 170 | 48 => 204 | 50 => 29 | 4 => 4 | 40 => 197 | 39 => 196 | 45 => 85 | 5 => 5 | 9 => 9 | 51 => 206 | 55 => 210 | 57 => 212 | 58 => 213 | 33 => 135 | n => n, fun | n => n⟩
theorem Try.sorted113 : Go.Proofs.SlLaysZ.n6 Try.prog Try.sorted113_ren := {
  mixed := by kernel_rfl
  f6 := ⟨Try.f113.name, by decide, Try.func113.trans (congrArg some (by kernel_rfl))⟩
  f8 := ⟨Try.f144.name, by decide, Try.func144.trans (congrArg some (by kernel_rfl))⟩
  f11 := ⟨Try.f158.name, by decide, Try.func158.trans (congrArg some (by kernel_rfl))⟩
  t0 := Try.underlying0
  a0 := Try.isAgg0
  z0 := Try.sizeOf0
  v0 := Try.zeroValue0
  t24 := Try.underlying57
  a24 := Try.isAgg57
  z24 := Try.sizeOf57
  v24 := Try.zeroValue57
  t26 := Try.underlying9
  a26 := Try.isAgg9
  z26 := Try.sizeOf9
  v26 := Try.zeroValue9
  t28 := Try.underlying158
  a28 := Try.isAgg158
  z28 := Try.sizeOf158
  v28 := Try.zeroValue158
  i26 := by kernel_rfl }
def Try.sort145_ren : Go.Shelf.Ren := ⟨fun | 6 => 145 | 8 => 160 | 9 => 159 | 19 => 171 | 20 => 172 | 21 => 162 | 22 => 163 | 23 => 164 | 24 => 165 | 25 => 166 | 26 => 167 | 27 => 168 | 28 => 169 | 29 => 170 | 36 => 173 | 31 => 174 | 32 => 175 | 37 => 176 | 38 => 177 | 39 => 178 | 41 => 179 | n => n, fun | 27 => 57 | 29 => 9 | 3 => 3 | 32 => 170 | 26 => 57 | 0 => 0 | 44 => 204 | 46 => 29 | 4 => 4 | 36 => 197 | 35 => 196 | 41 => 85 | 5 => 5 | 9 => 9 | 53 => 206 | 57 => 210 | 63 => 212 | 64 => 213 | n => n, fun | n => n⟩
theorem Try.sort145 : Go.Proofs.SlLaysM.n6 Try.prog Try.sort145_ren := {
  mixed := by kernel_rfl
  f6 := ⟨Try.f145.name, by decide, Try.func145.trans (congrArg some (by kernel_rfl))⟩
  f8 := Try.func160.trans (congrArg some (by kernel_rfl))
  f9 := ⟨Try.f159.name, by decide, Try.func159.trans (congrArg some (by kernel_rfl))⟩
  f19 := Try.func171.trans (congrArg some (by kernel_rfl))
  f20 := Try.func172.trans (congrArg some (by kernel_rfl))
  f21 := ⟨Try.f162.name, by decide, Try.func162.trans (congrArg some (by kernel_rfl))⟩
  f22 := ⟨Try.f163.name, by decide, Try.func163.trans (congrArg some (by kernel_rfl))⟩
  f23 := ⟨Try.f164.name, by decide, Try.func164.trans (congrArg some (by kernel_rfl))⟩
  f24 := ⟨Try.f165.name, by decide, Try.func165.trans (congrArg some (by kernel_rfl))⟩
  f25 := ⟨Try.f166.name, by decide, Try.func166.trans (congrArg some (by kernel_rfl))⟩
  f26 := ⟨Try.f167.name, by decide, Try.func167.trans (congrArg some (by kernel_rfl))⟩
  f27 := ⟨Try.f168.name, by decide, Try.func168.trans (congrArg some (by kernel_rfl))⟩
  f28 := ⟨Try.f169.name, by decide, Try.func169.trans (congrArg some (by kernel_rfl))⟩
  f29 := ⟨Try.f170.name, by decide, Try.func170.trans (congrArg some (by kernel_rfl))⟩
  f31 := Try.func174.trans (congrArg some (by kernel_rfl))
  f32 := Try.func175.trans (congrArg some (by kernel_rfl))
  f36 := ⟨Try.f173.name, by decide, Try.func173.trans (congrArg some (by kernel_rfl))⟩
  f37 := ⟨Try.f176.name, by decide, Try.func176.trans (congrArg some (by kernel_rfl))⟩
  f38 := ⟨Try.f177.name, by decide, Try.func177.trans (congrArg some (by kernel_rfl))⟩
  f39 := ⟨Try.f178.name, by decide, Try.func178.trans (congrArg some (by kernel_rfl))⟩
  f41 := ⟨Try.f179.name, by decide, Try.func179.trans (congrArg some (by kernel_rfl))⟩
  t0 := Try.underlying0
  a0 := Try.isAgg0
  z0 := Try.sizeOf0
  v0 := Try.zeroValue0
  t3 := Try.underlying3
  a3 := Try.isAgg3
  z3 := Try.sizeOf3
  v3 := Try.zeroValue3
  t4 := Try.underlying4
  a4 := Try.isAgg4
  z4 := Try.sizeOf4
  v4 := Try.zeroValue4
  t5 := Try.underlying5
  a5 := Try.isAgg5
  z5 := Try.sizeOf5
  v5 := Try.zeroValue5
  t9 := Try.underlying9
  a9 := Try.isAgg9
  z9 := Try.sizeOf9
  v9 := Try.zeroValue9
  t26 := Try.underlying57
  a26 := Try.isAgg57
  z26 := Try.sizeOf57
  v26 := Try.zeroValue57
  t27 := Try.underlying57
  a27 := Try.isAgg57
  z27 := Try.sizeOf57
  v27 := Try.zeroValue57
  t29 := Try.underlying9
  a29 := Try.isAgg9
  z29 := Try.sizeOf9
  v29 := Try.zeroValue9
  t32 := Try.underlying170
  a32 := Try.isAgg170
  z32 := Try.sizeOf170
  v32 := Try.zeroValue170
  t35 := Try.underlying196
  a35 := Try.isAgg196
  z35 := Try.sizeOf196
  v35 := Try.zeroValue196
  t36 := Try.underlying197
  a36 := Try.isAgg197
  z36 := Try.sizeOf197
  v36 := Try.zeroValue197
  t41 := Try.underlying85
  a41 := Try.isAgg85
  z41 := Try.sizeOf85
  v41 := Try.zeroValue85
  t44 := Try.underlying204
  a44 := Try.isAgg204
  z44 := Try.sizeOf204
  v44 := Try.zeroValue204
  t46 := Try.underlying29
  a46 := Try.isAgg29
  z46 := Try.sizeOf29
  v46 := Try.zeroValue29
  t53 := Try.underlying206
  a53 := Try.isAgg206
  z53 := Try.sizeOf206
  v53 := Try.zeroValue206
  t57 := Try.underlying210
  a57 := Try.isAgg210
  z57 := Try.sizeOf210
  v57 := Try.zeroValue210
  t63 := Try.underlying212
  a63 := Try.isAgg212
  z63 := Try.sizeOf212
  v63 := Try.zeroValue212
  t64 := Try.underlying213
  a64 := Try.isAgg213
  z64 := Try.sizeOf213
  v64 := Try.zeroValue213 }
end Go.Proofs.Ytflcdbfcipkhkaa
