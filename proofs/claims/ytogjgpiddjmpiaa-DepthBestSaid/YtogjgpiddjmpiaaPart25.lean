/- Parts of the proof: LvlLay. -/
import Derived.Shelf.SlSortCmp.WholeK
import Derived.Test.YtogjgpiddjmpiaaProg

/- Contracts of the library at this program (laid by the kit's lay-plain, at this seat's numbers). -/
namespace Go.Proofs.Ytogjgpiddjmpiaa.Lay
open Go.Shelf
def sortL_ren : Go.Shelf.Ren := ⟨fun | 6 => 159 | 15 => 131 | 14 => 195 | 28 => 171 | 29 => 172 | 20 => 205 | 21 => 206 | 22 => 207 | 23 => 208 | 24 => 209 | 25 => 210 | 26 => 211 | 27 => 212 | 46 => 214 | 47 => 197 | 48 => 198 | 49 => 215 | 50 => 216 | 57 => 217 | n => n, fun | 22 => 79 | 24 => 90 | 25 => 215 | 3 => 3 | 39 => 195 | 0 => 0 | 53 => 264 | 55 => 35 | 4 => 4 | 46 => 257 | 45 => 256 | 50 => 261 | 5 => 5 | 9 => 9 | 66 => 277 | 70 => 281 | 76 => 290 | 77 => 291 | n => n, fun | n => n⟩
theorem sortL : Go.Proofs.SlLaysF0.n6 Try.prog sortL_ren := {
  mixed := by kernel_rfl
  f6 := ⟨Try.f159.name, by decide, Try.func159.trans (congrArg some (by kernel_rfl))⟩
  f14 := ⟨Try.f195.name, by decide, Try.func195.trans (congrArg some (by kernel_rfl))⟩
  f15 := Try.func131.trans (congrArg some (by kernel_rfl))
  f20 := ⟨Try.f205.name, by decide, Try.func205.trans (congrArg some (by kernel_rfl))⟩
  f21 := ⟨Try.f206.name, by decide, Try.func206.trans (congrArg some (by kernel_rfl))⟩
  f22 := ⟨Try.f207.name, by decide, Try.func207.trans (congrArg some (by kernel_rfl))⟩
  f23 := ⟨Try.f208.name, by decide, Try.func208.trans (congrArg some (by kernel_rfl))⟩
  f24 := ⟨Try.f209.name, by decide, Try.func209.trans (congrArg some (by kernel_rfl))⟩
  f25 := ⟨Try.f210.name, by decide, Try.func210.trans (congrArg some (by kernel_rfl))⟩
  f26 := ⟨Try.f211.name, by decide, Try.func211.trans (congrArg some (by kernel_rfl))⟩
  f27 := ⟨Try.f212.name, by decide, Try.func212.trans (congrArg some (by kernel_rfl))⟩
  f28 := Try.func171.trans (congrArg some (by kernel_rfl))
  f29 := Try.func172.trans (congrArg some (by kernel_rfl))
  f46 := ⟨Try.f214.name, by decide, Try.func214.trans (congrArg some (by kernel_rfl))⟩
  f47 := Try.func197.trans (congrArg some (by kernel_rfl))
  f48 := Try.func198.trans (congrArg some (by kernel_rfl))
  f49 := ⟨Try.f215.name, by decide, Try.func215.trans (congrArg some (by kernel_rfl))⟩
  f50 := ⟨Try.f216.name, by decide, Try.func216.trans (congrArg some (by kernel_rfl))⟩
  f57 := ⟨Try.f217.name, by decide, Try.func217.trans (congrArg some (by kernel_rfl))⟩
  t0 := Try.underlying0
  a0 := Try.isAgg0
  z0 := Try.sizeOf0
  v0 := Try.zeroValue0
  t3 := Try.underlying3
  a3 := Try.isAgg3
  z3 := Try.sizeOf3
  v3 := Try.zeroValue3
  t4 := Try.underlying4
  a4 := Try.isAgg4
  z4 := Try.sizeOf4
  v4 := Try.zeroValue4
  t5 := Try.underlying5
  a5 := Try.isAgg5
  z5 := Try.sizeOf5
  v5 := Try.zeroValue5
  t9 := Try.underlying9
  a9 := Try.isAgg9
  z9 := Try.sizeOf9
  v9 := Try.zeroValue9
  t22 := Try.underlying79
  a22 := Try.isAgg79
  z22 := Try.sizeOf79
  v22 := Try.zeroValue79
  t25 := Try.underlying215
  a25 := Try.isAgg215
  z25 := Try.sizeOf215
  v25 := Try.zeroValue215
  t39 := Try.underlying195
  a39 := Try.isAgg195
  z39 := Try.sizeOf195
  v39 := Try.zeroValue195
  t45 := Try.underlying256
  a45 := Try.isAgg256
  z45 := Try.sizeOf256
  v45 := Try.zeroValue256
  t46 := Try.underlying257
  a46 := Try.isAgg257
  z46 := Try.sizeOf257
  v46 := Try.zeroValue257
  t50 := Try.underlying261
  a50 := Try.isAgg261
  z50 := Try.sizeOf261
  v50 := Try.zeroValue261
  t53 := Try.underlying264
  a53 := Try.isAgg264
  z53 := Try.sizeOf264
  v53 := Try.zeroValue264
  t55 := Try.underlying35
  a55 := Try.isAgg35
  z55 := Try.sizeOf35
  v55 := Try.zeroValue35
  t66 := Try.underlying277
  a66 := Try.isAgg277
  z66 := Try.sizeOf277
  v66 := Try.zeroValue277
  t70 := Try.underlying281
  a70 := Try.isAgg281
  z70 := Try.sizeOf281
  v70 := Try.zeroValue281
  t76 := Try.underlying290
  a76 := Try.isAgg290
  z76 := Try.sizeOf290
  v76 := Try.zeroValue290
  t77 := Try.underlying291
  a77 := Try.isAgg291
  z77 := Try.sizeOf291
  v77 := Try.zeroValue291 }
end Go.Proofs.Ytogjgpiddjmpiaa.Lay
