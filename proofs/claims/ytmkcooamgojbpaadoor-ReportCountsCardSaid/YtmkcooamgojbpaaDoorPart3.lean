/- Parts of the proof: CntLay. -/
import Derived.Shelf.SlSortCmp.WholeK
import Derived.Shelf.SlGeneric
import Derived.Test.YtmkcooamgojbpaaDoorProg

/- Contracts of the library at this program (laid by the kit's lay-plain, at this seat's numbers). -/
namespace Go.Proofs.YtmkcooamgojbpaaDoor.Lay
open Go.Shelf
def sortC_ren : Go.Shelf.Ren := ⟨fun | 6 => 117 | 15 => 179 | 14 => 178 | 28 => 219 | 29 => 220 | 20 => 211 | 21 => 212 | 22 => 213 | 23 => 214 | 24 => 215 | 25 => 216 | 26 => 217 | 27 => 218 | 46 => 231 | 47 => 232 | 48 => 233 | 49 => 234 | 50 => 235 | 57 => 245 | n => n, fun | 22 => 80 | 24 => 85 | 25 => 175 | 3 => 3 | 39 => 188 | 0 => 0 | 53 => 256 | 55 => 206 | 4 => 4 | 46 => 249 | 45 => 248 | 50 => 253 | 5 => 5 | 9 => 9 | 66 => 265 | 70 => 113 | 76 => 280 | 77 => 281 | n => n, fun | n => n⟩
theorem sortC : Go.Proofs.SlLaysF0.n6 Tryd.prog sortC_ren := {
  mixed := by kernel_rfl
  f6 := ⟨Tryd.f117.name, by decide, Tryd.func117.trans (congrArg some (by kernel_rfl))⟩
  f14 := ⟨Tryd.f178.name, by decide, Tryd.func178.trans (congrArg some (by kernel_rfl))⟩
  f15 := Tryd.func179.trans (congrArg some (by kernel_rfl))
  f20 := ⟨Tryd.f211.name, by decide, Tryd.func211.trans (congrArg some (by kernel_rfl))⟩
  f21 := ⟨Tryd.f212.name, by decide, Tryd.func212.trans (congrArg some (by kernel_rfl))⟩
  f22 := ⟨Tryd.f213.name, by decide, Tryd.func213.trans (congrArg some (by kernel_rfl))⟩
  f23 := ⟨Tryd.f214.name, by decide, Tryd.func214.trans (congrArg some (by kernel_rfl))⟩
  f24 := ⟨Tryd.f215.name, by decide, Tryd.func215.trans (congrArg some (by kernel_rfl))⟩
  f25 := ⟨Tryd.f216.name, by decide, Tryd.func216.trans (congrArg some (by kernel_rfl))⟩
  f26 := ⟨Tryd.f217.name, by decide, Tryd.func217.trans (congrArg some (by kernel_rfl))⟩
  f27 := ⟨Tryd.f218.name, by decide, Tryd.func218.trans (congrArg some (by kernel_rfl))⟩
  f28 := Tryd.func219.trans (congrArg some (by kernel_rfl))
  f29 := Tryd.func220.trans (congrArg some (by kernel_rfl))
  f46 := ⟨Tryd.f231.name, by decide, Tryd.func231.trans (congrArg some (by kernel_rfl))⟩
  f47 := Tryd.func232.trans (congrArg some (by kernel_rfl))
  f48 := Tryd.func233.trans (congrArg some (by kernel_rfl))
  f49 := ⟨Tryd.f234.name, by decide, Tryd.func234.trans (congrArg some (by kernel_rfl))⟩
  f50 := ⟨Tryd.f235.name, by decide, Tryd.func235.trans (congrArg some (by kernel_rfl))⟩
  f57 := ⟨Tryd.f245.name, by decide, Tryd.func245.trans (congrArg some (by kernel_rfl))⟩
  t0 := Tryd.underlying0
  a0 := Tryd.isAgg0
  z0 := Tryd.sizeOf0
  v0 := Tryd.zeroValue0
  t3 := Tryd.underlying3
  a3 := Tryd.isAgg3
  z3 := Tryd.sizeOf3
  v3 := Tryd.zeroValue3
  t4 := Tryd.underlying4
  a4 := Tryd.isAgg4
  z4 := Tryd.sizeOf4
  v4 := Tryd.zeroValue4
  t5 := Tryd.underlying5
  a5 := Tryd.isAgg5
  z5 := Tryd.sizeOf5
  v5 := Tryd.zeroValue5
  t9 := Tryd.underlying9
  a9 := Tryd.isAgg9
  z9 := Tryd.sizeOf9
  v9 := Tryd.zeroValue9
  t22 := Tryd.underlying80
  a22 := Tryd.isAgg80
  z22 := Tryd.sizeOf80
  v22 := Tryd.zeroValue80
  t25 := Tryd.underlying175
  a25 := Tryd.isAgg175
  z25 := Tryd.sizeOf175
  v25 := Tryd.zeroValue175
  t39 := Tryd.underlying188
  a39 := Tryd.isAgg188
  z39 := Tryd.sizeOf188
  v39 := Tryd.zeroValue188
  t45 := Tryd.underlying248
  a45 := Tryd.isAgg248
  z45 := Tryd.sizeOf248
  v45 := Tryd.zeroValue248
  t46 := Tryd.underlying249
  a46 := Tryd.isAgg249
  z46 := Tryd.sizeOf249
  v46 := Tryd.zeroValue249
  t50 := Tryd.underlying253
  a50 := Tryd.isAgg253
  z50 := Tryd.sizeOf253
  v50 := Tryd.zeroValue253
  t53 := Tryd.underlying256
  a53 := Tryd.isAgg256
  z53 := Tryd.sizeOf256
  v53 := Tryd.zeroValue256
  t55 := Tryd.underlying206
  a55 := Tryd.isAgg206
  z55 := Tryd.sizeOf206
  v55 := Tryd.zeroValue206
  t66 := Tryd.underlying265
  a66 := Tryd.isAgg265
  z66 := Tryd.sizeOf265
  v66 := Tryd.zeroValue265
  t70 := Tryd.underlying113
  a70 := Tryd.isAgg113
  z70 := Tryd.sizeOf113
  v70 := Tryd.zeroValue113
  t76 := Tryd.underlying280
  a76 := Tryd.isAgg280
  z76 := Tryd.sizeOf280
  v76 := Tryd.zeroValue280
  t77 := Tryd.underlying281
  a77 := Tryd.isAgg281
  z77 := Tryd.sizeOf281
  v77 := Tryd.zeroValue281 }
end Go.Proofs.YtmkcooamgojbpaaDoor.Lay
