/-
 DERIVED: THE SHELF's CONTRACTS AT THIS DUMP, IN PLAIN WORDS (tools/lay-plain.mjs out of 'YtmbppgjhdcmckaaGreatDoorLay.lean', which tools/lay-shelf.mjs wrote): THE SAME DECLARATIONS UNDER THE SAME NAMES: 'import', 'namespace', 'open', 'def', 'theorem' AND NOTHING ELSE: no command of the shelf's: FOR A HAND-IN. Each laying: the table of numbers ('.._ren') and one theorem, a field a fact of the dump's own or the kernel's comparison; each contract: ONE APPLICATION.
-/
import Derived.Shelf.SlSortCmp.WholeK
import Derived.Ground.SlsfProg
import Derived.Test.YtmbppgjhdcmckaaGreatDoorProg
namespace Go.Proofs
open Go.Shelf
def Tryz.sortD_ren : Go.Shelf.Ren := ⟨fun | 6 => 215 | 15 => 223 | 14 => 222 | 28 => 179 | 29 => 234 | 20 => 226 | 21 => 227 | 22 => 228 | 23 => 229 | 24 => 230 | 25 => 231 | 26 => 232 | 27 => 233 | 46 => 236 | 47 => 237 | 48 => 238 | 49 => 239 | 50 => 240 | 57 => 241 | n => n, fun | 22 => 57 | 24 => 195 | 25 => 246 | 3 => 3 | 39 => 136 | 0 => 0 | 53 => 48 | 55 => 91 | 4 => 4 | 46 => 255 | 45 => 254 | 50 => 259 | 5 => 5 | 9 => 9 | 66 => 262 | 70 => 266 | 76 => 268 | 77 => 269 | n => n, fun | n => n⟩
theorem Tryz.sortD : Go.Proofs.SlLaysF0.n6 Tryz.prog Tryz.sortD_ren := {
 mixed := by kernel_rfl
 f6 := ⟨Tryz.f215.name, by decide, Tryz.func215.trans (congrArg some (by kernel_rfl))⟩
 f14 := ⟨Tryz.f222.name, by decide, Tryz.func222.trans (congrArg some (by kernel_rfl))⟩
 f15 := Tryz.func223.trans (congrArg some (by kernel_rfl))
 f20 := ⟨Tryz.f226.name, by decide, Tryz.func226.trans (congrArg some (by kernel_rfl))⟩
 f21 := ⟨Tryz.f227.name, by decide, Tryz.func227.trans (congrArg some (by kernel_rfl))⟩
 f22 := ⟨Tryz.f228.name, by decide, Tryz.func228.trans (congrArg some (by kernel_rfl))⟩
 f23 := ⟨Tryz.f229.name, by decide, Tryz.func229.trans (congrArg some (by kernel_rfl))⟩
 f24 := ⟨Tryz.f230.name, by decide, Tryz.func230.trans (congrArg some (by kernel_rfl))⟩
 f25 := ⟨Tryz.f231.name, by decide, Tryz.func231.trans (congrArg some (by kernel_rfl))⟩
 f26 := ⟨Tryz.f232.name, by decide, Tryz.func232.trans (congrArg some (by kernel_rfl))⟩
 f27 := ⟨Tryz.f233.name, by decide, Tryz.func233.trans (congrArg some (by kernel_rfl))⟩
 f28 := Tryz.func179.trans (congrArg some (by kernel_rfl))
 f29 := Tryz.func234.trans (congrArg some (by kernel_rfl))
 f46 := ⟨Tryz.f236.name, by decide, Tryz.func236.trans (congrArg some (by kernel_rfl))⟩
 f47 := Tryz.func237.trans (congrArg some (by kernel_rfl))
 f48 := Tryz.func238.trans (congrArg some (by kernel_rfl))
 f49 := ⟨Tryz.f239.name, by decide, Tryz.func239.trans (congrArg some (by kernel_rfl))⟩
 f50 := ⟨Tryz.f240.name, by decide, Tryz.func240.trans (congrArg some (by kernel_rfl))⟩
 f57 := ⟨Tryz.f241.name, by decide, Tryz.func241.trans (congrArg some (by kernel_rfl))⟩
 t0 := Tryz.underlying0
 a0 := Tryz.isAgg0
 z0 := Tryz.sizeOf0
 v0 := Tryz.zeroValue0
 t3 := Tryz.underlying3
 a3 := Tryz.isAgg3
 z3 := Tryz.sizeOf3
 v3 := Tryz.zeroValue3
 t4 := Tryz.underlying4
 a4 := Tryz.isAgg4
 z4 := Tryz.sizeOf4
 v4 := Tryz.zeroValue4
 t5 := Tryz.underlying5
 a5 := Tryz.isAgg5
 z5 := Tryz.sizeOf5
 v5 := Tryz.zeroValue5
 t9 := Tryz.underlying9
 a9 := Tryz.isAgg9
 z9 := Tryz.sizeOf9
 v9 := Tryz.zeroValue9
 t22 := Tryz.underlying57
 a22 := Tryz.isAgg57
 z22 := Tryz.sizeOf57
 v22 := Tryz.zeroValue57
 t25 := Tryz.underlying246
 a25 := Tryz.isAgg246
 z25 := Tryz.sizeOf246
 v25 := Tryz.zeroValue246
 t39 := Tryz.underlying136
 a39 := Tryz.isAgg136
 z39 := Tryz.sizeOf136
 v39 := Tryz.zeroValue136
 t45 := Tryz.underlying254
 a45 := Tryz.isAgg254
 z45 := Tryz.sizeOf254
 v45 := Tryz.zeroValue254
 t46 := Tryz.underlying255
 a46 := Tryz.isAgg255
 z46 := Tryz.sizeOf255
 v46 := Tryz.zeroValue255
 t50 := Tryz.underlying259
 a50 := Tryz.isAgg259
 z50 := Tryz.sizeOf259
 v50 := Tryz.zeroValue259
 t53 := Tryz.underlying48
 a53 := Tryz.isAgg48
 z53 := Tryz.sizeOf48
 v53 := Tryz.zeroValue48
 t55 := Tryz.underlying91
 a55 := Tryz.isAgg91
 z55 := Tryz.sizeOf91
 v55 := Tryz.zeroValue91
 t66 := Tryz.underlying262
 a66 := Tryz.isAgg262
 z66 := Tryz.sizeOf262
 v66 := Tryz.zeroValue262
 t70 := Tryz.underlying266
 a70 := Tryz.isAgg266
 z70 := Tryz.sizeOf266
 v70 := Tryz.zeroValue266
 t76 := Tryz.underlying268
 a76 := Tryz.isAgg268
 z76 := Tryz.sizeOf268
 v76 := Tryz.zeroValue268
 t77 := Tryz.underlying269
 a77 := Tryz.isAgg269
 z77 := Tryz.sizeOf269
 v77 := Tryz.zeroValue269 }
end Go.Proofs