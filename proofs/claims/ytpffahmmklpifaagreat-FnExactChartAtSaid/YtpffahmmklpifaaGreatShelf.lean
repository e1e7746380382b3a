/-
 DERIVED: THE SHELF's CONTRACTS AT THIS DUMP, IN PLAIN WORDS (tools/lay-plain.mjs out of 'TryzShelf.lean', which tools/lay-shelf.mjs wrote): THE SAME DECLARATIONS UNDER THE SAME NAMES: 'import', 'namespace', 'open', 'def', 'theorem' AND NOTHING ELSE: no command of the shelf's: FOR A HAND-IN. Each laying: the table of numbers ('.._ren') and one theorem, a field a fact of the dump's own or the kernel's comparison; each contract: ONE APPLICATION.
-/
import Derived.Shelf.Small.Bits
import Derived.Shelf.Strconv.Itoa0
import Derived.Shelf.Sort.Plain
import Derived.Shelf.Slices.In.SortNone
import Derived.Ground.SlgnProg
import Derived.Shelf.SlicesG.CompactI
import Derived.Ground.SlgcProg
import Derived.Shelf.SlicesG.Cmp
import Derived.Ground.SlsfProg
import Derived.Shelf.SlSortCmp.NoneTotal
import Derived.Test.YtpffahmmklpifaaGreatProg
namespace Go.Proofs
open Go.Shelf
def Tryz.lays189_ren : Go.Shelf.Ren := ⟨fun | 189 => 62 | 125 => 123 | 257 => 122 | 128 => 195 | 129 => 196 | 294 => 186 | 295 => 187 | 296 => 188 | 297 => 189 | 298 => 190 | 299 => 191 | 216 => 192 | 300 => 193 | 301 => 194 | 328 => 255 | 329 => 256 | 330 => 257 | 331 => 258 | 332 => 259 | 215 => 198 | 343 => 299 | n => n, fun | 28 => 56 | 3 => 3 | 46 => 156 | 0 => 0 | 51 => 212 | 53 => 214 | 4 => 4 | 183 => 204 | 182 => 203 | 131 => 209 | 5 => 5 | 9 => 9 | 218 => 243 | 222 => 247 | 228 => 274 | 229 => 267 | n => n, fun | n => n⟩
theorem Tryz.lays189 : Go.Proofs.Lays.n189 Tryz.prog Tryz.lays189_ren := {
 mixed := by kernel_rfl
 f125 := Tryz.func123.trans (congrArg some (by kernel_rfl))
 f128 := Tryz.func195.trans (congrArg some (by kernel_rfl))
 f129 := Tryz.func196.trans (congrArg some (by kernel_rfl))
 f189 := Tryz.func62.trans (congrArg some (by kernel_rfl))
 f215 := Tryz.func198.trans (congrArg some (by kernel_rfl))
 f216 := Tryz.func192.trans (congrArg some (by kernel_rfl))
 f257 := Tryz.func122.trans (congrArg some (by kernel_rfl))
 f294 := Tryz.func186.trans (congrArg some (by kernel_rfl))
 f295 := Tryz.func187.trans (congrArg some (by kernel_rfl))
 f296 := Tryz.func188.trans (congrArg some (by kernel_rfl))
 f297 := Tryz.func189.trans (congrArg some (by kernel_rfl))
 f298 := Tryz.func190.trans (congrArg some (by kernel_rfl))
 f299 := Tryz.func191.trans (congrArg some (by kernel_rfl))
 f300 := Tryz.func193.trans (congrArg some (by kernel_rfl))
 f301 := Tryz.func194.trans (congrArg some (by kernel_rfl))
 f328 := Tryz.func255.trans (congrArg some (by kernel_rfl))
 f329 := Tryz.func256.trans (congrArg some (by kernel_rfl))
 f330 := Tryz.func257.trans (congrArg some (by kernel_rfl))
 f331 := Tryz.func258.trans (congrArg some (by kernel_rfl))
 f332 := Tryz.func259.trans (congrArg some (by kernel_rfl))
 f343 := Tryz.func299.trans (congrArg some (by kernel_rfl))
 t0 := Tryz.underlying0
 a0 := Tryz.isAgg0
 z0 := Tryz.sizeOf0
 v0 := Tryz.zeroValue0
 t3 := Tryz.underlying3
 a3 := Tryz.isAgg3
 z3 := Tryz.sizeOf3
 v3 := Tryz.zeroValue3
 t4 := Tryz.underlying4
 a4 := Tryz.isAgg4
 z4 := Tryz.sizeOf4
 v4 := Tryz.zeroValue4
 t5 := Tryz.underlying5
 a5 := Tryz.isAgg5
 z5 := Tryz.sizeOf5
 v5 := Tryz.zeroValue5
 t9 := Tryz.underlying9
 a9 := Tryz.isAgg9
 z9 := Tryz.sizeOf9
 v9 := Tryz.zeroValue9
 t28 := Tryz.underlying56
 a28 := Tryz.isAgg56
 z28 := Tryz.sizeOf56
 v28 := Tryz.zeroValue56
 t46 := Tryz.underlying156
 a46 := Tryz.isAgg156
 z46 := Tryz.sizeOf156
 v46 := Tryz.zeroValue156
 t51 := Tryz.underlying212
 a51 := Tryz.isAgg212
 z51 := Tryz.sizeOf212
 v51 := Tryz.zeroValue212
 t53 := Tryz.underlying214
 a53 := Tryz.isAgg214
 z53 := Tryz.sizeOf214
 v53 := Tryz.zeroValue214
 t131 := Tryz.underlying209
 a131 := Tryz.isAgg209
 z131 := Tryz.sizeOf209
 v131 := Tryz.zeroValue209
 t182 := Tryz.underlying203
 a182 := Tryz.isAgg203
 z182 := Tryz.sizeOf203
 v182 := Tryz.zeroValue203
 t183 := Tryz.underlying204
 a183 := Tryz.isAgg204
 z183 := Tryz.sizeOf204
 v183 := Tryz.zeroValue204
 t218 := Tryz.underlying243
 a218 := Tryz.isAgg243
 z218 := Tryz.sizeOf243
 v218 := Tryz.zeroValue243
 t222 := Tryz.underlying247
 a222 := Tryz.isAgg247
 z222 := Tryz.sizeOf247
 v222 := Tryz.zeroValue247
 t228 := Tryz.underlying274
 a228 := Tryz.isAgg274
 z228 := Tryz.sizeOf274
 v228 := Tryz.zeroValue274
 t229 := Tryz.underlying267
 a229 := Tryz.isAgg267
 z229 := Tryz.sizeOf267
 v229 := Tryz.zeroValue267 }
open Go.Sort Go.RowKit in
theorem Tryz.slices_Sort_int (blk off cap : Nat) (zs : List Int) (w : World) (hH : Holds (Value.int .i64) w blk off zs.toArray) (hblk : blk < w.heap.size) (hsz : zs.length < 4611686018427387904) :
 Calls Tryz.prog 62 #[.slice (some ⟨blk, off, none⟩) zs.length cap] w fun e w' =>
  e = .returned (.tuple #[]) ∧ ∃ n os, w' = grow (putRow (Value.int .i64) (Sort.ahead w n) blk off (zs.mergeSort fun x y => decide (x ≤ y)).toArray) os := Any.slices_Sort_int Tryz.lays189 blk off cap zs w hH hblk hsz
open Go.RowKit Go.Sort in
theorem Tryz.slices_Sort_int_none (p : Option Addr) (cap : Nat) (w : World) :
 Calls Tryz.prog 62 #[.slice p 0 cap] w fun e w' => e = .returned (.tuple #[]) ∧ w' = w := Any.slices_Sort_int_none Tryz.lays189 p cap w
def Tryz.laysSlC25_f128_ren : Go.Shelf.Ren := ⟨fun | 5 => 128 | 7 => 198 | n => n, fun | 22 => 3 | 3 => 3 | 4 => 4 | n => n, fun | n => n⟩
theorem Tryz.laysSlC25_f128 : Go.Proofs.SlLaysC2.n5 Tryz.prog Tryz.laysSlC25_f128_ren := {
 mixed := by kernel_rfl
 f5 := ⟨Tryz.f128.name, by decide, Tryz.func128.trans (congrArg some (by kernel_rfl))⟩
 f7 := ⟨Tryz.f198.name, by decide, Tryz.func198.trans (congrArg some (by kernel_rfl))⟩
 t3 := Tryz.underlying3
 a3 := Tryz.isAgg3
 z3 := Tryz.sizeOf3
 v3 := Tryz.zeroValue3
 t4 := Tryz.underlying4
 a4 := Tryz.isAgg4
 z4 := Tryz.sizeOf4
 v4 := Tryz.zeroValue4
 t22 := Tryz.underlying3
 a22 := Tryz.isAgg3
 z22 := Tryz.sizeOf3
 v22 := Tryz.zeroValue3 }
open Go.Lib in
theorem Tryz.cmp_Compare_int (x y : Int) (w : World) :
 Calls Tryz.prog 128 #[.int .i64 x, .int .i64 y] w fun e w' => e = .returned (.int .i64 (Lib.compareInt x y)) ∧ w' = w := AnyG.cmp_Compare_int Tryz.laysSlC25_f128 x y w
def Tryz.laysSortL_ren : Go.Shelf.Ren := ⟨fun | 6 => 215 | 15 => 123 | 14 => 285 | 28 => 195 | 29 => 196 | 20 => 312 | 21 => 313 | 22 => 314 | 23 => 315 | 24 => 316 | 25 => 317 | 26 => 318 | 27 => 319 | 46 => 332 | 47 => 256 | 48 => 257 | 49 => 333 | 50 => 334 | 57 => 339 | n => n, fun | 22 => 63 | 24 => 174 | 25 => 227 | 3 => 3 | 39 => 156 | 0 => 0 | 53 => 212 | 55 => 214 | 4 => 4 | 46 => 204 | 45 => 203 | 50 => 209 | 5 => 5 | 9 => 9 | 66 => 243 | 70 => 247 | 76 => 274 | 77 => 267 | n => n, fun | n => n⟩
theorem Tryz.laysSortL : Go.Proofs.SlLaysF0.n6 Tryz.prog Tryz.laysSortL_ren := {
 mixed := by kernel_rfl
 f6 := ⟨Tryz.f215.name, by decide, Tryz.func215.trans (congrArg some (by kernel_rfl))⟩
 f14 := ⟨Tryz.f285.name, by decide, Tryz.func285.trans (congrArg some (by kernel_rfl))⟩
 f15 := Tryz.func123.trans (congrArg some (by kernel_rfl))
 f20 := ⟨Tryz.f312.name, by decide, Tryz.func312.trans (congrArg some (by kernel_rfl))⟩
 f21 := ⟨Tryz.f313.name, by decide, Tryz.func313.trans (congrArg some (by kernel_rfl))⟩
 f22 := ⟨Tryz.f314.name, by decide, Tryz.func314.trans (congrArg some (by kernel_rfl))⟩
 f23 := ⟨Tryz.f315.name, by decide, Tryz.func315.trans (congrArg some (by kernel_rfl))⟩
 f24 := ⟨Tryz.f316.name, by decide, Tryz.func316.trans (congrArg some (by kernel_rfl))⟩
 f25 := ⟨Tryz.f317.name, by decide, Tryz.func317.trans (congrArg some (by kernel_rfl))⟩
 f26 := ⟨Tryz.f318.name, by decide, Tryz.func318.trans (congrArg some (by kernel_rfl))⟩
 f27 := ⟨Tryz.f319.name, by decide, Tryz.func319.trans (congrArg some (by kernel_rfl))⟩
 f28 := Tryz.func195.trans (congrArg some (by kernel_rfl))
 f29 := Tryz.func196.trans (congrArg some (by kernel_rfl))
 f46 := ⟨Tryz.f332.name, by decide, Tryz.func332.trans (congrArg some (by kernel_rfl))⟩
 f47 := Tryz.func256.trans (congrArg some (by kernel_rfl))
 f48 := Tryz.func257.trans (congrArg some (by kernel_rfl))
 f49 := ⟨Tryz.f333.name, by decide, Tryz.func333.trans (congrArg some (by kernel_rfl))⟩
 f50 := ⟨Tryz.f334.name, by decide, Tryz.func334.trans (congrArg some (by kernel_rfl))⟩
 f57 := ⟨Tryz.f339.name, by decide, Tryz.func339.trans (congrArg some (by kernel_rfl))⟩
 t0 := Tryz.underlying0
 a0 := Tryz.isAgg0
 z0 := Tryz.sizeOf0
 v0 := Tryz.zeroValue0
 t3 := Tryz.underlying3
 a3 := Tryz.isAgg3
 z3 := Tryz.sizeOf3
 v3 := Tryz.zeroValue3
 t4 := Tryz.underlying4
 a4 := Tryz.isAgg4
 z4 := Tryz.sizeOf4
 v4 := Tryz.zeroValue4
 t5 := Tryz.underlying5
 a5 := Tryz.isAgg5
 z5 := Tryz.sizeOf5
 v5 := Tryz.zeroValue5
 t9 := Tryz.underlying9
 a9 := Tryz.isAgg9
 z9 := Tryz.sizeOf9
 v9 := Tryz.zeroValue9
 t22 := Tryz.underlying63
 a22 := Tryz.isAgg63
 z22 := Tryz.sizeOf63
 v22 := Tryz.zeroValue63
 t25 := Tryz.underlying227
 a25 := Tryz.isAgg227
 z25 := Tryz.sizeOf227
 v25 := Tryz.zeroValue227
 t39 := Tryz.underlying156
 a39 := Tryz.isAgg156
 z39 := Tryz.sizeOf156
 v39 := Tryz.zeroValue156
 t45 := Tryz.underlying203
 a45 := Tryz.isAgg203
 z45 := Tryz.sizeOf203
 v45 := Tryz.zeroValue203
 t46 := Tryz.underlying204
 a46 := Tryz.isAgg204
 z46 := Tryz.sizeOf204
 v46 := Tryz.zeroValue204
 t50 := Tryz.underlying209
 a50 := Tryz.isAgg209
 z50 := Tryz.sizeOf209
 v50 := Tryz.zeroValue209
 t53 := Tryz.underlying212
 a53 := Tryz.isAgg212
 z53 := Tryz.sizeOf212
 v53 := Tryz.zeroValue212
 t55 := Tryz.underlying214
 a55 := Tryz.isAgg214
 z55 := Tryz.sizeOf214
 v55 := Tryz.zeroValue214
 t66 := Tryz.underlying243
 a66 := Tryz.isAgg243
 z66 := Tryz.sizeOf243
 v66 := Tryz.zeroValue243
 t70 := Tryz.underlying247
 a70 := Tryz.isAgg247
 z70 := Tryz.sizeOf247
 v70 := Tryz.zeroValue247
 t76 := Tryz.underlying274
 a76 := Tryz.isAgg274
 z76 := Tryz.sizeOf274
 v76 := Tryz.zeroValue274
 t77 := Tryz.underlying267
 a77 := Tryz.isAgg267
 z77 := Tryz.sizeOf267
 v77 := Tryz.zeroValue267 }
def Tryz.laysInsP_ren : Go.Shelf.Ren := ⟨fun | 20 => 330 | n => n, fun | 24 => 187 | 22 => 183 | 3 => 3 | 25 => 264 | 4 => 4 | 0 => 0 | n => n, fun | n => n⟩
theorem Tryz.laysInsP : Go.Proofs.SlLaysF0.n20 Tryz.prog Tryz.laysInsP_ren := {
 mixed := by kernel_rfl
 f20 := ⟨Tryz.f330.name, by decide, Tryz.func330.trans (congrArg some (by kernel_rfl))⟩
 t0 := Tryz.underlying0
 a0 := Tryz.isAgg0
 z0 := Tryz.sizeOf0
 v0 := Tryz.zeroValue0
 t3 := Tryz.underlying3
 a3 := Tryz.isAgg3
 z3 := Tryz.sizeOf3
 v3 := Tryz.zeroValue3
 t4 := Tryz.underlying4
 a4 := Tryz.isAgg4
 z4 := Tryz.sizeOf4
 v4 := Tryz.zeroValue4
 t22 := Tryz.underlying183
 a22 := Tryz.isAgg183
 z22 := Tryz.sizeOf183
 v22 := Tryz.zeroValue183
 t25 := Tryz.underlying264
 a25 := Tryz.isAgg264
 z25 := Tryz.sizeOf264
 v25 := Tryz.zeroValue264 }
end Go.Proofs
