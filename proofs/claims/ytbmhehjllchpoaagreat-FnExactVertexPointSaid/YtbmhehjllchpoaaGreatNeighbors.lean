/- Neighbors, with Shelf ahead of it. -/
import Derived.Shelf.Small.Bits
import Derived.Shelf.Small.Wraps
import Derived.Shelf.Strconv.Itoa0
import Derived.Shelf.Sort.Plain
import Derived.Shelf.Slices.Turned
import Derived.Ground.Names2Prog
import Derived.Shelf.Slices.SearchI
import Derived.Shelf.Slices.In.SortNone
import Derived.Test.YtbmhehjllchpoaaGreatProg
import Derived.Test.YtbmhehjllchpoaaGreatEdgesS
import Derived.Sort.OwnSortedInts
set_option linter.unusedSimpArgs false
set_option linter.unusedVariables false
namespace Go.Proofs
open Go.Shelf
def Tryz.lays128_ren : Go.Shelf.Ren := ⟨fun | 128 => 91 | n => n, fun | 51 => 101 | 3 => 3 | 4 => 4 | 46 => 86 | 5 => 5 | 9 => 9 | n => n, fun | n => n⟩
theorem Tryz.lays128 : Go.Proofs.Lays.n128 Tryz.prog Tryz.lays128_ren := {
  mixed := by kernel_rfl
  f128 := Tryz.func91.trans (congrArg some (by kernel_rfl))
  t3 := Tryz.underlying3
  a3 := Tryz.isAgg3
  z3 := Tryz.sizeOf3
  v3 := Tryz.zeroValue3
  t4 := Tryz.underlying4
  a4 := Tryz.isAgg4
  z4 := Tryz.sizeOf4
  v4 := Tryz.zeroValue4
  t5 := Tryz.underlying5
  a5 := Tryz.isAgg5
  z5 := Tryz.sizeOf5
  v5 := Tryz.zeroValue5
  t9 := Tryz.underlying9
  a9 := Tryz.isAgg9
  z9 := Tryz.sizeOf9
  v9 := Tryz.zeroValue9
  t46 := Tryz.underlying86
  a46 := Tryz.isAgg86
  z46 := Tryz.sizeOf86
  v46 := Tryz.zeroValue86
  t51 := Tryz.underlying101
  a51 := Tryz.isAgg101
  z51 := Tryz.sizeOf101
  v51 := Tryz.zeroValue101 }
/-- bits.Len32: "Len32 returns the minimum number of bits required to represent x; the result is 0 for x == 0.": IT RETURNS 'Lib.bitLen x'; the world is as it was. ('h0', 'h1': x is a uint32.) (LAID: no walk: one application.) -/
theorem Tryz.bits_Len32 (x : Int) (w : World) (h0 : 0 ≤ x) (h1 : x ≤ 4294967295) :
    Calls Tryz.prog 91 #[.int .u32 x] w fun e w' => e = .returned (.int .i64 (Lib.bitLen x.toNat)) ∧ w' = w := Any.bits_Len32 Tryz.lays128 x w h0 h1
def Tryz.lays125_ren : Go.Shelf.Ren := ⟨fun | 125 => 75 | 128 => 91 | 129 => 92 | n => n, fun | 46 => 86 | 3 => 3 | 51 => 101 | 53 => 103 | 4 => 4 | 5 => 5 | 9 => 9 | n => n, fun | n => n⟩
theorem Tryz.lays125 : Go.Proofs.Lays.n125 Tryz.prog Tryz.lays125_ren := {
  mixed := by kernel_rfl
  f125 := Tryz.func75.trans (congrArg some (by kernel_rfl))
  f128 := Tryz.func91.trans (congrArg some (by kernel_rfl))
  f129 := Tryz.func92.trans (congrArg some (by kernel_rfl))
  t3 := Tryz.underlying3
  a3 := Tryz.isAgg3
  z3 := Tryz.sizeOf3
  v3 := Tryz.zeroValue3
  t4 := Tryz.underlying4
  a4 := Tryz.isAgg4
  z4 := Tryz.sizeOf4
  v4 := Tryz.zeroValue4
  t5 := Tryz.underlying5
  a5 := Tryz.isAgg5
  z5 := Tryz.sizeOf5
  v5 := Tryz.zeroValue5
  t9 := Tryz.underlying9
  a9 := Tryz.isAgg9
  z9 := Tryz.sizeOf9
  v9 := Tryz.zeroValue9
  t46 := Tryz.underlying86
  a46 := Tryz.isAgg86
  z46 := Tryz.sizeOf86
  v46 := Tryz.zeroValue86
  t51 := Tryz.underlying101
  a51 := Tryz.isAgg101
  z51 := Tryz.sizeOf101
  v51 := Tryz.zeroValue101
  t53 := Tryz.underlying103
  a53 := Tryz.isAgg103
  z53 := Tryz.sizeOf103
  v53 := Tryz.zeroValue103 }
/-- bits.Len: "Len returns the minimum number of bits required to represent x; the result is 0 for x == 0.": IT RETURNS 'Lib.bitLen x'; the world is as it was. (A uint has 64 bits in the model.) ITS CALLEE bits.Len64 IS MET BY ITS OWN CONTRACT OFF THE SHELF (lay that first). (LAID: no walk: one application.) -/
theorem Tryz.bits_Len (x : Int) (w : World) (h0 : 0 ≤ x) (h1 : x ≤ 18446744073709551615) :
    Calls Tryz.prog 75 #[.int .u64 x] w fun e w' => e = .returned (.int .i64 (Lib.bitLen x.toNat)) ∧ w' = w := Any.bits_Len Tryz.lays125 x w h0 h1
def Tryz.lays215_ren : Go.Shelf.Ren := ⟨fun | 215 => 94 | n => n, fun | 3 => 3 | 4 => 4 | n => n, fun | n => n⟩
theorem Tryz.lays215 : Go.Proofs.Lays.n215 Tryz.prog Tryz.lays215_ren := {
  mixed := by kernel_rfl
  f215 := Tryz.func94.trans (congrArg some (by kernel_rfl))
  t3 := Tryz.underlying3
  a3 := Tryz.isAgg3
  z3 := Tryz.sizeOf3
  v3 := Tryz.zeroValue3
  t4 := Tryz.underlying4
  a4 := Tryz.isAgg4
  z4 := Tryz.sizeOf4
  v4 := Tryz.zeroValue4 }
open Go.RowKit in
/-- cmp.isNaN at int: 'x != x': false. (LAID: no walk: one application.) -/
theorem Tryz.cmp_isNaN_int (x : Int) (w : World) :
    Calls Tryz.prog 94 #[.int .i64 x] w fun e w' => e = .returned (.bool false) ∧ w' = w := Any.cmp_isNaN_int Tryz.lays215 x w
def Tryz.lays122_ren : Go.Shelf.Ren := ⟨fun | 122 => 79 | 215 => 94 | n => n, fun | 3 => 3 | 4 => 4 | n => n, fun | n => n⟩
theorem Tryz.lays122 : Go.Proofs.Lays.n122 Tryz.prog Tryz.lays122_ren := {
  mixed := by kernel_rfl
  f122 := Tryz.func79.trans (congrArg some (by kernel_rfl))
  f215 := Tryz.func94.trans (congrArg some (by kernel_rfl))
  t3 := Tryz.underlying3
  a3 := Tryz.isAgg3
  z3 := Tryz.sizeOf3
  v3 := Tryz.zeroValue3
  t4 := Tryz.underlying4
  a4 := Tryz.isAgg4
  z4 := Tryz.sizeOf4
  v4 := Tryz.zeroValue4 }
open Go.RowKit in
/-- cmp.Compare at int: "Compare returns -1 if x is less than y, 0 if x equals y, +1 if x is greater than y.": IT RETURNS 'Lib.compareInt x y'; the world is as it was. (LAID: no walk: one application.) -/
theorem Tryz.cmp_Compare_int (x y : Int) (w : World) :
    Calls Tryz.prog 79 #[.int .i64 x, .int .i64 y] w fun e w' => e = .returned (.int .i64 (Lib.compareInt x y)) ∧ w' = w := Any.cmp_Compare_int Tryz.lays122 x y w
def Tryz.lays129_ren : Go.Shelf.Ren := ⟨fun | 129 => 92 | n => n, fun | 53 => 103 | 3 => 3 | 4 => 4 | 46 => 86 | 5 => 5 | 9 => 9 | n => n, fun | n => n⟩
theorem Tryz.lays129 : Go.Proofs.Lays.n129 Tryz.prog Tryz.lays129_ren := {
  mixed := by kernel_rfl
  f129 := Tryz.func92.trans (congrArg some (by kernel_rfl))
  t3 := Tryz.underlying3
  a3 := Tryz.isAgg3
  z3 := Tryz.sizeOf3
  v3 := Tryz.zeroValue3
  t4 := Tryz.underlying4
  a4 := Tryz.isAgg4
  z4 := Tryz.sizeOf4
  v4 := Tryz.zeroValue4
  t5 := Tryz.underlying5
  a5 := Tryz.isAgg5
  z5 := Tryz.sizeOf5
  v5 := Tryz.zeroValue5
  t9 := Tryz.underlying9
  a9 := Tryz.isAgg9
  z9 := Tryz.sizeOf9
  v9 := Tryz.zeroValue9
  t46 := Tryz.underlying86
  a46 := Tryz.isAgg86
  z46 := Tryz.sizeOf86
  v46 := Tryz.zeroValue86
  t53 := Tryz.underlying103
  a53 := Tryz.isAgg103
  z53 := Tryz.sizeOf103
  v53 := Tryz.zeroValue103 }
/-- bits.Len64: "Len64 returns the minimum number of bits required to represent x; the result is 0 for x == 0.": IT RETURNS 'Lib.bitLen x'; the world is as it was. ('h0', 'h1': x is a uint64.) (LAID: no walk: one application.) -/
theorem Tryz.bits_Len64 (x : Int) (w : World) (h0 : 0 ≤ x) (h1 : x ≤ 18446744073709551615) :
    Calls Tryz.prog 92 #[.int .u64 x] w fun e w' => e = .returned (.int .i64 (Lib.bitLen x.toNat)) ∧ w' = w := Any.bits_Len64 Tryz.lays129 x w h0 h1
def Tryz.lays189_ren : Go.Shelf.Ren := ⟨fun | 189 => 58 | 125 => 75 | 257 => 74 | 128 => 91 | 129 => 92 | 294 => 82 | 295 => 83 | 296 => 84 | 297 => 85 | 298 => 86 | 299 => 87 | 216 => 88 | 300 => 89 | 301 => 90 | 328 => 95 | 329 => 96 | 330 => 97 | 331 => 98 | 332 => 99 | 215 => 94 | 343 => 108 | n => n, fun | 28 => 41 | 3 => 3 | 46 => 86 | 0 => 0 | 51 => 101 | 53 => 103 | 4 => 4 | 183 => 94 | 182 => 93 | 131 => 98 | 5 => 5 | 9 => 9 | 218 => 106 | 222 => 110 | 228 => 117 | 229 => 118 | n => n, fun | n => n⟩
theorem Tryz.lays189 : Go.Proofs.Lays.n189 Tryz.prog Tryz.lays189_ren := {
  mixed := by kernel_rfl
  f125 := Tryz.func75.trans (congrArg some (by kernel_rfl))
  f128 := Tryz.func91.trans (congrArg some (by kernel_rfl))
  f129 := Tryz.func92.trans (congrArg some (by kernel_rfl))
  f189 := Tryz.func58.trans (congrArg some (by kernel_rfl))
  f215 := Tryz.func94.trans (congrArg some (by kernel_rfl))
  f216 := Tryz.func88.trans (congrArg some (by kernel_rfl))
  f257 := Tryz.func74.trans (congrArg some (by kernel_rfl))
  f294 := Tryz.func82.trans (congrArg some (by kernel_rfl))
  f295 := Tryz.func83.trans (congrArg some (by kernel_rfl))
  f296 := Tryz.func84.trans (congrArg some (by kernel_rfl))
  f297 := Tryz.func85.trans (congrArg some (by kernel_rfl))
  f298 := Tryz.func86.trans (congrArg some (by kernel_rfl))
  f299 := Tryz.func87.trans (congrArg some (by kernel_rfl))
  f300 := Tryz.func89.trans (congrArg some (by kernel_rfl))
  f301 := Tryz.func90.trans (congrArg some (by kernel_rfl))
  f328 := Tryz.func95.trans (congrArg some (by kernel_rfl))
  f329 := Tryz.func96.trans (congrArg some (by kernel_rfl))
  f330 := Tryz.func97.trans (congrArg some (by kernel_rfl))
  f331 := Tryz.func98.trans (congrArg some (by kernel_rfl))
  f332 := Tryz.func99.trans (congrArg some (by kernel_rfl))
  f343 := Tryz.func108.trans (congrArg some (by kernel_rfl))
  t0 := Tryz.underlying0
  a0 := Tryz.isAgg0
  z0 := Tryz.sizeOf0
  v0 := Tryz.zeroValue0
  t3 := Tryz.underlying3
  a3 := Tryz.isAgg3
  z3 := Tryz.sizeOf3
  v3 := Tryz.zeroValue3
  t4 := Tryz.underlying4
  a4 := Tryz.isAgg4
  z4 := Tryz.sizeOf4
  v4 := Tryz.zeroValue4
  t5 := Tryz.underlying5
  a5 := Tryz.isAgg5
  z5 := Tryz.sizeOf5
  v5 := Tryz.zeroValue5
  t9 := Tryz.underlying9
  a9 := Tryz.isAgg9
  z9 := Tryz.sizeOf9
  v9 := Tryz.zeroValue9
  t28 := Tryz.underlying41
  a28 := Tryz.isAgg41
  z28 := Tryz.sizeOf41
  v28 := Tryz.zeroValue41
  t46 := Tryz.underlying86
  a46 := Tryz.isAgg86
  z46 := Tryz.sizeOf86
  v46 := Tryz.zeroValue86
  t51 := Tryz.underlying101
  a51 := Tryz.isAgg101
  z51 := Tryz.sizeOf101
  v51 := Tryz.zeroValue101
  t53 := Tryz.underlying103
  a53 := Tryz.isAgg103
  z53 := Tryz.sizeOf103
  v53 := Tryz.zeroValue103
  t131 := Tryz.underlying98
  a131 := Tryz.isAgg98
  z131 := Tryz.sizeOf98
  v131 := Tryz.zeroValue98
  t182 := Tryz.underlying93
  a182 := Tryz.isAgg93
  z182 := Tryz.sizeOf93
  v182 := Tryz.zeroValue93
  t183 := Tryz.underlying94
  a183 := Tryz.isAgg94
  z183 := Tryz.sizeOf94
  v183 := Tryz.zeroValue94
  t218 := Tryz.underlying106
  a218 := Tryz.isAgg106
  z218 := Tryz.sizeOf106
  v218 := Tryz.zeroValue106
  t222 := Tryz.underlying110
  a222 := Tryz.isAgg110
  z222 := Tryz.sizeOf110
  v222 := Tryz.zeroValue110
  t228 := Tryz.underlying117
  a228 := Tryz.isAgg117
  z228 := Tryz.sizeOf117
  v228 := Tryz.zeroValue117
  t229 := Tryz.underlying118
  a229 := Tryz.isAgg118
  z229 := Tryz.sizeOf118
  v229 := Tryz.zeroValue118 }
open Go.Sort Go.RowKit in
theorem Tryz.slices_Sort_int (blk off cap : Nat) (zs : List Int) (w : World) (hH : Holds (Value.int .i64) w blk off zs.toArray) (hblk : blk < w.heap.size) (hsz : zs.length < 4611686018427387904) :
    Calls Tryz.prog 58 #[.slice (some ⟨blk, off, none⟩) zs.length cap] w fun e w' =>
      e = .returned (.tuple #[]) ∧ ∃ n os, w' = grow (putRow (Value.int .i64) (Sort.ahead w n) blk off (zs.mergeSort fun x y => decide (x ≤ y)).toArray) os := Any.slices_Sort_int Tryz.lays189 blk off cap zs w hH hblk hsz
def Tryz.lays108_ren : Go.Shelf.Ren := ⟨fun | 108 => 56 | n => n, fun | 28 => 41 | 3 => 3 | 0 => 0 | 4 => 4 | n => n, fun | n => n⟩
theorem Tryz.lays108 : Go.Proofs.Lays.n108 Tryz.prog Tryz.lays108_ren := {
  mixed := by kernel_rfl
  f108 := Tryz.func56.trans (congrArg some (by kernel_rfl))
  t0 := Tryz.underlying0
  a0 := Tryz.isAgg0
  z0 := Tryz.sizeOf0
  v0 := Tryz.zeroValue0
  t3 := Tryz.underlying3
  a3 := Tryz.isAgg3
  z3 := Tryz.sizeOf3
  v3 := Tryz.zeroValue3
  t4 := Tryz.underlying4
  a4 := Tryz.isAgg4
  z4 := Tryz.sizeOf4
  v4 := Tryz.zeroValue4
  t28 := Tryz.underlying41
  a28 := Tryz.isAgg41
  z28 := Tryz.sizeOf41
  v28 := Tryz.zeroValue41 }
open Go.Lib in
/-- slices.Index at []int: "Index returns the index of the first occurrence of v in s, or -1 if not present.": IT RETURNS 'Lib.idxOf (the elements) v'; the world is as it was. 'zs': what the cells behind the slice's address hold (its spare capacity too, if you have it); 'zs.take n': its elements. (LAID: no walk: one application.) -/
theorem Tryz.slices_Index_int (b off n c : Nat) (zs : List Int) (x : Int) (w : World) (hz : n ≤ zs.length) (hbig : n ≤ 9223372036854775807) (hc : ∀ j, j < zs.length → w.cell? ⟨b, off + j, none⟩ = some (.int .i64 (zs.getD j 0))) :
    Calls Tryz.prog 56 #[.slice (some ⟨b, off, none⟩) n c, .int .i64 x] w fun e w' => e = .returned (.int .i64 (Lib.idxOf (zs.take n) x)) ∧ w' = w := Any.slices_Index_int Tryz.lays108 b off n c zs x w hz hbig hc
open Go.Lib in
/-- The same at a slice of length 0, a nil one too: no cell is known, none is asked for. (LAID: no walk: one application.) -/
theorem Tryz.slices_Index_int_empty (a : Option Addr) (c : Nat) (x : Int) (w : World) :
    Calls Tryz.prog 56 #[.slice a 0 c, .int .i64 x] w fun e w' => e = .returned (.int .i64 (Lib.idxOf [] x)) ∧ w' = w := Any.slices_Index_int_empty Tryz.lays108 a c x w
def Tryz.lays107_ren : Go.Shelf.Ren := ⟨fun | 107 => 57 | 108 => 56 | n => n, fun | 28 => 41 | 3 => 3 | 4 => 4 | 0 => 0 | n => n, fun | n => n⟩
theorem Tryz.lays107 : Go.Proofs.Lays.n107 Tryz.prog Tryz.lays107_ren := {
  mixed := by kernel_rfl
  f107 := Tryz.func57.trans (congrArg some (by kernel_rfl))
  f108 := Tryz.func56.trans (congrArg some (by kernel_rfl))
  t0 := Tryz.underlying0
  a0 := Tryz.isAgg0
  z0 := Tryz.sizeOf0
  v0 := Tryz.zeroValue0
  t3 := Tryz.underlying3
  a3 := Tryz.isAgg3
  z3 := Tryz.sizeOf3
  v3 := Tryz.zeroValue3
  t4 := Tryz.underlying4
  a4 := Tryz.isAgg4
  z4 := Tryz.sizeOf4
  v4 := Tryz.zeroValue4
  t28 := Tryz.underlying41
  a28 := Tryz.isAgg41
  z28 := Tryz.sizeOf41
  v28 := Tryz.zeroValue41 }
open Go.Lib in
/-- slices.Contains at []int: "Contains reports whether v is present in s.": IT RETURNS 'elements.contains v'; the world is as it was. ITS CALLEE slices.Index IS MET BY ITS OWN CONTRACT OFF THE SHELF (lay that first): no loop is walked here. (LAID: no walk: one application.) -/
theorem Tryz.slices_Contains_int (b off n c : Nat) (zs : List Int) (x : Int) (w : World) (hz : n ≤ zs.length) (hbig : n ≤ 9223372036854775807) (hc : ∀ j, j < zs.length → w.cell? ⟨b, off + j, none⟩ = some (.int .i64 (zs.getD j 0))) :
    Calls Tryz.prog 57 #[.slice (some ⟨b, off, none⟩) n c, .int .i64 x] w fun e w' => e = .returned (.bool ((zs.take n).contains x)) ∧ w' = w := Any.slices_Contains_int Tryz.lays107 b off n c zs x w hz hbig hc
open Go.Lib in
/-- The same at a slice of length 0, a nil one too. (LAID: no walk: one application.) -/
theorem Tryz.slices_Contains_int_empty (a : Option Addr) (c : Nat) (x : Int) (w : World) :
    Calls Tryz.prog 57 #[.slice a 0 c, .int .i64 x] w fun e w' => e = .returned (.bool false) ∧ w' = w := Any.slices_Contains_int_empty Tryz.lays107 a c x w
def Tryz.laysNm237_ren : Go.Shelf.Ren := ⟨fun | 37 => 94 | n => n, fun | 3 => 3 | 4 => 4 | n => n, fun | n => n⟩
theorem Tryz.laysNm237 : Go.Proofs.Lays2.n37 Tryz.prog Tryz.laysNm237_ren := {
  mixed := by kernel_rfl
  f37 := Tryz.func94.trans (congrArg some (by kernel_rfl))
  t3 := Tryz.underlying3
  a3 := Tryz.isAgg3
  z3 := Tryz.sizeOf3
  v3 := Tryz.zeroValue3
  t4 := Tryz.underlying4
  a4 := Tryz.isAgg4
  z4 := Tryz.sizeOf4
  v4 := Tryz.zeroValue4 }
open Go.RowKit Go.Lib in
/-- cmp.isNaN[int]: 'x != x': false. (LAID: no walk: one application.) -/
theorem Tryz.cmp_isNaN_int2 (x : Int) (w : World) :
    Calls Tryz.prog 94 #[.int .i64 x] w fun e w' => e = .returned (.bool false) ∧ w' = w := Any.cmp_isNaN_int2 Tryz.laysNm237 x w
def Tryz.laysNm231_ren : Go.Shelf.Ren := ⟨fun | 31 => 88 | 37 => 94 | n => n, fun | 3 => 3 | 4 => 4 | n => n, fun | n => n⟩
theorem Tryz.laysNm231 : Go.Proofs.Lays2.n31 Tryz.prog Tryz.laysNm231_ren := {
  mixed := by kernel_rfl
  f31 := Tryz.func88.trans (congrArg some (by kernel_rfl))
  f37 := Tryz.func94.trans (congrArg some (by kernel_rfl))
  t3 := Tryz.underlying3
  a3 := Tryz.isAgg3
  z3 := Tryz.sizeOf3
  v3 := Tryz.zeroValue3
  t4 := Tryz.underlying4
  a4 := Tryz.isAgg4
  z4 := Tryz.sizeOf4
  v4 := Tryz.zeroValue4 }
open Go.RowKit Go.Lib in
/-- cmp.Less[int]: "Less reports whether x is less than y.": 'x < y'; the world is as it was. (LAID: no walk: one application.) -/
theorem Tryz.cmp_Less_int2 (x y : Int) (w : World) :
    Calls Tryz.prog 88 #[.int .i64 x, .int .i64 y] w fun e w' => e = .returned (.bool (decide (x < y))) ∧ w' = w := Any.cmp_Less_int2 Tryz.laysNm231 x y w
open Go.RowKit Go.Sort in
/-- .. and plain. (LAID: no walk: one application.) -/
theorem Tryz.slices_Sort_int_none (p : Option Addr) (cap : Nat) (w : World) :
    Calls Tryz.prog 58 #[.slice p 0 cap] w fun e w' => e = .returned (.tuple #[]) ∧ w' = w := Any.slices_Sort_int_none Tryz.lays189 p cap w
end Go.Proofs
namespace Go.Proofs.YtbmhehjllchpoaaGreat
open Go Go.RowKit Go.Maps Go.Sort
def sortI (l : List Int) : List Int := l.mergeSort fun x y => decide (x ≤ y)
theorem mem_sortI {l : List Int} {x : Int} : x ∈ sortI l ↔ x ∈ l := List.mem_mergeSort
theorem len_sortI (l : List Int) : (sortI l).length = l.length := List.length_mergeSort _
theorem sorted_sortI {l : List Int} (h : l.Nodup) : (sortI l).Pairwise fun x y => x < y := by
  have h1 : (sortI l).Pairwise fun x y => decide (x ≤ y) = true := List.pairwise_mergeSort (fun a b c hab hbc => by
      simp only [decide_eq_true_eq] at *; omega) (fun a b => by
      simp only [Bool.or_eq_true, decide_eq_true_eq]; omega) l
  have h2 : (sortI l).Nodup := (List.mergeSort_perm l _).nodup_iff.2 h
  refine (h1.and h2).imp fun {a b} ⟨h3, h4⟩ => ?_
  simp only [decide_eq_true_eq] at h3
  omega
/-- The other end of an edge at v. -/
def endsE (v : Int) (e : Int × Int) : List Int := (if e.1 = v then [e.2] else []) ++ (if e.2 = v then [e.1] else [])
def nbOf (L : List (Int × Int)) (v : Int) : List Int := L.flatMap (endsE v)
theorem nbOf_snoc (L : List (Int × Int)) (e : Int × Int) (v : Int) : nbOf (L ++ [e]) v = nbOf L v ++ endsE v e := by simp [nbOf]
theorem endsE_len (v : Int) (e : Int × Int) : (endsE v e).length ≤ 2 := by unfold endsE; split <;> split <;> simp
theorem nbOf_len (v : Int) : ∀ L : List (Int × Int), (nbOf L v).length ≤ 2 * L.length
  | [] => by simp [nbOf]
  | e :: L => by
    have h1 := nbOf_len v L
    have h2 := endsE_len v e
    simp only [nbOf, List.flatMap_cons, List.length_append, List.length_cons] at *
    omega
/-- The edges of a mesh: the smaller end ahead. -/
def Ups (L : List (Int × Int)) : Prop := ∀ e ∈ L, e.1 < e.2
theorem mem_ends {v y : Int} {e : Int × Int} (h : e.1 < e.2) : y ∈ endsE v e ↔ und (v, y) = e ∧ y ≠ v := by
  obtain ⟨a, b⟩ := e
  dsimp only at h
  unfold endsE und
  by_cases h1 : a = v <;> by_cases h2 : b = v <;> simp [h1, h2, Prod.ext_iff] <;> omega
theorem nodup_ends {v : Int} {e : Int × Int} (h : e.1 < e.2) : (endsE v e).Nodup := by
  obtain ⟨a, b⟩ := e
  dsimp only at h
  unfold endsE
  by_cases h1 : a = v <;> by_cases h2 : b = v <;> simp [h1, h2] <;> omega
theorem mem_nb {v y : Int} : ∀ {L : List (Int × Int)}, Ups L → (y ∈ nbOf L v ↔ und (v, y) ∈ L ∧ y ≠ v)
  | [], _ => by simp [nbOf]
  | e :: L, h => by
    have h1 := mem_nb (v := v) (y := y) (L := L) (fun x hx => h x (by simp [hx]))
    have h2 := mem_ends (v := v) (y := y) (h e (by simp))
    simp only [nbOf, List.flatMap_cons, List.mem_append, List.mem_cons] at *
    rw [h1, h2]
    constructor
    · rintro (⟨h3, h4⟩ | ⟨h3, h4⟩)
      · exact ⟨.inl h3, h4⟩
      · exact ⟨.inr h3, h4⟩
    · rintro ⟨h3 | h3, h4⟩
      · exact .inl ⟨h3, h4⟩
      · exact .inr ⟨h3, h4⟩
theorem nodup_nb {v : Int} : ∀ {L : List (Int × Int)}, L.Nodup → Ups L → (nbOf L v).Nodup
  | [], _, _ => by simp [nbOf]
  | e :: L, hn, h => by
    obtain ⟨h1, h2⟩ := List.nodup_cons.1 hn
    have hu : Ups L := fun x hx => h x (by simp [hx])
    have h3 := nodup_nb (v := v) h2 hu
    show (endsE v e ++ nbOf L v).Nodup
    refine List.nodup_append.2 ⟨nodup_ends (h e (by simp)), h3, fun x hx y hy e2 => ?_⟩
    subst e2
    have h4 := (mem_ends (h e (by simp))).1 hx
    have h5 := (mem_nb hu).1 hy
    rw [h4.1] at h5
    exact h1 h5.1
/-- As the reference lists them. -/
def putEnds (v : Int) (l : List (Int × Int)) (e : Int × Int) : List (Int × Int) :=
  let l1 := if e.1 = v then putE l (e.2, 0) else l
  if e.2 = v then putE l1 (e.1, 0) else l1
def nbPut (L : List (Int × Int)) (v : Int) : List (Int × Int) := L.foldl (putEnds v) []
theorem nbPut_snoc (L : List (Int × Int)) (e : Int × Int) (v : Int) : nbPut (L ++ [e]) v = putEnds v (nbPut L v) e := by simp [nbPut]
theorem putEnds_len (v : Int) (l : List (Int × Int)) (e : Int × Int) : (putEnds v l e).length ≤ l.length + 2 := by
  unfold putEnds
  have h1 := putE_len l (e.2, 0)
  have h2 := putE_len l (e.1, 0)
  have h3 := putE_len (putE l (e.2, 0)) (e.1, 0)
  dsimp only
  split <;> split <;> omega
theorem putEnds_ok {v : Int} {l : List (Int × Int)} {e : Int × Int} (h : SortedE l) : SortedE (putEnds v l e) ∧ ∀ p, p ∈ putEnds v l e ↔ (p.2 = 0 ∧ p.1 ∈ endsE v e) ∨ p ∈ l := by
  obtain ⟨a, b⟩ := e
  unfold putEnds endsE
  dsimp only
  refine ⟨?_, fun p => ?_⟩
  · split <;> split
    · exact sorted_putE (sorted_putE h)
    · exact sorted_putE h
    · exact sorted_putE h
    · exact h
  · obtain ⟨x, y⟩ := p
    by_cases h1 : a = v <;> by_cases h2 : b = v <;> simp [h1, h2, mem_putE] <;> grind
theorem revInd {α : Type} {P : List α → Prop} (h0 : P []) (h1 : ∀ l x, P l → P (l ++ [x])) (l : List α) : P l := by
  rw [← List.reverse_reverse l]
  induction l.reverse with
  | nil => exact h0
  | cons x t ih => rw [List.reverse_cons]; exact h1 _ _ ih
theorem nbPut_ok (v : Int) (L : List (Int × Int)) : SortedE (nbPut L v) ∧ ∀ p, p ∈ nbPut L v ↔ p.2 = 0 ∧ p.1 ∈ nbOf L v := by
  refine revInd (P := fun L => SortedE (nbPut L v) ∧ ∀ p, p ∈ nbPut L v ↔ p.2 = 0 ∧ p.1 ∈ nbOf L v) ?_ ?_ L
  · exact ⟨List.Pairwise.nil, fun p => by simp [nbPut, nbOf]⟩
  · intro l e ⟨h1, h2⟩
    obtain ⟨h3, h4⟩ := putEnds_ok (v := v) (e := e) h1
    rw [nbPut_snoc, nbOf_snoc]
    refine ⟨h3, fun p => ?_⟩
    rw [h4, h2, List.mem_append]
    constructor
    · rintro (⟨h5, h6⟩ | ⟨h5, h6⟩)
      · exact ⟨h5, .inr h6⟩
      · exact ⟨h5, .inl h6⟩
    · rintro ⟨h5, h6 | h6⟩
      · exact .inr ⟨h5, h6⟩
      · exact .inl ⟨h5, h6⟩
theorem nbPut_len (v : Int) (L : List (Int × Int)) : (nbPut L v).length ≤ 2 * L.length := by
  refine revInd (P := fun L => (nbPut L v).length ≤ 2 * L.length) (by simp [nbPut]) (fun l e h => ?_) L
  rw [nbPut_snoc, List.length_append, List.length_singleton]
  have := putEnds_len v (nbPut l v) e
  omega
theorem nb_eq {L : List (Int × Int)} {v : Int} (hn : L.Nodup) (hu : Ups L) : (nbPut L v).map (·.1) = sortI (nbOf L v) := by
  have h1 := nodup_nb (v := v) hn hu
  have h2 := sorted_sortI h1
  have h3 : SortedE ((sortI (nbOf L v)).map fun x => (x, (0 : Int))) := by
    refine List.Pairwise.map _ (fun a b h => ?_) h2
    rw [ltE_iff]; exact .inl h
  obtain ⟨h4, h5⟩ := nbPut_ok v L
  have h6 : nbPut L v = (sortI (nbOf L v)).map fun x => (x, (0 : Int)) := sortedE_eq h4 h3 fun p => by
    rw [h5, List.mem_map]
    constructor
    · rintro ⟨h7, h8⟩
      exact ⟨p.1, mem_sortI.2 h8, by rw [← h7]⟩
    · rintro ⟨x, h7, rfl⟩
      exact ⟨rfl, mem_sortI.1 h7⟩
  rw [h6, List.map_map]
  simp [Function.comp_def]
theorem ups_edges {p : MeshD} (hok : meshOk p) : Ups (edgesL p.faces p.nF) := fun e he => by
  obtain ⟨i, j, hi, hj, rfl⟩ := mem_edgesL he
  obtain ⟨h4, _, hd⟩ := hok.2.2.2.1 i hi
  have hne : (stepAt (faceAt p.faces i) j).1 ≠ (stepAt (faceAt p.faces i) j).2 := by
    simp only [stepAt]
    have hm : (j + 1) % (faceAt p.faces i).length < (faceAt p.faces i).length := Nat.mod_lt _ (by omega)
    by_cases hlt : j < (j + 1) % (faceAt p.faces i).length
    · exact hd _ _ hlt hm
    · refine (hd _ _ (show (j + 1) % (faceAt p.faces i).length < j from ?_) (by omega)).symm
      rw [h4] at hlt ⊢
      omega
  generalize stepAt (faceAt p.faces i) j = q at *
  obtain ⟨x, y⟩ := q
  simp only [und]
  dsimp only at hne
  omega
theorem ups_edgesD (p : MeshD) : Ups (edgesD p) ∧ (edgesD p).Nodup := by
  unfold edgesD
  split
  · have hok := meshOkB_true.1 (by assumption)
    exact ⟨ups_edges hok, sortedE_nodup (edges_ok _ _).1⟩
  · exact ⟨fun e h => (by cases h), List.nodup_nil⟩
noncomputable def nbD (p : MeshD) (v : Int) : List Int := sortI (nbOf (edgesD p) v)
theorem nbD_le (p : MeshD) (v : Int) : (nbD p v).length ≤ 1048576 := by
  unfold nbD
  rw [len_sortI]
  have := nbOf_len v (edgesD p)
  have := edgesD_le p
  omega
/-- The library's sort, on a row of integers of one's own. -/
theorem sortInts_c (base : Nat) (v : Value) (zs : List Int) (w : World) (ho : w.ownsRow base 3 1 v zs.length (zs.map (.int .i64))) (hn : zs.length ≤ 1048576) :
    Calls Tryz.prog 58 #[v] w fun e w' => e = .returned (.tuple #[]) ∧ w'.ownsRow base 3 1 v zs.length ((sortI zs).map (.int .i64)) ∧ w.grownBy w' v.ownBlock := by
  have nil : ∀ (p : Option Addr) (cap : Nat), v = .slice p 0 cap → zs.length = 0 → Calls Tryz.prog 58 #[v] w fun e w' => e = .returned (.tuple #[]) ∧ w'.ownsRow base 3 1 v zs.length ((sortI zs).map (.int .i64)) ∧ w.grownBy w' v.ownBlock := by
    intro p cap hv h0
    have hL : sortI zs = zs := by obtain rfl := List.length_eq_zero_iff.1 h0; exact List.mergeSort_nil
    subst hv
    refine (Tryz.slices_Sort_int_none p cap w).mono ?_
    rintro e w' ⟨rfl, rfl⟩
    exact ⟨rfl, by rw [hL]; exact ho, ⟨rfl, rfl, rfl, Nat.le_refl _, fun _ _ _ => rfl⟩⟩
  rcases ho.2 with ⟨rfl, h0⟩ | ⟨g, cap, cur, rfl, hb, hg, hnc, hcm, hcs, ht⟩
  · exact nil none 0 rfl h0
  · by_cases h0 : zs.length = 0
    · exact nil (some ⟨g, 0, none⟩) cap (by rw [h0]) h0
    have hH : Holds (Value.int .i64) w g 0 zs.toArray := holds_of_blockI hg (by rw [Nat.mul_one] at ht; exact ht)
    refine (Tryz.slices_Sort_int g 0 cap zs w hH (Array.getElem?_eq_some_iff.1 hg).1 (by omega)).mono ?_
    rintro e w' ⟨rfl, n, os, rfl⟩
    exact ⟨rfl, ownsRow_sortedI (n := n) (os := os) (ts := sortI zs) (len_sortI zs) hb hg hnc hcm hcs, grownBy_sortedI _⟩
set_option maxRecDepth 100000 in
set_option maxHeartbeats 1000000 in
theorem impl_neighbors_c (u : Value) (L : List (Int × Int)) (x : Int) (base : Nat) (w : World) (ho : w.ownsRow base 63 2 u L.length (edgeVals L)) (hl : L.length ≤ 1000) :
    Calls Tryz.prog 42 #[u, .int .i64 x] w (Gives w 1 (sortI (nbOf L x)).length (intAt (sortI (nbOf L x)))) := by
  have HX := Lib.hid (show Sl w (match u with | .slice a _ _ => a | _ => none) 2 L.length (edgeAt L) from by
    obtain ⟨a, cap, rfl, h⟩ := ow_of_ownsRow ho (flat_get (s := 2) (n := L.length) (C := edgeAt L) (fun _ _ => rfl))
    exact h.sl)
  obtain ⟨a, cap, rfl⟩ := own_slice ho
  dsimp only at HX
  clear ho
  have HTK := Lib.hid (show ∀ k, k < L.length → nbOf (L.take (k + 1)) x = nbOf (L.take k) x ++ endsE x (L.getD k (0, 0)) from fun k hk => by
    rw [List.take_add_one, List.getElem?_eq_getElem hk, List.getD_eq_getElem?_getD, List.getElem?_eq_getElem hk]; exact nbOf_snoc _ _ _)
  have HTL := Lib.hid (show ∀ k, (nbOf (L.take k) x).length ≤ 2000 from fun k => by have := nbOf_len x (L.take k); rw [List.length_take] at this; omega)
  have HTA := Lib.hid (show L.take L.length = L from List.take_length)
  generalize hn : L.length = n at *
  have HN := Lib.hid hn
  clear hn
  go_enter Tryz.func42, Tryz.ntmps42
  go_wp2
  go_loopw [5, 11] (fun out i wr => ∃ (k : Nat), k ≤ n ∧ i = .int .i64 k ∧ Below w.heap.size w wr ∧ wr.ownsRow w.heap.size 3 1 out (nbOf (L.take k) x).length ((nbOf (L.take k) x).map (.int .i64))) (fun _ i _ => n - (intOf i).toNat)
  case atStart =>
    refine ⟨0, Nat.zero_le _, rfl, (by repeat (first | exact Below.refl _ _ | refine Below.drew ?_ | refine Below.alloc ?_ (by first | exact Nat.le_refl _ | (simp; done) | (simp; omega) | omega) _ | refine Below.more ?_ (by first | exact Nat.le_refl _ | (simp; done) | (simp; omega) | omega) _ _ | refine Below.setCell ?_ (by first | exact Nat.le_refl _ | (simp; done) | (simp; omega) | omega) _ | assumption)), ?_⟩
    have hz := World.ownsRow_made (e := 3) (size := 1) (base := w.heap.size) w #[] 0 (by simp) (by decide) (by simp)
    simpa [nbOf] using hz
  case round =>
    obtain ⟨k, hk, rfl, hbel, hown⟩ := hrel
    have HBEL := Lib.hid hbel
    have HOWN := Lib.hid hown
    have hbs := hbel.size
    clear hbel hown
    by_cases hlt : k < n
    · have hk1 : (k : Int) < (n : Int) := by omega
      obtain ⟨b, o, rfl, hb, hc⟩ := HX.out.below HBEL.out (by omega)
      have c0 : wr.cell? ⟨b, o + k * 2, none⟩ = some (.int .i64 (L.getD k (0, 0)).1) := hc k hlt 0 (by omega)
      have c1 : wr.cell? ⟨b, o + k * 2 + 1, none⟩ = some (.int .i64 (L.getD k (0, 0)).2) := hc k hlt 1 (by omega)
      clear hc
      have HST := Lib.hid (HTK.out k hlt)
      have hlen := HTL.out k
      generalize L.getD k (0, 0) = p at *
      obtain ⟨e1, e2⟩ := p
      dsimp only at c0 c1
      generalize nbOf (L.take k) x = M at *
      cases b1 : (e1 == x) <;> cases b2 : (e2 == x)
      · have HE := Lib.hid (show nbOf (L.take (k + 1)) x = M from by rw [HST.out]; simp at b1 b2; simp [endsE, b1, b2])
        go_wp2
        exact ⟨⟨k + 1, by omega, by go_num, Below.trans HBEL.out (by repeat (first | exact Below.refl _ _ | refine Below.drew ?_ | refine Below.alloc ?_ (by first | exact Nat.le_refl _ | (simp; done) | (simp; omega) | omega) _ | refine Below.more ?_ (by first | exact Nat.le_refl _ | (simp; done) | (simp; omega) | omega) _ _ | refine Below.setCell ?_ (by first | exact Nat.le_refl _ | (simp; done) | (simp; omega) | omega) _ | assumption)), by rw [HE.out]; exact own_kept HOWN.out (by repeat (first | exact Below.refl _ _ | refine Below.drew ?_ | refine Below.alloc ?_ (by first | exact Nat.le_refl _ | (simp; done) | (simp; omega) | omega) _ | refine Below.more ?_ (by first | exact Nat.le_refl _ | (simp; done) | (simp; omega) | omega) _ _ | refine Below.setCell ?_ (by first | exact Nat.le_refl _ | (simp; done) | (simp; omega) | omega) _ | assumption))⟩, by simp only [intOf]; omega⟩
      · have HE := Lib.hid (show nbOf (L.take (k + 1)) x = M ++ [e1] from by rw [HST.out]; simp at b1 b2; simp [endsE, b1, b2])
        go_wp2_with (at_builtin; go_loud (refine wpList_append_int _ rfl _ _ rfl w.heap.size _ _ _ rfl (own_kept HOWN.out (by repeat (first | exact Below.refl _ _ | refine Below.drew ?_ | refine Below.alloc ?_ (by first | exact Nat.le_refl _ | (simp; done) | (simp; omega) | omega) _ | refine Below.more ?_ (by first | exact Nat.le_refl _ | (simp; done) | (simp; omega) | omega) _ _ | refine Below.setCell ?_ (by first | exact Nat.le_refl _ | (simp; done) | (simp; omega) | omega) _ | assumption))) _ 1 rfl e1 ?r1 (by omega) ?r2 ?_))
        case r1 => simp [go_sem]
        case r2 => first | omega | (simp; omega)
        intro v' w' hp' hb'
        have HP' := Lib.hid hp'
        have HB' := Lib.hid (Below.trans (show Below w.heap.size wr _ from (by repeat (first | exact Below.refl _ _ | refine Below.drew ?_ | refine Below.alloc ?_ (by first | exact Nat.le_refl _ | (simp; done) | (simp; omega) | omega) _ | refine Below.more ?_ (by first | exact Nat.le_refl _ | (simp; done) | (simp; omega) | omega) _ _ | refine Below.setCell ?_ (by first | exact Nat.le_refl _ | (simp; done) | (simp; omega) | omega) _ | assumption))) hb')
        clear hp' hb'
        go_wp2
        refine ⟨⟨k + 1, by omega, by first | rfl | go_num, Below.trans HBEL.out HB'.out, ?_⟩, by simp only [intOf]; omega⟩
        rw [HE.out, List.length_append, List.length_singleton, List.map_append]
        exact HP'.out
      · have HE := Lib.hid (show nbOf (L.take (k + 1)) x = M ++ [e2] from by rw [HST.out]; simp at b1 b2; simp [endsE, b1, b2])
        go_wp2_with (at_builtin; go_loud (refine wpList_append_intg _ rfl _ _ rfl w.heap.size _ _ _ rfl (own_kept HOWN.out (by repeat (first | exact Below.refl _ _ | refine Below.drew ?_ | refine Below.alloc ?_ (by first | exact Nat.le_refl _ | (simp; done) | (simp; omega) | omega) _ | refine Below.more ?_ (by first | exact Nat.le_refl _ | (simp; done) | (simp; omega) | omega) _ _ | refine Below.setCell ?_ (by first | exact Nat.le_refl _ | (simp; done) | (simp; omega) | omega) _ | assumption))) _ 1 rfl e2 ?s1 (by omega) ?s2 ?_))
        case s1 => simp [go_sem]
        case s2 => first | omega | (simp; omega)
        intro v' w' hp' hg' hloc'
        have HP' := Lib.hid hp'
        have hne : u5.ownBlock ≠ some wr.heap.size := fun e => by
          obtain ⟨_, c2, fz2, hc2⟩ := own_row HOWN.out _ e
          exact absurd (Array.getElem?_eq_some_iff.1 hc2).1 (Nat.lt_irrefl _)
        have t0 : w'.cell? ⟨wr.heap.size, 0, none⟩ = some (.int .i64 e1) := (World.cell?_of_block (hg'.block _ (by simp; try omega) (fun e => hne e.symm))).trans (by simp [go_sem])
        have t1 : w'.cell? ⟨wr.heap.size, 1, none⟩ = some (.int .i64 e2) := (World.cell?_of_block (hg'.block _ (by simp; try omega) (fun e => hne e.symm))).trans (by simp [go_sem])
        have HB' := Lib.hid (Below.grown (Below.trans HBEL.out (show Below w.heap.size wr _ from (by repeat (first | exact Below.refl _ _ | refine Below.drew ?_ | refine Below.alloc ?_ (by first | exact Nat.le_refl _ | (simp; done) | (simp; omega) | omega) _ | refine Below.more ?_ (by first | exact Nat.le_refl _ | (simp; done) | (simp; omega) | omega) _ _ | refine Below.setCell ?_ (by first | exact Nat.le_refl _ | (simp; done) | (simp; omega) | omega) _ | assumption)))) hg' (by first | omega | (simp; omega)) (fun b hb => (own_row HOWN.out b hb).1))
        have hws := HB'.out.size
        have hwr : wr.heap.size < w'.heap.size := World.block_lt_of_cell? _ _ t0
        clear hp' hg' hloc' hne
        go_wp2
        refine ⟨⟨k + 1, by omega, by first | rfl | go_num, HB'.out, ?_⟩, by simp only [intOf]; omega⟩
        rw [HE.out, List.length_append, List.length_singleton, List.map_append]
        exact HP'.out
      · have HE := Lib.hid (show nbOf (L.take (k + 1)) x = (M ++ [e2]) ++ [e1] from by rw [HST.out]; simp at b1 b2; simp [endsE, b1, b2])
        go_wp2_with (at_builtin; go_loud (refine wpList_append_intg _ rfl _ _ rfl w.heap.size _ _ _ rfl (own_kept HOWN.out (by repeat (first | exact Below.refl _ _ | refine Below.drew ?_ | refine Below.alloc ?_ (by first | exact Nat.le_refl _ | (simp; done) | (simp; omega) | omega) _ | refine Below.more ?_ (by first | exact Nat.le_refl _ | (simp; done) | (simp; omega) | omega) _ _ | refine Below.setCell ?_ (by first | exact Nat.le_refl _ | (simp; done) | (simp; omega) | omega) _ | assumption))) _ 1 rfl e2 ?q1 (by omega) ?q2 ?_))
        case q1 => simp [go_sem]
        case q2 => first | omega | (simp; omega)
        intro v' w' hp' hg' hloc'
        have HP' := Lib.hid hp'
        have hne : u5.ownBlock ≠ some wr.heap.size := fun e => by
          obtain ⟨_, c2, fz2, hc2⟩ := own_row HOWN.out _ e
          exact absurd (Array.getElem?_eq_some_iff.1 hc2).1 (Nat.lt_irrefl _)
        have t0 : w'.cell? ⟨wr.heap.size, 0, none⟩ = some (.int .i64 e1) := (World.cell?_of_block (hg'.block _ (by simp; try omega) (fun e => hne e.symm))).trans (by simp [go_sem])
        have t1 : w'.cell? ⟨wr.heap.size, 1, none⟩ = some (.int .i64 e2) := (World.cell?_of_block (hg'.block _ (by simp; try omega) (fun e => hne e.symm))).trans (by simp [go_sem])
        have HB' := Lib.hid (Below.grown (Below.trans HBEL.out (show Below w.heap.size wr _ from (by repeat (first | exact Below.refl _ _ | refine Below.drew ?_ | refine Below.alloc ?_ (by first | exact Nat.le_refl _ | (simp; done) | (simp; omega) | omega) _ | refine Below.more ?_ (by first | exact Nat.le_refl _ | (simp; done) | (simp; omega) | omega) _ _ | refine Below.setCell ?_ (by first | exact Nat.le_refl _ | (simp; done) | (simp; omega) | omega) _ | assumption)))) hg' (by first | omega | (simp; omega)) (fun b hb => (own_row HOWN.out b hb).1))
        have hws := HB'.out.size
        have hwr : wr.heap.size < w'.heap.size := World.block_lt_of_cell? _ _ t0
        clear hp' hg' hloc' hne
        have HP2 := Lib.hid (show w'.ownsRow w.heap.size 3 1 v' (M ++ [e2]).length ((M ++ [e2]).map (.int .i64)) from by rw [List.length_append, List.length_singleton, List.map_append]; exact HP'.out)
        have hl2 : (M ++ [e2]).length ≤ 1048576 := by rw [List.length_append, List.length_singleton]; omega
        clear HP'
        generalize M ++ [e2] = M2 at *
        go_wp2_with (at_builtin; go_loud (refine wpList_append_int _ rfl _ _ rfl w.heap.size _ _ _ rfl (own_kept HP2.out (by repeat (first | exact Below.refl _ _ | refine Below.drew ?_ | refine Below.alloc ?_ (by first | exact Nat.le_refl _ | (simp; done) | (simp; omega) | omega) _ | refine Below.more ?_ (by first | exact Nat.le_refl _ | (simp; done) | (simp; omega) | omega) _ _ | refine Below.setCell ?_ (by first | exact Nat.le_refl _ | (simp; done) | (simp; omega) | omega) _ | assumption))) _ 1 rfl e1 ?z1 hl2 ?z2 ?_))
        case z1 => simp [go_sem]
        case z2 => first | omega | (simp; omega)
        intro v2 w2 hp2 hb2
        have HP2' := Lib.hid hp2
        have HB2' := Lib.hid (Below.trans HB'.out (Below.trans (show Below w.heap.size w' _ from (by repeat (first | exact Below.refl _ _ | refine Below.drew ?_ | refine Below.alloc ?_ (by first | exact Nat.le_refl _ | (simp; done) | (simp; omega) | omega) _ | refine Below.more ?_ (by first | exact Nat.le_refl _ | (simp; done) | (simp; omega) | omega) _ _ | refine Below.setCell ?_ (by first | exact Nat.le_refl _ | (simp; done) | (simp; omega) | omega) _ | assumption))) hb2))
        clear hp2 hb2
        go_wp2
        refine ⟨⟨k + 1, by omega, by first | rfl | go_num, HB2'.out, ?_⟩, by simp only [intOf]; omega⟩
        rw [HE.out, List.length_append, List.length_singleton, List.map_append]
        exact HP2'.out
    · have hk1 : ¬ (k : Int) < (n : Int) := by omega
      have hkn : k = n := by omega
      have HOW := Lib.hid (show wr.ownsRow w.heap.size 3 1 u5 (nbOf L x).length ((nbOf L x).map (.int .i64)) from by have h := HOWN.out; rw [hkn, HTA.out] at h; exact h)
      have hlen : (nbOf L x).length ≤ 1048576 := by have := HTL.out n; rw [HTA.out] at this; omega
      have HLS := Lib.hid (len_sortI (nbOf L x))
      clear hkn HOWN
      generalize nbOf L x = M at *
      go_wp2_with (go_at_call 58; refine (sortInts_c w.heap.size _ M _ HOW.out hlen).mono ?_; rintro e w1 ⟨rfl, ho1, hg1⟩; have HO1 := Lib.hid ho1; have HG1 := Lib.hid hg1; clear ho1 hg1)
      go_ret
      refine gives_ints (ts := sortI M) ?_ (Below.grown HBEL.out HG1.out HBEL.out.size (fun g e => (own_row HOW.out g e).1)) (Nat.le_refl _)
      rw [HLS.out]
      exact HO1.out
set_option maxRecDepth 100000 in
set_option maxHeartbeats 4000000 in
theorem spec_Neighbors_c (v : Value) (p : MeshD) (x : Int) (w : World) (hr : MeshR w v p) (hs : MeshSz 1048576 p) :
    Calls Tryz.prog 20 #[v, .int .i64 x] w (Gives w 1 (nbD p x).length (intAt (nbD p x))) := by
  have HME := Lib.hid (fun W (h : Below w.heap.size w W) => spec_Edges_c _ p W (hr.below h) hs)
  obtain ⟨a, c, a', c', rfl, _, _⟩ := hr
  clear hs
  have HEQ := Lib.hid (show (nbPut (edgesD p) x).map (·.1) = nbD p x from nb_eq (ups_edgesD p).2 (ups_edgesD p).1)
  have hl256 := edgesD_le p
  obtain ⟨R, hR⟩ : ∃ R, R = nbD p x := ⟨_, rfl⟩
  rw [← hR] at HEQ ⊢
  clear hR
  generalize edgesD p = L at *
  have HTK := Lib.hid (show ∀ k, k < L.length → nbPut (L.take (k + 1)) x = putEnds x (nbPut (L.take k) x) (L.getD k (0, 0)) from fun k hk => by
    rw [List.take_add_one, List.getElem?_eq_getElem hk, List.getD_eq_getElem?_getD, List.getElem?_eq_getElem hk]; exact nbPut_snoc _ _ _)
  have HTL := Lib.hid (show ∀ k, (nbPut (L.take k) x).length ≤ 600 from fun k => by have := nbPut_len x (L.take k); rw [List.length_take] at this; omega)
  have HTA := Lib.hid (show L.take L.length = L from List.take_length)
  generalize hn : L.length = n at *
  have HN := Lib.hid hn
  clear hn
  generalize p.nV = nv at *
  generalize p.nF = nf at *
  go_enter Tryz.func20, Tryz.ntmps20
  go_wp2_with (go_at_call 34; refine (HME.out _ (by repeat (first | exact Below.refl _ _ | refine Below.drew ?_ | refine Below.alloc ?_ (by first | exact Nat.le_refl _ | (simp; done) | (simp; omega) | omega) _ | refine Below.more ?_ (by first | exact Nat.le_refl _ | (simp; done) | (simp; omega) | omega) _ _ | refine Below.setCell ?_ (by first | exact Nat.le_refl _ | (simp; done) | (simp; omega) | omega) _ | assumption))).mono ?_; rintro e wn ⟨vE, AE, rfl, ho, hbn⟩; have HO := Lib.hid ho; have HBN := Lib.hid hbn; obtain ⟨ea, ec, he⟩ := ho.form; rw [HN.out] at he; subst he; clear ho hbn)
  have hs1 := HBN.out.size
  simp at hs1
  have HB0 := Lib.hid (Below.trans (show Below w.heap.size w _ from (by repeat (first | exact Below.refl _ _ | refine Below.drew ?_ | refine Below.alloc ?_ (by first | exact Nat.le_refl _ | (simp; done) | (simp; omega) | omega) _ | refine Below.more ?_ (by first | exact Nat.le_refl _ | (simp; done) | (simp; omega) | omega) _ _ | refine Below.setCell ?_ (by first | exact Nat.le_refl _ | (simp; done) | (simp; omega) | omega) _ | assumption))) (HBN.out.mono (by simp; try omega)))
  have HP0 : Hid (PairsIn wn w.heap.size wn.heap.size (.slice (some ⟨w.heap.size + 1, 0, none⟩) 0 0) [] (fun _ => none)) := Lib.hid (by
    have h := PairsIn.nil (w := (w.alloc (.cells #[.slice a nv c, .slice a' nf c'] 32)).alloc (.cells #[] 41)) (lo := w.heap.size) (hi := w.heap.size + 2) (g := w.heap.size + 1) (by omega) (by omega) (heap_at_new (by simp))
    exact (h.below HBN.out).mono (by omega))
  obtain ⟨lo, hlo⟩ : ∃ lo, lo = w.heap.size + 2 := ⟨_, rfl⟩
  obtain ⟨hi, hhi⟩ : ∃ hi, hi = wn.heap.size := ⟨_, rfl⟩
  have HE0 := Lib.hid (show PairsIn wn lo hi (.slice ea n ec) L AE from by rw [hlo, hhi]; simpa using HO.out)
  have HNN0 := Lib.hid (show (Value.slice (some ⟨w.heap.size + 1, 0, none⟩) 0 0) ≠ .slice none 0 0 from by simp)
  clear hlo hhi HO HBN hs1
  go_loopw [5, 15] (fun out i wr => ∃ (k : Nat) (A : Nat → Option Addr), k ≤ n ∧ i = .int .i64 k ∧ Below w.heap.size w wr ∧ PairsIn wr w.heap.size wr.heap.size out (nbPut (L.take k) x) A ∧ PairsIn wr lo hi (.slice ea n ec) L AE ∧ Hid (out ≠ .slice none 0 0)) (fun _ i _ => n - (intOf i).toNat)
  case atStart => exact ⟨0, fun _ => none, by omega, rfl, HB0.out, HP0.out, HE0.out, HNN0⟩
  case round =>
    clear HB0 HP0 HE0 HNN0
    obtain ⟨k, A, hk, rfl, hbel, hpr, hpe, HNN⟩ := hrel
    have HBEL := Lib.hid hbel
    have HPR := Lib.hid hpr
    have HPE := Lib.hid hpe
    have hbs := hbel.size
    clear hbel hpr hpe
    by_cases hlt : k < n
    · have hk1 : (k : Int) < (n : Int) := by omega
      obtain ⟨g, cap2, u, hv, hu, hg, hus, d0, d1, d2⟩ := HPE.out.read (i := k) (by rw [HN.out]; exact hlt)
      rw [HN.out] at hv
      simp only [Value.slice.injEq] at hv
      obtain ⟨rfl, _, rfl⟩ := hv
      have HTK1 := Lib.hid (HTK.out k hlt)
      have hl6 := HTL.out k
      have hl2 : (nbPut (L.take k) x).length ≤ 100000 := by omega
      clear hu
      generalize L.getD k (0, 0) = pr at *
      obtain ⟨e1, e2⟩ := pr
      dsimp only at d1 d2
      generalize nbPut (L.take k) x = M at *
      cases b1 : (e1 == x) <;> cases b2 : (e2 == x)
      · have HE := Lib.hid (show nbPut (L.take (k + 1)) x = M from by rw [HTK1.out]; simp at b1 b2; simp [putEnds, b1, b2])
        go_wp2
        exact ⟨⟨k + 1, A, by omega, by go_num, HBEL.out, by rw [HE.out]; exact HPR.out, HPE.out, HNN⟩, by simp only [intOf]; omega⟩
      · have HE := Lib.hid (show nbPut (L.take (k + 1)) x = putE M (e1, 0) from by rw [HTK1.out]; simp at b1 b2; simp [putEnds, b1, b2])
        go_wp2_with (go_at_call 35; refine (l06Put_c w.heap.size _ M A e1 0 _ HPR.out HNN.out hl2 hbs).mono ?_; rintro e wq ⟨v', A', rfl, hp', hn', hb'⟩; have HP' := Lib.hid hp'; have HN' := Lib.hid hn'; have HB' := Lib.hid hb'; clear hp' hn' hb')
        exact ⟨⟨k + 1, A', by omega, by go_num, HBEL.out.trans (HB'.out.mono hbs), by rw [HE.out]; exact HP'.out, HPE.out.below HB'.out, HN'⟩, by simp only [intOf]; omega⟩
      · have HE := Lib.hid (show nbPut (L.take (k + 1)) x = putE M (e2, 0) from by rw [HTK1.out]; simp at b1 b2; simp [putEnds, b1, b2])
        go_wp2_with (go_at_call 35; refine (l06Put_c w.heap.size _ M A e2 0 _ HPR.out HNN.out hl2 hbs).mono ?_; rintro e wq ⟨v', A', rfl, hp', hn', hb'⟩; have z1 := cell_below hb' d1; have z2 := cell_below hb' d2; have HP' := Lib.hid hp'; have HN' := Lib.hid hn'; have HB' := Lib.hid hb'; clear hp' hn' hb')
        exact ⟨⟨k + 1, A', by omega, by go_num, HBEL.out.trans (HB'.out.mono hbs), by rw [HE.out]; exact HP'.out, HPE.out.below HB'.out, HN'⟩, by simp only [intOf]; omega⟩
      · have HE := Lib.hid (show nbPut (L.take (k + 1)) x = putE (putE M (e2, 0)) (e1, 0) from by rw [HTK1.out]; simp at b1 b2; simp [putEnds, b1, b2])
        have hl3 : (putE M (e2, 0)).length ≤ 100000 := by have := putE_len M (e2, 0); omega
        have tok1 : True := trivial
        go_wp2_with (first | (go_at_call 35; have _t := tok1; refine (l06Put_c w.heap.size _ M A e2 0 _ HPR.out HNN.out hl2 hbs).mono ?_; clear tok1; rintro e wq ⟨v', A', rfl, hp', hn', hb'⟩; have z1 := cell_below hb' d1; have z2 := cell_below hb' d2; have hbq := Nat.le_trans hbs hb'.size; have HP' := Lib.hid hp'; have HN' := Lib.hid hn'; have HB' := Lib.hid hb'; clear hp' hn' hb') | (go_at_call 35; refine (l06Put_c w.heap.size _ (putE M (e2, 0)) A' e1 0 _ HP'.out HN'.out hl3 hbq).mono ?_; rintro e wq2 ⟨v2, A2, rfl, hp2, hn2, hb2⟩; have HP2 := Lib.hid hp2; have HN2 := Lib.hid hn2; have HB2 := Lib.hid (HB'.out.trans (hb2.mono HB'.out.size)); clear hp2 hn2 hb2))
        exact ⟨⟨k + 1, A2, by omega, by go_num, HBEL.out.trans (HB2.out.mono hbs), by rw [HE.out]; exact HP2.out, HPE.out.below HB2.out, HN2⟩, by simp only [intOf]; omega⟩
    · have hk1 : ¬ (k : Int) < (n : Int) := by omega
      have hkn : k = n := by omega
      have HPR2 := Lib.hid (show PairsIn wr w.heap.size wr.heap.size u5 (nbPut L x) A from by have h := HPR.out; rw [hkn, HTA.out] at h; exact h)
      have hl2 : (nbPut L x).length ≤ 600 := by have := HTL.out n; rw [HTA.out] at this; exact this
      clear HPR hkn HPE HNN HTK HTL HTA
      generalize nbPut L x = M at *
      obtain ⟨ma, mc, hm⟩ := HPR2.out.form
      subst hm
      have HMK := Lib.hid (show ∀ j, j < M.length → (M.take (j + 1)).map (·.1) = (M.take j).map (·.1) ++ [(M.getD j (0, 0)).1] from fun j hj => by
        rw [List.take_add_one, List.getElem?_eq_getElem hj, List.getD_eq_getElem?_getD, List.getElem?_eq_getElem hj, List.map_append]; rfl)
      have HML := Lib.hid (show ∀ j, ((M.take j).map (·.1)).length ≤ 600 from fun j => by rw [List.length_map, List.length_take]; omega)
      have HMA := Lib.hid (show (M.take M.length).map (·.1) = R from by rw [List.take_length]; exact HEQ.out)
      generalize hm : M.length = m at *
      have HMN := Lib.hid hm
      clear hm
      obtain ⟨lo2, hlo2⟩ : ∃ lo2, lo2 = wr.heap.size := ⟨_, rfl⟩
      have hlb : w.heap.size ≤ lo2 := by omega
      have HPM := Lib.hid (show PairsIn wr w.heap.size lo2 (.slice ma m mc) M A from by rw [hlo2]; exact HPR2.out)
      clear HPR2
      have HOW0 : Hid ((wr.alloc (.cells #[] 3)).ownsRow lo2 3 1 (.slice (some ⟨wr.heap.size, 0, none⟩) 0 0) 0 []) := Lib.hid (by
        have hz := World.ownsRow_made (e := 3) (size := 1) (base := lo2) wr #[] 0 (by omega) (by decide) (by simp)
        simpa using hz)
      have HB1 := Lib.hid (HBEL.out.trans (show Below w.heap.size wr (wr.alloc (.cells #[] 3)) from (by repeat (first | exact Below.refl _ _ | refine Below.drew ?_ | refine Below.alloc ?_ (by first | exact Nat.le_refl _ | (simp; done) | (simp; omega) | omega) _ | refine Below.more ?_ (by first | exact Nat.le_refl _ | (simp; done) | (simp; omega) | omega) _ _ | refine Below.setCell ?_ (by first | exact Nat.le_refl _ | (simp; done) | (simp; omega) | omega) _ | assumption))))
      have HP1 := Lib.hid (HPM.out.below (show Below wr.heap.size wr (wr.alloc (.cells #[] 3)) from (by repeat (first | exact Below.refl _ _ | refine Below.drew ?_ | refine Below.alloc ?_ (by first | exact Nat.le_refl _ | (simp; done) | (simp; omega) | omega) _ | refine Below.more ?_ (by first | exact Nat.le_refl _ | (simp; done) | (simp; omega) | omega) _ _ | refine Below.setCell ?_ (by first | exact Nat.le_refl _ | (simp; done) | (simp; omega) | omega) _ | assumption))))
      have hw1 : lo2 ≤ (wr.alloc (.cells #[] 3)).heap.size := by simp; omega
      clear HPM HBEL hlo2
      go_wp2
      generalize wr.alloc (.cells #[] 3) = W1 at *
      go_loopw [8, 43] (fun out i wr => ∃ (j : Nat), j ≤ m ∧ i = .int .i64 j ∧ Below w.heap.size w wr ∧ PairsIn wr w.heap.size lo2 (.slice ma m mc) M A ∧ lo2 ≤ wr.heap.size ∧ wr.ownsRow lo2 3 1 out ((M.take j).map (·.1)).length (((M.take j).map (·.1)).map (.int .i64))) (fun _ i _ => m - (intOf i).toNat)
      case atStart => exact ⟨0, by omega, rfl, HB1.out, HP1.out, hw1, by simpa using HOW0.out⟩
      case round =>
        clear HB1 HP1 hw1 HOW0
        obtain ⟨j, hj, rfl, hbel, hpm, hwq, hown⟩ := hrel
        have HBEL := Lib.hid hbel
        have HPM := Lib.hid hpm
        have HOWN := Lib.hid hown
        clear hbel hpm hown
        by_cases hjl : j < m
        · have hj1 : (j : Int) < (m : Int) := by omega
          obtain ⟨g, cap2, u, hv, hu, hg, hus, d0, d1, d2⟩ := HPM.out.read (i := j) (by rw [HMN.out]; exact hjl)
          rw [HMN.out] at hv
          simp only [Value.slice.injEq] at hv
          obtain ⟨rfl, _, rfl⟩ := hv
          have HMK1 := Lib.hid (HMK.out j hjl)
          have hl3 := HML.out j
          clear hu
          generalize (M.getD j (0, 0)).1 = e1 at *
          generalize (M.getD j (0, 0)).2 = e2 at *
          generalize (M.take j).map (·.1) = T at *
          go_wp2_with (at_builtin; go_loud (refine wpList_append_intg _ rfl _ _ rfl lo2 _ _ _ rfl (own_kept HOWN.out (by repeat (first | exact Below.refl _ _ | refine Below.drew ?_ | refine Below.alloc ?_ (by first | exact Nat.le_refl _ | (simp; done) | (simp; omega) | omega) _ | refine Below.more ?_ (by first | exact Nat.le_refl _ | (simp; done) | (simp; omega) | omega) _ _ | refine Below.setCell ?_ (by first | exact Nat.le_refl _ | (simp; done) | (simp; omega) | omega) _ | assumption))) _ 1 rfl e1 ?y1 (by omega) ?y2 ?_))
          case y1 => simp [go_sem]
          case y2 => first | omega | (simp; omega)
          intro v' w' hp' hg' hloc'
          have HP' := Lib.hid hp'
          have HB' := Lib.hid (Below.grown (HBEL.out.trans (show Below w.heap.size wr _ from (by repeat (first | exact Below.refl _ _ | refine Below.drew ?_ | refine Below.alloc ?_ (by first | exact Nat.le_refl _ | (simp; done) | (simp; omega) | omega) _ | refine Below.more ?_ (by first | exact Nat.le_refl _ | (simp; done) | (simp; omega) | omega) _ _ | refine Below.setCell ?_ (by first | exact Nat.le_refl _ | (simp; done) | (simp; omega) | omega) _ | assumption)))) hg' (by first | omega | (simp; omega)) (fun b hb => by have := (own_row HOWN.out b hb).1; omega))
          have HPM' := Lib.hid ((HPM.out.below (show Below wr.heap.size wr _ from (by repeat (first | exact Below.refl _ _ | refine Below.drew ?_ | refine Below.alloc ?_ (by first | exact Nat.le_refl _ | (simp; done) | (simp; omega) | omega) _ | refine Below.more ?_ (by first | exact Nat.le_refl _ | (simp; done) | (simp; omega) | omega) _ _ | refine Below.setCell ?_ (by first | exact Nat.le_refl _ | (simp; done) | (simp; omega) | omega) _ | assumption)))).grown hg' (fun b hb => .inr (own_row HOWN.out b hb).1))
          have hs' : lo2 ≤ w'.heap.size := Nat.le_trans (by first | omega | (simp; omega)) hg'.size
          clear hp' hg' hloc'
          go_wp2
          refine ⟨⟨j + 1, by omega, by first | rfl | go_num, HB'.out, HPM'.out, hs', ?_⟩, by simp only [intOf]; omega⟩
          rw [HMK1.out, List.length_append, List.length_singleton, List.map_append]
          exact HP'.out
        · have hj1 : ¬ (j : Int) < (m : Int) := by omega
          have hjm : j = m := by omega
          have HOW := Lib.hid (show wr.ownsRow lo2 3 1 u8 R.length (R.map (.int .i64)) from by have h := HOWN.out; rw [hjm, HMA.out] at h; exact h)
          clear hjm HOWN
          go_wp2
          go_ret
          exact gives_ints HOW.out HBEL.out hlb
end Go.Proofs.YtbmhehjllchpoaaGreat
