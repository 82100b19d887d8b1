/- The library's sort over whole numbers, by the kit's contracts: the table of numbers, and that each body is the one that the contract speaks of. -/
import Derived.Shelf.Sort.Plain
import Derived.Shelf.Slices.In.SortNone
import Derived.KernelRfl
import Derived.Test.YtinoebjhcmeppaaProg
namespace Go.Proofs.Ytinoebjhcmeppaa
open Go.Shelf
set_option maxRecDepth 100000
def sortRen : Ren where
  f := fun x => match x with
    | 189 => 55
    | 125 => 64
    | 257 => 63
    | 128 => 78
    | 129 => 79
    | 294 => 69
    | 295 => 70
    | 296 => 71
    | 297 => 72
    | 298 => 73
    | 299 => 74
    | 216 => 75
    | 300 => 76
    | 301 => 77
    | 328 => 82
    | 329 => 83
    | 330 => 84
    | 331 => 85
    | 332 => 86
    | 215 => 87
    | 343 => 88
    | n => n
  t := fun x => match x with
    | 28 => 23
    | 3 => 3
    | 46 => 36
    | 0 => 0
    | 51 => 103
    | 53 => 73
    | 4 => 4
    | 183 => 118
    | 182 => 117
    | 131 => 123
    | 5 => 5
    | 9 => 9
    | 218 => 129
    | 222 => 133
    | 228 => 135
    | 229 => 136
    | n => n
  g := fun n => n
theorem sortLays : Lays.n189 Try.prog sortRen where
  mixed := by kernel_rfl
  f125 := Eq.trans Try.func64 (congrArg some (by kernel_rfl))
  f128 := Eq.trans Try.func78 (congrArg some (by kernel_rfl))
  f129 := Eq.trans Try.func79 (congrArg some (by kernel_rfl))
  f189 := Eq.trans Try.func55 (congrArg some (by kernel_rfl))
  f215 := Eq.trans Try.func87 (congrArg some (by kernel_rfl))
  f216 := Eq.trans Try.func75 (congrArg some (by kernel_rfl))
  f257 := Eq.trans Try.func63 (congrArg some (by kernel_rfl))
  f294 := Eq.trans Try.func69 (congrArg some (by kernel_rfl))
  f295 := Eq.trans Try.func70 (congrArg some (by kernel_rfl))
  f296 := Eq.trans Try.func71 (congrArg some (by kernel_rfl))
  f297 := Eq.trans Try.func72 (congrArg some (by kernel_rfl))
  f298 := Eq.trans Try.func73 (congrArg some (by kernel_rfl))
  f299 := Eq.trans Try.func74 (congrArg some (by kernel_rfl))
  f300 := Eq.trans Try.func76 (congrArg some (by kernel_rfl))
  f301 := Eq.trans Try.func77 (congrArg some (by kernel_rfl))
  f328 := Eq.trans Try.func82 (congrArg some (by kernel_rfl))
  f329 := Eq.trans Try.func83 (congrArg some (by kernel_rfl))
  f330 := Eq.trans Try.func84 (congrArg some (by kernel_rfl))
  f331 := Eq.trans Try.func85 (congrArg some (by kernel_rfl))
  f332 := Eq.trans Try.func86 (congrArg some (by kernel_rfl))
  f343 := Eq.trans Try.func88 (congrArg some (by kernel_rfl))
  t0 := Try.underlying0
  a0 := Try.isAgg0
  z0 := Try.sizeOf0
  v0 := Try.zeroValue0
  t3 := Try.underlying3
  a3 := Try.isAgg3
  z3 := Try.sizeOf3
  v3 := Try.zeroValue3
  t4 := Try.underlying4
  a4 := Try.isAgg4
  z4 := Try.sizeOf4
  v4 := Try.zeroValue4
  t5 := Try.underlying5
  a5 := Try.isAgg5
  z5 := Try.sizeOf5
  v5 := Try.zeroValue5
  t9 := Try.underlying9
  a9 := Try.isAgg9
  z9 := Try.sizeOf9
  v9 := Try.zeroValue9
  t28 := Try.underlying23
  a28 := Try.isAgg23
  z28 := Try.sizeOf23
  v28 := Try.zeroValue23
  t46 := Try.underlying36
  a46 := Try.isAgg36
  z46 := Try.sizeOf36
  v46 := Try.zeroValue36
  t51 := Try.underlying103
  a51 := Try.isAgg103
  z51 := Try.sizeOf103
  v51 := Try.zeroValue103
  t53 := Try.underlying73
  a53 := Try.isAgg73
  z53 := Try.sizeOf73
  v53 := Try.zeroValue73
  t131 := Try.underlying123
  a131 := Try.isAgg123
  z131 := Try.sizeOf123
  v131 := Try.zeroValue123
  t182 := Try.underlying117
  a182 := Try.isAgg117
  z182 := Try.sizeOf117
  v182 := Try.zeroValue117
  t183 := Try.underlying118
  a183 := Try.isAgg118
  z183 := Try.sizeOf118
  v183 := Try.zeroValue118
  t218 := Try.underlying129
  a218 := Try.isAgg129
  z218 := Try.sizeOf129
  v218 := Try.zeroValue129
  t222 := Try.underlying133
  a222 := Try.isAgg133
  z222 := Try.sizeOf133
  v222 := Try.zeroValue133
  t228 := Try.underlying135
  a228 := Try.isAgg135
  z228 := Try.sizeOf135
  v228 := Try.zeroValue135
  t229 := Try.underlying136
  a229 := Try.isAgg136
  z229 := Try.sizeOf136
  v229 := Try.zeroValue136
open Go.Sort Go.RowKit
theorem f55_sort (blk off cap : Nat) (zs : List Int) (w : World) (hH : Holds (Value.int .i64) w blk off zs.toArray) (hblk : blk < w.heap.size) (hsz : zs.length < 4611686018427387904) :
    Calls Try.prog 55 #[.slice (some ⟨blk, off, none⟩) zs.length cap] w fun e w' =>
      e = .returned (.tuple #[]) ∧ ∃ n os, w' = grow (putRow (Value.int .i64) (Sort.ahead w n) blk off (zs.mergeSort fun x y => decide (x ≤ y)).toArray) os := Any.slices_Sort_int sortLays blk off cap zs w hH hblk hsz
theorem f55_sort_none (p : Option Addr) (cap : Nat) (w : World) :
    Calls Try.prog 55 #[.slice p 0 cap] w fun e w' => e = .returned (.tuple #[]) ∧ w' = w := Any.slices_Sort_int_none sortLays p cap w
end Go.Proofs.Ytinoebjhcmeppaa
