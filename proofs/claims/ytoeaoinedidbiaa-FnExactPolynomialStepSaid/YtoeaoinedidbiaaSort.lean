/- The contract of slices.Sort at []int (the kit's shelf, laid at this program by the kit's own tools, in plain words): for every slice the cells are then in order. -/
import Derived.Shelf.Sort.Plain
import Derived.Shelf.Slices.In.SortNone
import Derived.Test.YtoeaoinedidbiaaProg
namespace Go.Proofs.Ytoeaoinedidbiaa
open Go.Shelf
def Srt.lays189_ren : Go.Shelf.Ren := ⟨fun | 189 => 175 | 125 => 222 | 257 => 221 | 128 => 250 | 129 => 251 | 294 => 241 | 295 => 242 | 296 => 243 | 297 => 244 | 298 => 245 | 299 => 246 | 216 => 247 | 300 => 248 | 301 => 249 | 328 => 260 | 329 => 261 | 330 => 262 | 331 => 263 | 332 => 264 | 215 => 238 | 343 => 266 | n => n, fun | 28 => 23 | 3 => 3 | 46 => 147 | 0 => 0 | 51 => 172 | 53 => 175 | 4 => 4 | 183 => 204 | 182 => 203 | 131 => 56 | 5 => 5 | 9 => 9 | 218 => 213 | 222 => 217 | 228 => 219 | 229 => 105 | n => n, fun | n => n⟩
theorem Srt.lays189 : Go.Proofs.Lays.n189 Try.prog Srt.lays189_ren := {
  mixed := by kernel_rfl
  f125 := Try.func222.trans (congrArg some (by kernel_rfl))
  f128 := Try.func250.trans (congrArg some (by kernel_rfl))
  f129 := Try.func251.trans (congrArg some (by kernel_rfl))
  f189 := Try.func175.trans (congrArg some (by kernel_rfl))
  f215 := Try.func238.trans (congrArg some (by kernel_rfl))
  f216 := Try.func247.trans (congrArg some (by kernel_rfl))
  f257 := Try.func221.trans (congrArg some (by kernel_rfl))
  f294 := Try.func241.trans (congrArg some (by kernel_rfl))
  f295 := Try.func242.trans (congrArg some (by kernel_rfl))
  f296 := Try.func243.trans (congrArg some (by kernel_rfl))
  f297 := Try.func244.trans (congrArg some (by kernel_rfl))
  f298 := Try.func245.trans (congrArg some (by kernel_rfl))
  f299 := Try.func246.trans (congrArg some (by kernel_rfl))
  f300 := Try.func248.trans (congrArg some (by kernel_rfl))
  f301 := Try.func249.trans (congrArg some (by kernel_rfl))
  f328 := Try.func260.trans (congrArg some (by kernel_rfl))
  f329 := Try.func261.trans (congrArg some (by kernel_rfl))
  f330 := Try.func262.trans (congrArg some (by kernel_rfl))
  f331 := Try.func263.trans (congrArg some (by kernel_rfl))
  f332 := Try.func264.trans (congrArg some (by kernel_rfl))
  f343 := Try.func266.trans (congrArg some (by kernel_rfl))
  t0 := Try.underlying0
  a0 := Try.isAgg0
  z0 := Try.sizeOf0
  v0 := Try.zeroValue0
  t3 := Try.underlying3
  a3 := Try.isAgg3
  z3 := Try.sizeOf3
  v3 := Try.zeroValue3
  t4 := Try.underlying4
  a4 := Try.isAgg4
  z4 := Try.sizeOf4
  v4 := Try.zeroValue4
  t5 := Try.underlying5
  a5 := Try.isAgg5
  z5 := Try.sizeOf5
  v5 := Try.zeroValue5
  t9 := Try.underlying9
  a9 := Try.isAgg9
  z9 := Try.sizeOf9
  v9 := Try.zeroValue9
  t28 := Try.underlying23
  a28 := Try.isAgg23
  z28 := Try.sizeOf23
  v28 := Try.zeroValue23
  t46 := Try.underlying147
  a46 := Try.isAgg147
  z46 := Try.sizeOf147
  v46 := Try.zeroValue147
  t51 := Try.underlying172
  a51 := Try.isAgg172
  z51 := Try.sizeOf172
  v51 := Try.zeroValue172
  t53 := Try.underlying175
  a53 := Try.isAgg175
  z53 := Try.sizeOf175
  v53 := Try.zeroValue175
  t131 := Try.underlying56
  a131 := Try.isAgg56
  z131 := Try.sizeOf56
  v131 := Try.zeroValue56
  t182 := Try.underlying203
  a182 := Try.isAgg203
  z182 := Try.sizeOf203
  v182 := Try.zeroValue203
  t183 := Try.underlying204
  a183 := Try.isAgg204
  z183 := Try.sizeOf204
  v183 := Try.zeroValue204
  t218 := Try.underlying213
  a218 := Try.isAgg213
  z218 := Try.sizeOf213
  v218 := Try.zeroValue213
  t222 := Try.underlying217
  a222 := Try.isAgg217
  z222 := Try.sizeOf217
  v222 := Try.zeroValue217
  t228 := Try.underlying219
  a228 := Try.isAgg219
  z228 := Try.sizeOf219
  v228 := Try.zeroValue219
  t229 := Try.underlying105
  a229 := Try.isAgg105
  z229 := Try.sizeOf105
  v229 := Try.zeroValue105 }
open Go.Sort Go.RowKit in
theorem Srt.slices_Sort_int (blk off cap : Nat) (zs : List Int) (w : World) (hH : Holds (Value.int .i64) w blk off zs.toArray) (hblk : blk < w.heap.size) (hsz : zs.length < 4611686018427387904) :
    Calls Try.prog 175 #[.slice (some ⟨blk, off, none⟩) zs.length cap] w fun e w' =>
      e = .returned (.tuple #[]) ∧ ∃ n os, w' = grow (putRow (Value.int .i64) (Sort.ahead w n) blk off (zs.mergeSort fun x y => decide (x ≤ y)).toArray) os := Any.slices_Sort_int Srt.lays189 blk off cap zs w hH hblk hsz
open Go.RowKit Go.Sort in
/-- .. and plain. (LAID: no walk: one application.) -/
theorem Srt.slices_Sort_int_none (p : Option Addr) (cap : Nat) (w : World) :
    Calls Try.prog 175 #[.slice p 0 cap] w fun e w' => e = .returned (.tuple #[]) ∧ w' = w := Any.slices_Sort_int_none Srt.lays189 p cap w
end Go.Proofs.Ytoeaoinedidbiaa
