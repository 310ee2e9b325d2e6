/- The contract of slices.Sort at []int (the kit's shelf, laid at this program by the kit's own tools, in plain words): for every slice the cells are then in order. -/
import Derived.Shelf.Sort.Plain
import Derived.Ground.Names2Prog
import Derived.Shelf.Slices.In.SortNone
import Derived.Ground.SlgnProg
import Derived.Test.YtncnlckblciegaaProg
namespace Go.Proofs.Ytncnlckblciegaa
open Go.Shelf
def Srt.lays189_ren : Go.Shelf.Ren := ⟨fun | 189 => 109 | 125 => 164 | 257 => 163 | 128 => 203 | 129 => 204 | 294 => 194 | 295 => 195 | 296 => 196 | 297 => 197 | 298 => 198 | 299 => 199 | 216 => 200 | 300 => 201 | 301 => 202 | 328 => 214 | 329 => 215 | 330 => 216 | 331 => 217 | 332 => 218 | 215 => 210 | 343 => 227 | n => n, fun | 28 => 22 | 3 => 3 | 46 => 128 | 0 => 0 | 51 => 153 | 53 => 156 | 4 => 4 | 183 => 171 | 182 => 170 | 131 => 23 | 5 => 5 | 9 => 9 | 218 => 187 | 222 => 191 | 228 => 196 | 229 => 91 | n => n, fun | n => n⟩
theorem Srt.lays189 : Go.Proofs.Lays.n189 Try.prog Srt.lays189_ren := {
  mixed := by kernel_rfl
  f125 := Try.func164.trans (congrArg some (by kernel_rfl))
  f128 := Try.func203.trans (congrArg some (by kernel_rfl))
  f129 := Try.func204.trans (congrArg some (by kernel_rfl))
  f189 := Try.func109.trans (congrArg some (by kernel_rfl))
  f215 := Try.func210.trans (congrArg some (by kernel_rfl))
  f216 := Try.func200.trans (congrArg some (by kernel_rfl))
  f257 := Try.func163.trans (congrArg some (by kernel_rfl))
  f294 := Try.func194.trans (congrArg some (by kernel_rfl))
  f295 := Try.func195.trans (congrArg some (by kernel_rfl))
  f296 := Try.func196.trans (congrArg some (by kernel_rfl))
  f297 := Try.func197.trans (congrArg some (by kernel_rfl))
  f298 := Try.func198.trans (congrArg some (by kernel_rfl))
  f299 := Try.func199.trans (congrArg some (by kernel_rfl))
  f300 := Try.func201.trans (congrArg some (by kernel_rfl))
  f301 := Try.func202.trans (congrArg some (by kernel_rfl))
  f328 := Try.func214.trans (congrArg some (by kernel_rfl))
  f329 := Try.func215.trans (congrArg some (by kernel_rfl))
  f330 := Try.func216.trans (congrArg some (by kernel_rfl))
  f331 := Try.func217.trans (congrArg some (by kernel_rfl))
  f332 := Try.func218.trans (congrArg some (by kernel_rfl))
  f343 := Try.func227.trans (congrArg some (by kernel_rfl))
  t0 := Try.underlying0
  a0 := Try.isAgg0
  z0 := Try.sizeOf0
  v0 := Try.zeroValue0
  t3 := Try.underlying3
  a3 := Try.isAgg3
  z3 := Try.sizeOf3
  v3 := Try.zeroValue3
  t4 := Try.underlying4
  a4 := Try.isAgg4
  z4 := Try.sizeOf4
  v4 := Try.zeroValue4
  t5 := Try.underlying5
  a5 := Try.isAgg5
  z5 := Try.sizeOf5
  v5 := Try.zeroValue5
  t9 := Try.underlying9
  a9 := Try.isAgg9
  z9 := Try.sizeOf9
  v9 := Try.zeroValue9
  t28 := Try.underlying22
  a28 := Try.isAgg22
  z28 := Try.sizeOf22
  v28 := Try.zeroValue22
  t46 := Try.underlying128
  a46 := Try.isAgg128
  z46 := Try.sizeOf128
  v46 := Try.zeroValue128
  t51 := Try.underlying153
  a51 := Try.isAgg153
  z51 := Try.sizeOf153
  v51 := Try.zeroValue153
  t53 := Try.underlying156
  a53 := Try.isAgg156
  z53 := Try.sizeOf156
  v53 := Try.zeroValue156
  t131 := Try.underlying23
  a131 := Try.isAgg23
  z131 := Try.sizeOf23
  v131 := Try.zeroValue23
  t182 := Try.underlying170
  a182 := Try.isAgg170
  z182 := Try.sizeOf170
  v182 := Try.zeroValue170
  t183 := Try.underlying171
  a183 := Try.isAgg171
  z183 := Try.sizeOf171
  v183 := Try.zeroValue171
  t218 := Try.underlying187
  a218 := Try.isAgg187
  z218 := Try.sizeOf187
  v218 := Try.zeroValue187
  t222 := Try.underlying191
  a222 := Try.isAgg191
  z222 := Try.sizeOf191
  v222 := Try.zeroValue191
  t228 := Try.underlying196
  a228 := Try.isAgg196
  z228 := Try.sizeOf196
  v228 := Try.zeroValue196
  t229 := Try.underlying91
  a229 := Try.isAgg91
  z229 := Try.sizeOf91
  v229 := Try.zeroValue91 }
open Go.Sort Go.RowKit in
theorem Srt.slices_Sort_int (blk off cap : Nat) (zs : List Int) (w : World) (hH : Holds (Value.int .i64) w blk off zs.toArray) (hblk : blk < w.heap.size) (hsz : zs.length < 4611686018427387904) :
    Calls Try.prog 109 #[.slice (some ⟨blk, off, none⟩) zs.length cap] w fun e w' =>
      e = .returned (.tuple #[]) ∧ ∃ n os, w' = grow (putRow (Value.int .i64) (Sort.ahead w n) blk off (zs.mergeSort fun x y => decide (x ≤ y)).toArray) os := Any.slices_Sort_int Srt.lays189 blk off cap zs w hH hblk hsz
open Go.RowKit Go.Sort in
/-- .. and plain. (LAID: no walk: one application.) -/
theorem Srt.slices_Sort_int_none (p : Option Addr) (cap : Nat) (w : World) :
    Calls Try.prog 109 #[.slice p 0 cap] w fun e w' => e = .returned (.tuple #[]) ∧ w' = w := Any.slices_Sort_int_none Srt.lays189 p cap w
end Go.Proofs.Ytncnlckblciegaa
