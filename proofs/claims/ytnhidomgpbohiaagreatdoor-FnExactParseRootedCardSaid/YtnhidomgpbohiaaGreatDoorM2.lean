/- Own texts, merged: TxtL, TxtLib, TxtLine, Bits, Mask, Good, Near, Dist, WalkPure, Values, Sorted, Edges, Col, Match, Sets, Max, Write, Mark, Order, RowsD, Mat, Conf, RootPure, WalkI1, WalkI2, WalkI3, RowsR, WalkI4, WalkS1, WalkS2, Drop, Reduce, WalkS3, WalkS4, WalkS5, Prob, RootI1, ParseRo. -/
import Derived.Test.YtnhidomgpbohiaaGreatDoorM1
import Derived.Shelf.Strings.Builder1
import Derived.Shelf.Strings.Builder2
import Derived.Shelf.Strings.OnBuilder
import Derived.Shelf.Small.Bits
import Derived.Shelf.Small.Wraps
import Derived.Shelf.Strconv.Atoi
import Derived.Shelf.Strconv.Itoa0
import Derived.Shelf.Strconv.Itoa1
import Derived.Shelf.LaysM
import Derived.Shelf.Strconv.Itoa2
import Derived.Shelf.Strconv.Itoa3
import Derived.Shelf.Strconv.AtoiErrFast
import Derived.Shelf.Strconv.ParseIntEmpty
import Derived.Shelf.Strconv.AtoiFail
import Derived.Shelf.Strconv.Clone
import Derived.Shelf.Strconv.SyntaxError
import Derived.Shelf.LaysC
import Derived.Shelf.Strconv.ToError
import Derived.Shelf.Strconv.AtoiErr
import Derived.Shelf.Strconv.ErrVar
import Derived.Shelf.Strings.Search1
import Derived.Shelf.Strings.Search2
import Derived.Shelf.Strings.Search3
import Derived.Shelf.Strings.Count
import Derived.Shelf.Strings.Shaped
import Derived.Shelf.Strings.Prefix
import Derived.Shelf.Strings.Split
import Derived.Shelf.Strings.SplitShaped
import Derived.Shelf.Strings.RuneCount
import Derived.Shelf.Strings.Explode
import Derived.Ground.Names2Prog
import Derived.Ground.SlgnProg
import Derived.Ground.SlsfProg
import Derived.Shelf.SlSortCmp.Insertion
import Derived.Shelf.SlSortCmp.SiftDown1
import Derived.Shelf.SlSortCmp.HeapSort1
import Derived.Shelf.SlSortCmp.Insertion1
import Derived.Shelf.SlSortCmp.Median1
import Derived.Shelf.SlSortCmp.Pivot1
import Derived.Shelf.SlSortCmp.ReverseRange1
import Derived.Shelf.SlSortCmp.PartialInsertion1
import Derived.Shelf.SlSortCmp.PartitionEqual1
import Derived.Shelf.SlSortCmp.Partition1
import Derived.Shelf.SlSortCmp.Pdq1
import Derived.Shelf.SlSortCmp.Whole1
import Derived.Test.YtnhidomgpbohiaaGreatDoorProg
import Derived.Lib.AtoiErrMem
import Derived.Lib.SplitLaws
import Derived.Sort.Grow
import Derived.Deep.Draws
import Derived.Laws.Entries
import Derived.RangeFuncBox
import Derived.RangeFuncLeaves
import Derived.Shelf.Abstract
import Derived.WalkKit
import Derived.OwnWalkIn
import Derived.TacticsInMore
import Derived.LoopNIn
import Derived.LoopIn
import Derived.Maps.AppendAt
set_option linter.unusedVariables false
section
/- Contracts of library functions (the kit's shelf, laid at this program by the kit's own tools, in plain words). -/
namespace Go.Proofs.YtnhidomgpbohiaaGreatDoor
open Go.Shelf
def Srt.lays156_ren : Go.Shelf.Ren := ⟨fun | 156 => 122 | 165 => 164 | 166 => 59 | 169 => 62 | 240 => 121 | 241 => 205 | 276 => 163 | 277 => 236 | n => n, fun | 31 => 94 | 9 => 9 | 3 => 3 | 4 => 4 | 0 => 0 | 20 => 20 | 72 => 83 | 76 => 88 | 70 => 80 | 37 => 81 | 75 => 87 | 127 => 142 | 164 => 169 | 5 => 5 | 80 => 92 | n => n, fun | n => n⟩
theorem Srt.lays156 : Go.Proofs.Lays.n156 Tryz.prog Srt.lays156_ren := {
  mixed := by kernel_rfl
  f156 := Tryz.func122.trans (congrArg some (by kernel_rfl))
  f165 := Tryz.func164.trans (congrArg some (by kernel_rfl))
  f166 := Tryz.func59.trans (congrArg some (by kernel_rfl))
  f169 := Tryz.func62.trans (congrArg some (by kernel_rfl))
  f240 := Tryz.func121.trans (congrArg some (by kernel_rfl))
  f241 := Tryz.func205.trans (congrArg some (by kernel_rfl))
  f276 := Tryz.func163.trans (congrArg some (by kernel_rfl))
  f277 := Tryz.func236.trans (congrArg some (by kernel_rfl))
  t0 := Tryz.underlying0
  a0 := Tryz.isAgg0
  z0 := Tryz.sizeOf0
  v0 := Tryz.zeroValue0
  t3 := Tryz.underlying3
  a3 := Tryz.isAgg3
  z3 := Tryz.sizeOf3
  v3 := Tryz.zeroValue3
  t4 := Tryz.underlying4
  a4 := Tryz.isAgg4
  z4 := Tryz.sizeOf4
  v4 := Tryz.zeroValue4
  t9 := Tryz.underlying9
  a9 := Tryz.isAgg9
  z9 := Tryz.sizeOf9
  v9 := Tryz.zeroValue9
  t20 := Tryz.underlying20
  a20 := Tryz.isAgg20
  z20 := Tryz.sizeOf20
  v20 := Tryz.zeroValue20
  t31 := Tryz.underlying94
  a31 := Tryz.isAgg94
  z31 := Tryz.sizeOf94
  v31 := Tryz.zeroValue94
  t37 := Tryz.underlying81
  a37 := Tryz.isAgg81
  z37 := Tryz.sizeOf81
  v37 := Tryz.zeroValue81
  t70 := Tryz.underlying80
  a70 := Tryz.isAgg80
  z70 := Tryz.sizeOf80
  v70 := Tryz.zeroValue80
  t72 := Tryz.underlying83
  a72 := Tryz.isAgg83
  z72 := Tryz.sizeOf83
  v72 := Tryz.zeroValue83
  t75 := Tryz.underlying87
  a75 := Tryz.isAgg87
  z75 := Tryz.sizeOf87
  v75 := Tryz.zeroValue87
  t76 := Tryz.underlying88
  a76 := Tryz.isAgg88
  z76 := Tryz.sizeOf88
  v76 := Tryz.zeroValue88
  t127 := Tryz.underlying142
  a127 := Tryz.isAgg142
  z127 := Tryz.sizeOf142
  v127 := Tryz.zeroValue142
  t164 := Tryz.underlying169
  a164 := Tryz.isAgg169
  z164 := Tryz.sizeOf169
  v164 := Tryz.zeroValue169 }
theorem Srt.Builder_Extra_156 : Builder.Extra Tryz.prog Srt.lays156_ren := {
  sizeBuilder := by kernel_rfl
  liesBuilder := by kernel_rfl
  t5 := Tryz.underlying5
  a5 := Tryz.isAgg5
  z5 := Tryz.sizeOf5
  v5 := Tryz.zeroValue5
  infoByte := by kernel_rfl
  cellsByte := by kernel_rfl
  sizeByte := by kernel_rfl
  neB5 := by decide }
open Go.RowKit in
/-- No element: the empty string; the world is as it was. (Whatever the slice's address and capacity: a nil slice too.) (LAID: no walk: one application.) -/
theorem Srt.strings_Join_none (a : Option Addr) (c : Nat) (sep : ByteArray) (w : World) :
    Calls Tryz.prog 122 #[.slice a 0 c, .string sep] w fun e w' => e = .returned (.string ⟨#[]⟩) ∧ w' = w := Any.strings_Join_none Srt.lays156 Srt.Builder_Extra_156 a c sep w
open Go.RowKit in
/-- strings.Join: "Join concatenates the elements of its first argument to create a single string. The separator string sep is placed between elements in the resulting string.": HOWEVER MANY ELEMENTS. Below the heap's end the world is as it was. (LAID: no walk: one application.) -/
theorem Srt.strings_Join (bk o c : Nat) (xs : List ByteArray) (sep : ByteArray) (w : World) (hcells : ∀ (j : Nat) x, xs[j]? = some x → w.cell? ⟨bk, o + j, none⟩ = some (.string x)) (hbk : bk < w.heap.size) (hN : xs.length ≤ 140737488355328) (hcap : xs.length ≤ c) (hlen : (Lib.join (xs.map (·.data.toList)) sep.data.toList).length ≤ 140737488355328) :
    Calls Tryz.prog 122 #[.slice (some ⟨bk, o, none⟩) xs.length c, .string sep] w fun e w' => e = .returned (.string ⟨(Lib.join (xs.map (·.data.toList)) sep.data.toList).toArray⟩) ∧ Below w.heap.size w w' := Any.strings_Join Srt.lays156 Srt.Builder_Extra_156 bk o c xs sep w hcells hbk hN hcap hlen
def Srt.lays104_ren : Go.Shelf.Ren := ⟨fun | 104 => 131 | 211 => 167 | 207 => 207 | n => n, fun | 9 => 9 | 4 => 4 | 24 => 41 | 3 => 3 | n => n, fun | n => n⟩
theorem Srt.lays104 : Go.Proofs.Lays.n104 Tryz.prog Srt.lays104_ren := {
  mixed := by kernel_rfl
  f104 := Tryz.func131.trans (congrArg some (by kernel_rfl))
  f207 := Tryz.func207.trans (congrArg some (by kernel_rfl))
  f211 := Tryz.func167.trans (congrArg some (by kernel_rfl))
  t3 := Tryz.underlying3
  a3 := Tryz.isAgg3
  z3 := Tryz.sizeOf3
  v3 := Tryz.zeroValue3
  t4 := Tryz.underlying4
  a4 := Tryz.isAgg4
  z4 := Tryz.sizeOf4
  v4 := Tryz.zeroValue4
  t9 := Tryz.underlying9
  a9 := Tryz.isAgg9
  z9 := Tryz.sizeOf9
  v9 := Tryz.zeroValue9
  t24 := Tryz.underlying41
  a24 := Tryz.isAgg41
  z24 := Tryz.sizeOf41
  v24 := Tryz.zeroValue41 }
open Go.RowKit in
/-- strings.CutSuffix: "CutSuffix returns s without the provided ending suffix string and reports whether it found the suffix. If s doesn't end with suffix, CutSuffix returns s, false. If suffix is the empty string, CutSuffix returns s, true.": IT RETURNS '(Lib.trimSuffix s p, Lib.hasSuffix s p)'; the world is as it was. (LAID: no walk: one application.) -/
theorem Srt.strings_CutSuffix (s p : ByteArray) (w : World) (hs : s.size ≤ 9223372036854775807) :
    Calls Tryz.prog 131 #[.string s, .string p] w fun e w' => e = .returned (.tuple #[.string ⟨(Lib.trimSuffix s.data.toList p.data.toList).toArray⟩, .bool (Lib.hasSuffix s.data.toList p.data.toList)]) ∧ w' = w := Any.strings_CutSuffix Srt.lays104 s p w hs
def Srt.lays172_ren : Go.Shelf.Ren := ⟨fun | 172 => 171 | 244 => 212 | 245 => 213 | 247 => 246 | 279 => 247 | 280 => 248 | 281 => 249 | 282 => 250 | 287 => 279 | 316 => 280 | 171 => 123 | 205 => 281 | 321 => 305 | 322 => 306 | 243 => 165 | 246 => 206 | 283 => 237 | 284 => 238 | 285 => 239 | 286 => 240 | 129 => 194 | 317 => 273 | 318 => 274 | 319 => 275 | 320 => 276 | 337 => 304 | 338 => 195 | n => n, fun | 9 => 9 | 3 => 3 | 75 => 87 | 76 => 88 | 4 => 4 | 5 => 5 | 167 => 220 | 37 => 81 | 0 => 0 | 85 => 221 | 2 => 2 | 168 => 223 | 53 => 161 | 175 => 255 | 46 => 114 | 210 => 259 | 127 => 142 | 145 => 278 | 143 => 276 | 21 => 21 | 171 => 216 | 173 => 218 | 212 => 248 | 51 => 158 | 20 => 20 | 213 => 249 | 232 => 285 | 233 => 208 | 80 => 92 | n => n, fun | 15 => 5 | 16 => 6 | 17 => 2 | 18 => 7 | 19 => 0 | n => n⟩
theorem Srt.lays172 : Go.Proofs.Lays.n172 Tryz.prog Srt.lays172_ren := {
  mixed := by kernel_rfl
  f129 := Tryz.func194.trans (congrArg some (by kernel_rfl))
  f171 := Tryz.func123.trans (congrArg some (by kernel_rfl))
  f172 := Tryz.func171.trans (congrArg some (by kernel_rfl))
  f205 := Tryz.func281.trans (congrArg some (by kernel_rfl))
  f243 := Tryz.func165.trans (congrArg some (by kernel_rfl))
  f244 := Tryz.func212.trans (congrArg some (by kernel_rfl))
  f245 := Tryz.func213.trans (congrArg some (by kernel_rfl))
  f246 := Tryz.func206.trans (congrArg some (by kernel_rfl))
  f247 := Tryz.func246.trans (congrArg some (by kernel_rfl))
  f279 := Tryz.func247.trans (congrArg some (by kernel_rfl))
  f280 := Tryz.func248.trans (congrArg some (by kernel_rfl))
  f281 := Tryz.func249.trans (congrArg some (by kernel_rfl))
  f282 := Tryz.func250.trans (congrArg some (by kernel_rfl))
  f283 := Tryz.func237.trans (congrArg some (by kernel_rfl))
  f284 := Tryz.func238.trans (congrArg some (by kernel_rfl))
  f285 := Tryz.func239.trans (congrArg some (by kernel_rfl))
  f286 := Tryz.func240.trans (congrArg some (by kernel_rfl))
  f287 := Tryz.func279.trans (congrArg some (by kernel_rfl))
  f316 := Tryz.func280.trans (congrArg some (by kernel_rfl))
  f317 := Tryz.func273.trans (congrArg some (by kernel_rfl))
  f318 := Tryz.func274.trans (congrArg some (by kernel_rfl))
  f319 := Tryz.func275.trans (congrArg some (by kernel_rfl))
  f320 := Tryz.func276.trans (congrArg some (by kernel_rfl))
  f321 := Tryz.func305.trans (congrArg some (by kernel_rfl))
  f322 := Tryz.func306.trans (congrArg some (by kernel_rfl))
  f337 := Tryz.func304.trans (congrArg some (by kernel_rfl))
  f338 := Tryz.func195.trans (congrArg some (by kernel_rfl))
  t0 := Tryz.underlying0
  a0 := Tryz.isAgg0
  z0 := Tryz.sizeOf0
  v0 := Tryz.zeroValue0
  t2 := Tryz.underlying2
  a2 := Tryz.isAgg2
  z2 := Tryz.sizeOf2
  v2 := Tryz.zeroValue2
  t3 := Tryz.underlying3
  a3 := Tryz.isAgg3
  z3 := Tryz.sizeOf3
  v3 := Tryz.zeroValue3
  t4 := Tryz.underlying4
  a4 := Tryz.isAgg4
  z4 := Tryz.sizeOf4
  v4 := Tryz.zeroValue4
  t5 := Tryz.underlying5
  a5 := Tryz.isAgg5
  z5 := Tryz.sizeOf5
  v5 := Tryz.zeroValue5
  t9 := Tryz.underlying9
  a9 := Tryz.isAgg9
  z9 := Tryz.sizeOf9
  v9 := Tryz.zeroValue9
  t20 := Tryz.underlying20
  a20 := Tryz.isAgg20
  z20 := Tryz.sizeOf20
  v20 := Tryz.zeroValue20
  t21 := Tryz.underlying21
  a21 := Tryz.isAgg21
  z21 := Tryz.sizeOf21
  v21 := Tryz.zeroValue21
  t37 := Tryz.underlying81
  a37 := Tryz.isAgg81
  z37 := Tryz.sizeOf81
  v37 := Tryz.zeroValue81
  t46 := Tryz.underlying114
  a46 := Tryz.isAgg114
  z46 := Tryz.sizeOf114
  v46 := Tryz.zeroValue114
  t51 := Tryz.underlying158
  a51 := Tryz.isAgg158
  z51 := Tryz.sizeOf158
  v51 := Tryz.zeroValue158
  t53 := Tryz.underlying161
  a53 := Tryz.isAgg161
  z53 := Tryz.sizeOf161
  v53 := Tryz.zeroValue161
  t75 := Tryz.underlying87
  a75 := Tryz.isAgg87
  z75 := Tryz.sizeOf87
  v75 := Tryz.zeroValue87
  t76 := Tryz.underlying88
  a76 := Tryz.isAgg88
  z76 := Tryz.sizeOf88
  v76 := Tryz.zeroValue88
  t85 := Tryz.underlying221
  a85 := Tryz.isAgg221
  z85 := Tryz.sizeOf221
  v85 := Tryz.zeroValue221
  t127 := Tryz.underlying142
  a127 := Tryz.isAgg142
  z127 := Tryz.sizeOf142
  v127 := Tryz.zeroValue142
  t143 := Tryz.underlying276
  a143 := Tryz.isAgg276
  z143 := Tryz.sizeOf276
  v143 := Tryz.zeroValue276
  t145 := Tryz.underlying278
  a145 := Tryz.isAgg278
  z145 := Tryz.sizeOf278
  v145 := Tryz.zeroValue278
  t167 := Tryz.underlying220
  a167 := Tryz.isAgg220
  z167 := Tryz.sizeOf220
  v167 := Tryz.zeroValue220
  t168 := Tryz.underlying223
  a168 := Tryz.isAgg223
  z168 := Tryz.sizeOf223
  v168 := Tryz.zeroValue223
  t171 := Tryz.underlying216
  a171 := Tryz.isAgg216
  z171 := Tryz.sizeOf216
  v171 := Tryz.zeroValue216
  t173 := Tryz.underlying218
  a173 := Tryz.isAgg218
  z173 := Tryz.sizeOf218
  v173 := Tryz.zeroValue218
  t175 := Tryz.underlying255
  a175 := Tryz.isAgg255
  z175 := Tryz.sizeOf255
  v175 := Tryz.zeroValue255
  t210 := Tryz.underlying259
  a210 := Tryz.isAgg259
  z210 := Tryz.sizeOf259
  v210 := Tryz.zeroValue259
  t212 := Tryz.underlying248
  a212 := Tryz.isAgg248
  z212 := Tryz.sizeOf248
  v212 := Tryz.zeroValue248
  t213 := Tryz.underlying249
  a213 := Tryz.isAgg249
  z213 := Tryz.sizeOf249
  t232 := Tryz.underlying285
  a232 := Tryz.isAgg285
  z232 := Tryz.sizeOf285
  v232 := Tryz.zeroValue285
  t233 := Tryz.underlying208
  a233 := Tryz.isAgg208
  z233 := Tryz.sizeOf208
  v233 := Tryz.zeroValue208
  g15 := by kernel_rfl
  g16 := by kernel_rfl
  g17 := by kernel_rfl
  g18 := by kernel_rfl
  g19 := by kernel_rfl }
open Go.RowKit in
/-- strconv.Atoi: "Atoi is equivalent to ParseInt(s, 10, 0), converted to type int.": AT A DECIMAL NUMERAL OF AT MOST 18 BYTES: its value, and a nil error. The world behind the call: the one new row that the library's '[]byte(s)' lays. (LAID: no walk: one application.) -/
theorem Srt.strconv_Atoi (s : ByteArray) (n : Int) (hl : s.size ≤ 18) (h : Lib.atoi s.data.toList = some n) (w : World) :
    Calls Tryz.prog 171 #[.string s] w fun e w' => e = .returned (.tuple #[.int .i64 n, .nilIface]) ∧ ∃ t, w' = Lib.bytesWorld w 5 t := Any.strconv_Atoi Srt.lays172 s n hl h w
def Srt.laysM171_ren : Go.Shelf.Ren := ⟨fun | 171 => 123 | 243 => 165 | 246 => 206 | 283 => 237 | 284 => 238 | 285 => 239 | 286 => 240 | 129 => 194 | 317 => 273 | 318 => 274 | 319 => 275 | 320 => 276 | 337 => 304 | 338 => 195 | n => n, fun | 3 => 3 | 9 => 9 | 2 => 2 | 4 => 4 | 171 => 216 | 0 => 0 | 53 => 161 | 37 => 81 | 5 => 5 | 173 => 218 | 212 => 248 | 51 => 158 | 20 => 20 | 213 => 249 | 46 => 114 | 232 => 285 | 233 => 208 | n => n, fun | 17 => 2 | 18 => 7 | 19 => 0 | n => n⟩
theorem Srt.laysM171 : Go.Proofs.LaysM.n171 Tryz.prog Srt.laysM171_ren := {
  mixed := by kernel_rfl
  f129 := Tryz.func194.trans (congrArg some (by kernel_rfl))
  f171 := Tryz.func123.trans (congrArg some (by kernel_rfl))
  f243 := Tryz.func165.trans (congrArg some (by kernel_rfl))
  f246 := Tryz.func206.trans (congrArg some (by kernel_rfl))
  f283 := Tryz.func237.trans (congrArg some (by kernel_rfl))
  f284 := Tryz.func238.trans (congrArg some (by kernel_rfl))
  f285 := Tryz.func239.trans (congrArg some (by kernel_rfl))
  f286 := Tryz.func240.trans (congrArg some (by kernel_rfl))
  f317 := Tryz.func273.trans (congrArg some (by kernel_rfl))
  f318 := Tryz.func274.trans (congrArg some (by kernel_rfl))
  f319 := Tryz.func275.trans (congrArg some (by kernel_rfl))
  f320 := Tryz.func276.trans (congrArg some (by kernel_rfl))
  f337 := Tryz.func304.trans (congrArg some (by kernel_rfl))
  f338 := Tryz.func195.trans (congrArg some (by kernel_rfl))
  t0 := Tryz.underlying0
  a0 := Tryz.isAgg0
  z0 := Tryz.sizeOf0
  v0 := Tryz.zeroValue0
  t2 := Tryz.underlying2
  a2 := Tryz.isAgg2
  z2 := Tryz.sizeOf2
  v2 := Tryz.zeroValue2
  t3 := Tryz.underlying3
  a3 := Tryz.isAgg3
  z3 := Tryz.sizeOf3
  v3 := Tryz.zeroValue3
  t4 := Tryz.underlying4
  a4 := Tryz.isAgg4
  z4 := Tryz.sizeOf4
  v4 := Tryz.zeroValue4
  t5 := Tryz.underlying5
  a5 := Tryz.isAgg5
  z5 := Tryz.sizeOf5
  v5 := Tryz.zeroValue5
  t9 := Tryz.underlying9
  a9 := Tryz.isAgg9
  z9 := Tryz.sizeOf9
  v9 := Tryz.zeroValue9
  t20 := Tryz.underlying20
  a20 := Tryz.isAgg20
  z20 := Tryz.sizeOf20
  v20 := Tryz.zeroValue20
  t37 := Tryz.underlying81
  a37 := Tryz.isAgg81
  z37 := Tryz.sizeOf81
  v37 := Tryz.zeroValue81
  t46 := Tryz.underlying114
  a46 := Tryz.isAgg114
  z46 := Tryz.sizeOf114
  v46 := Tryz.zeroValue114
  t51 := Tryz.underlying158
  a51 := Tryz.isAgg158
  z51 := Tryz.sizeOf158
  v51 := Tryz.zeroValue158
  t53 := Tryz.underlying161
  a53 := Tryz.isAgg161
  z53 := Tryz.sizeOf161
  v53 := Tryz.zeroValue161
  t171 := Tryz.underlying216
  a171 := Tryz.isAgg216
  z171 := Tryz.sizeOf216
  v171 := Tryz.zeroValue216
  t173 := Tryz.underlying218
  a173 := Tryz.isAgg218
  z173 := Tryz.sizeOf218
  v173 := Tryz.zeroValue218
  t212 := Tryz.underlying248
  a212 := Tryz.isAgg248
  z212 := Tryz.sizeOf248
  v212 := Tryz.zeroValue248
  t213 := Tryz.underlying249
  a213 := Tryz.isAgg249
  z213 := Tryz.sizeOf249
  t232 := Tryz.underlying285
  a232 := Tryz.isAgg285
  z232 := Tryz.sizeOf285
  v232 := Tryz.zeroValue285
  t233 := Tryz.underlying208
  a233 := Tryz.isAgg208
  z233 := Tryz.sizeOf208
  v233 := Tryz.zeroValue208
  g17 := by kernel_rfl
  g18 := by kernel_rfl
  g19 := by kernel_rfl
  i0 := by kernel_rfl
  i2 := by kernel_rfl
  i3 := by kernel_rfl
  i4 := by kernel_rfl
  i5 := by kernel_rfl
  i9 := by kernel_rfl
  i20 := by kernel_rfl
  i37 := by kernel_rfl
  i46 := by kernel_rfl
  i51 := by kernel_rfl
  i53 := by kernel_rfl
  i171 := by kernel_rfl
  i173 := by kernel_rfl
  i212 := by kernel_rfl
  i232 := by kernel_rfl
  i233 := by kernel_rfl
  m17 := by kernel_rfl
  m18 := by kernel_rfl
  m19 := by kernel_rfl }
open Go.RowKit Go.Sort Go.Lib in
/-- strconv.Itoa: "Itoa is equivalent to FormatInt(int64(i), 10).": i's DECIMAL NUMERAL ('Lib.itoa': a '-' where i is negative, then the digits), FOR EVERY int. The world behind the call: the world before it, new blocks behind the heap (the library's 'var a [24]byte'), draws. (LAID: no walk: one application.) -/
theorem Srt.strconv_Itoa (n : Int) (h0 : -9223372036854775808 ≤ n) (h1 : n ≤ 9223372036854775807) (w : World) (htab : Lib.TabIs Tryz.prog w "internal/strconv.uint64pow10" .u64 Lib.pow10Tab) :
    Calls Tryz.prog 123 #[.int .i64 n] w fun e w' => e = .returned (.string ⟨(Lib.itoa n).toArray⟩) ∧ ∃ k os, w' = grow (w.drewN k) os := Any.strconv_Itoa Srt.laysM171 n h0 h1 w htab
def Srt.laysC172_ren : Go.Shelf.Ren := ⟨fun | 172 => 171 | 244 => 212 | 245 => 213 | 247 => 246 | 279 => 247 | 280 => 248 | 281 => 249 | 282 => 250 | 287 => 279 | 316 => 280 | 171 => 123 | 205 => 281 | 321 => 305 | 322 => 306 | 243 => 165 | 246 => 206 | 283 => 237 | 284 => 238 | 285 => 239 | 286 => 240 | 129 => 194 | 317 => 273 | 318 => 274 | 319 => 275 | 320 => 276 | 337 => 304 | 338 => 195 | n => n, fun | 9 => 9 | 3 => 3 | 75 => 87 | 76 => 88 | 4 => 4 | 5 => 5 | 167 => 220 | 37 => 81 | 0 => 0 | 85 => 221 | 2 => 2 | 168 => 223 | 53 => 161 | 175 => 255 | 46 => 114 | 210 => 259 | 127 => 142 | 145 => 278 | 143 => 276 | 21 => 21 | 171 => 216 | 173 => 218 | 212 => 248 | 51 => 158 | 20 => 20 | 213 => 249 | 232 => 285 | 233 => 208 | 80 => 92 | n => n, fun | 15 => 5 | 16 => 6 | 17 => 2 | 18 => 7 | 19 => 0 | n => n⟩
theorem Srt.laysC172 : Go.Proofs.LaysC.n172 Tryz.prog Srt.laysC172_ren := {
  mixed := by kernel_rfl
  f129 := Tryz.func194.trans (congrArg some (by kernel_rfl))
  f171 := Tryz.func123.trans (congrArg some (by kernel_rfl))
  f172 := Tryz.func171.trans (congrArg some (by kernel_rfl))
  f205 := Tryz.func281.trans (congrArg some (by kernel_rfl))
  f243 := Tryz.func165.trans (congrArg some (by kernel_rfl))
  f244 := Tryz.func212.trans (congrArg some (by kernel_rfl))
  f245 := Tryz.func213.trans (congrArg some (by kernel_rfl))
  f246 := Tryz.func206.trans (congrArg some (by kernel_rfl))
  f247 := Tryz.func246.trans (congrArg some (by kernel_rfl))
  f279 := Tryz.func247.trans (congrArg some (by kernel_rfl))
  f280 := Tryz.func248.trans (congrArg some (by kernel_rfl))
  f281 := Tryz.func249.trans (congrArg some (by kernel_rfl))
  f282 := Tryz.func250.trans (congrArg some (by kernel_rfl))
  f283 := Tryz.func237.trans (congrArg some (by kernel_rfl))
  f284 := Tryz.func238.trans (congrArg some (by kernel_rfl))
  f285 := Tryz.func239.trans (congrArg some (by kernel_rfl))
  f286 := Tryz.func240.trans (congrArg some (by kernel_rfl))
  f287 := Tryz.func279.trans (congrArg some (by kernel_rfl))
  f316 := Tryz.func280.trans (congrArg some (by kernel_rfl))
  f317 := Tryz.func273.trans (congrArg some (by kernel_rfl))
  f318 := Tryz.func274.trans (congrArg some (by kernel_rfl))
  f319 := Tryz.func275.trans (congrArg some (by kernel_rfl))
  f320 := Tryz.func276.trans (congrArg some (by kernel_rfl))
  f321 := Tryz.func305.trans (congrArg some (by kernel_rfl))
  f322 := Tryz.func306.trans (congrArg some (by kernel_rfl))
  f337 := Tryz.func304.trans (congrArg some (by kernel_rfl))
  f338 := Tryz.func195.trans (congrArg some (by kernel_rfl))
  t0 := Tryz.underlying0
  a0 := Tryz.isAgg0
  z0 := Tryz.sizeOf0
  v0 := Tryz.zeroValue0
  t2 := Tryz.underlying2
  a2 := Tryz.isAgg2
  z2 := Tryz.sizeOf2
  v2 := Tryz.zeroValue2
  t3 := Tryz.underlying3
  a3 := Tryz.isAgg3
  z3 := Tryz.sizeOf3
  v3 := Tryz.zeroValue3
  t4 := Tryz.underlying4
  a4 := Tryz.isAgg4
  z4 := Tryz.sizeOf4
  v4 := Tryz.zeroValue4
  t5 := Tryz.underlying5
  a5 := Tryz.isAgg5
  z5 := Tryz.sizeOf5
  v5 := Tryz.zeroValue5
  t9 := Tryz.underlying9
  a9 := Tryz.isAgg9
  z9 := Tryz.sizeOf9
  v9 := Tryz.zeroValue9
  t20 := Tryz.underlying20
  a20 := Tryz.isAgg20
  z20 := Tryz.sizeOf20
  v20 := Tryz.zeroValue20
  t21 := Tryz.underlying21
  a21 := Tryz.isAgg21
  z21 := Tryz.sizeOf21
  v21 := Tryz.zeroValue21
  t37 := Tryz.underlying81
  a37 := Tryz.isAgg81
  z37 := Tryz.sizeOf81
  v37 := Tryz.zeroValue81
  t46 := Tryz.underlying114
  a46 := Tryz.isAgg114
  z46 := Tryz.sizeOf114
  v46 := Tryz.zeroValue114
  t51 := Tryz.underlying158
  a51 := Tryz.isAgg158
  z51 := Tryz.sizeOf158
  v51 := Tryz.zeroValue158
  t53 := Tryz.underlying161
  a53 := Tryz.isAgg161
  z53 := Tryz.sizeOf161
  v53 := Tryz.zeroValue161
  t75 := Tryz.underlying87
  a75 := Tryz.isAgg87
  z75 := Tryz.sizeOf87
  v75 := Tryz.zeroValue87
  t76 := Tryz.underlying88
  a76 := Tryz.isAgg88
  z76 := Tryz.sizeOf88
  v76 := Tryz.zeroValue88
  t85 := Tryz.underlying221
  a85 := Tryz.isAgg221
  z85 := Tryz.sizeOf221
  v85 := Tryz.zeroValue221
  t127 := Tryz.underlying142
  a127 := Tryz.isAgg142
  z127 := Tryz.sizeOf142
  v127 := Tryz.zeroValue142
  t143 := Tryz.underlying276
  a143 := Tryz.isAgg276
  z143 := Tryz.sizeOf276
  v143 := Tryz.zeroValue276
  t145 := Tryz.underlying278
  a145 := Tryz.isAgg278
  z145 := Tryz.sizeOf278
  v145 := Tryz.zeroValue278
  t167 := Tryz.underlying220
  a167 := Tryz.isAgg220
  z167 := Tryz.sizeOf220
  v167 := Tryz.zeroValue220
  t168 := Tryz.underlying223
  a168 := Tryz.isAgg223
  z168 := Tryz.sizeOf223
  v168 := Tryz.zeroValue223
  t171 := Tryz.underlying216
  a171 := Tryz.isAgg216
  z171 := Tryz.sizeOf216
  v171 := Tryz.zeroValue216
  t173 := Tryz.underlying218
  a173 := Tryz.isAgg218
  z173 := Tryz.sizeOf218
  v173 := Tryz.zeroValue218
  t175 := Tryz.underlying255
  a175 := Tryz.isAgg255
  z175 := Tryz.sizeOf255
  v175 := Tryz.zeroValue255
  t210 := Tryz.underlying259
  a210 := Tryz.isAgg259
  z210 := Tryz.sizeOf259
  v210 := Tryz.zeroValue259
  t212 := Tryz.underlying248
  a212 := Tryz.isAgg248
  z212 := Tryz.sizeOf248
  v212 := Tryz.zeroValue248
  t213 := Tryz.underlying249
  a213 := Tryz.isAgg249
  z213 := Tryz.sizeOf249
  t232 := Tryz.underlying285
  a232 := Tryz.isAgg285
  z232 := Tryz.sizeOf285
  v232 := Tryz.zeroValue285
  t233 := Tryz.underlying208
  a233 := Tryz.isAgg208
  z233 := Tryz.sizeOf208
  v233 := Tryz.zeroValue208
  g15 := by kernel_rfl
  g16 := by kernel_rfl
  g17 := by kernel_rfl
  g18 := by kernel_rfl
  g19 := by kernel_rfl
  t80 := Tryz.underlying92
  a80 := Tryz.isAgg92
  z80 := Tryz.sizeOf92
  v80 := Tryz.zeroValue92
  i0 := by kernel_rfl
  i2 := by kernel_rfl
  i3 := by kernel_rfl
  i4 := by kernel_rfl
  i5 := by kernel_rfl
  i9 := by kernel_rfl
  i20 := by kernel_rfl
  i21 := by kernel_rfl
  i37 := by kernel_rfl
  i46 := by kernel_rfl
  i51 := by kernel_rfl
  i53 := by kernel_rfl
  i75 := by kernel_rfl
  i76 := by kernel_rfl
  i80 := by kernel_rfl
  i85 := by kernel_rfl
  i127 := by kernel_rfl
  i143 := by kernel_rfl
  i145 := by kernel_rfl
  i167 := by kernel_rfl
  i168 := by kernel_rfl
  i171 := by kernel_rfl
  i173 := by kernel_rfl
  i175 := by kernel_rfl
  i210 := by kernel_rfl
  i212 := by kernel_rfl
  i232 := by kernel_rfl
  i233 := by kernel_rfl
  m15 := by kernel_rfl
  m16 := by kernel_rfl
  m17 := by kernel_rfl
  m18 := by kernel_rfl
  m19 := by kernel_rfl
  c0 := by kernel_rfl
  c2 := by kernel_rfl
  c3 := by kernel_rfl
  c4 := by kernel_rfl
  c5 := by kernel_rfl
  c9 := by kernel_rfl
  c20 := by kernel_rfl
  c21 := by kernel_rfl
  c37 := by kernel_rfl
  c46 := by kernel_rfl
  c51 := by kernel_rfl
  c53 := by kernel_rfl
  c75 := by kernel_rfl
  c76 := by kernel_rfl
  c80 := by kernel_rfl
  c85 := by kernel_rfl
  c127 := by kernel_rfl
  c143 := by kernel_rfl
  c145 := by kernel_rfl
  c167 := by kernel_rfl
  c168 := by kernel_rfl
  c171 := by kernel_rfl
  c173 := by kernel_rfl
  c175 := by kernel_rfl
  c210 := by kernel_rfl
  c212 := by kernel_rfl
  c213 := by kernel_rfl
  c232 := by kernel_rfl
  c233 := by kernel_rfl }
open Go.RowKit in
/-- strconv.Atoi, AT EVERY STRING OF AT MOST 18 BYTES THAT IS NO DECIMAL NUMERAL (the empty one too): 0, AND AN ERROR THAT IS NOT nil: a *NumError in a new block N: {Func: "Atoi", Num: s's bytes, Err: what the variable ErrSyntax holds}. Of what was there nothing has turned. (LAID: no walk: one application.) -/
theorem Srt.strconv_Atoi_err (s : ByteArray) (hl : s.size ≤ 18) (h : Lib.atoi s.data.toList = none) (ev : Value) (w : World) (hv : w.cell? ⟨5, 0, none⟩ = some ev) (hev : ev = .nilIface ∨ ∃ te pe, ev = .iface te pe) :
    Calls Tryz.prog 171 #[.string s] w fun e w' => ∃ N, e = .returned (.tuple #[.int .i64 0, .iface 223 (.pointer (some ⟨N, 0, none⟩))]) ∧ w.heap.size ≤ N ∧ w'.heap[N]? = some (.cells #[.string ⟨#[65, 116, 111, 105]⟩, .string s, ev] 259 (0, 0)) ∧ Below w.heap.size w w' := Any.strconv_Atoi_err Srt.laysC172 s hl h ev w hv hev
def Srt.lays146_ren : Go.Shelf.Ren := ⟨fun | 146 => 69 | 221 => 132 | 268 => 168 | 138 => 169 | 143 => 170 | 195 => 208 | 197 => 209 | 218 => 210 | 219 => 211 | 260 => 241 | 217 => 242 | 225 => 243 | 224 => 244 | 267 => 245 | 266 => 277 | 314 => 278 | n => n, fun | 9 => 9 | 31 => 94 | 3 => 3 | 4 => 4 | 0 => 0 | 105 => 197 | 21 => 21 | 5 => 5 | 46 => 114 | 119 => 250 | 139 => 253 | 138 => 252 | 146 => 159 | 51 => 158 | n => n, fun | 1 => 1 | 3 => 3 | 4 => 4 | n => n⟩
theorem Srt.lays146 : Go.Proofs.Lays.n146 Tryz.prog Srt.lays146_ren := {
  mixed := by kernel_rfl
  f138 := Tryz.func169.trans (congrArg some (by kernel_rfl))
  f143 := Tryz.func170.trans (congrArg some (by kernel_rfl))
  f146 := Tryz.func69.trans (congrArg some (by kernel_rfl))
  f195 := Tryz.func208.trans (congrArg some (by kernel_rfl))
  f197 := Tryz.func209.trans (congrArg some (by kernel_rfl))
  f217 := Tryz.func242.trans (congrArg some (by kernel_rfl))
  f218 := Tryz.func210.trans (congrArg some (by kernel_rfl))
  f219 := Tryz.func211.trans (congrArg some (by kernel_rfl))
  f221 := Tryz.func132.trans (congrArg some (by kernel_rfl))
  f224 := Tryz.func244.trans (congrArg some (by kernel_rfl))
  f225 := Tryz.func243.trans (congrArg some (by kernel_rfl))
  f260 := Tryz.func241.trans (congrArg some (by kernel_rfl))
  f266 := Tryz.func277.trans (congrArg some (by kernel_rfl))
  f267 := Tryz.func245.trans (congrArg some (by kernel_rfl))
  f268 := Tryz.func168.trans (congrArg some (by kernel_rfl))
  f314 := Tryz.func278.trans (congrArg some (by kernel_rfl))
  t0 := Tryz.underlying0
  a0 := Tryz.isAgg0
  z0 := Tryz.sizeOf0
  v0 := Tryz.zeroValue0
  t3 := Tryz.underlying3
  a3 := Tryz.isAgg3
  z3 := Tryz.sizeOf3
  v3 := Tryz.zeroValue3
  t4 := Tryz.underlying4
  a4 := Tryz.isAgg4
  z4 := Tryz.sizeOf4
  v4 := Tryz.zeroValue4
  t5 := Tryz.underlying5
  a5 := Tryz.isAgg5
  z5 := Tryz.sizeOf5
  v5 := Tryz.zeroValue5
  t9 := Tryz.underlying9
  a9 := Tryz.isAgg9
  z9 := Tryz.sizeOf9
  v9 := Tryz.zeroValue9
  t21 := Tryz.underlying21
  a21 := Tryz.isAgg21
  z21 := Tryz.sizeOf21
  v21 := Tryz.zeroValue21
  t31 := Tryz.underlying94
  a31 := Tryz.isAgg94
  z31 := Tryz.sizeOf94
  v31 := Tryz.zeroValue94
  t46 := Tryz.underlying114
  a46 := Tryz.isAgg114
  z46 := Tryz.sizeOf114
  v46 := Tryz.zeroValue114
  t51 := Tryz.underlying158
  a51 := Tryz.isAgg158
  z51 := Tryz.sizeOf158
  v51 := Tryz.zeroValue158
  t105 := Tryz.underlying197
  a105 := Tryz.isAgg197
  z105 := Tryz.sizeOf197
  v105 := Tryz.zeroValue197
  t119 := Tryz.underlying250
  a119 := Tryz.isAgg250
  z119 := Tryz.sizeOf250
  t138 := Tryz.underlying252
  a138 := Tryz.isAgg252
  z138 := Tryz.sizeOf252
  v138 := Tryz.zeroValue252
  t139 := Tryz.underlying253
  a139 := Tryz.isAgg253
  z139 := Tryz.sizeOf253
  v139 := Tryz.zeroValue253
  t146 := Tryz.underlying159
  a146 := Tryz.isAgg159
  z146 := Tryz.sizeOf159
  v146 := Tryz.zeroValue159
  g1 := by kernel_rfl
  g3 := by kernel_rfl
  g4 := by kernel_rfl }
open Go.RowKit Go.Lib in
/-- strings.Split. (LAID: no walk: one application.) -/
theorem Srt.strings_Split (s sep : ByteArray) (m : Int) (w : World) (hs : s.size < 4294967281) (hm : w.cell? ⟨1, 0, none⟩ = some (.int .i64 m)) (h1 : 1 ≤ sep.size) :
    Calls Tryz.prog 69 #[.string s, .string sep] w fun e w' =>
      e = .returned (.slice (some ⟨w.heap.size, 0, none⟩) (Lib.countB s sep + 1) (Lib.countB s sep + 1)) ∧ w' = w.alloc (.cells ((Lib.splitB sep 0 (Lib.countB s sep) s).map Value.string).toArray 9) := Any.strings_Split Srt.lays146 (by kernel_rfl) s sep m w hs hm h1
def Srt.laysM146_ren : Go.Shelf.Ren := ⟨fun | 146 => 69 | 221 => 132 | 268 => 168 | 138 => 169 | 143 => 170 | 195 => 208 | 197 => 209 | 218 => 210 | 219 => 211 | 260 => 241 | 217 => 242 | 225 => 243 | 224 => 244 | 267 => 245 | 266 => 277 | 314 => 278 | n => n, fun | 9 => 9 | 31 => 94 | 3 => 3 | 4 => 4 | 0 => 0 | 105 => 197 | 21 => 21 | 5 => 5 | 46 => 114 | 119 => 250 | 139 => 253 | 138 => 252 | 146 => 159 | 51 => 158 | n => n, fun | 1 => 1 | 3 => 3 | 4 => 4 | n => n⟩
theorem Srt.laysM146 : Go.Proofs.LaysM.n146 Tryz.prog Srt.laysM146_ren := {
  mixed := by kernel_rfl
  f138 := Tryz.func169.trans (congrArg some (by kernel_rfl))
  f143 := Tryz.func170.trans (congrArg some (by kernel_rfl))
  f146 := Tryz.func69.trans (congrArg some (by kernel_rfl))
  f195 := Tryz.func208.trans (congrArg some (by kernel_rfl))
  f197 := Tryz.func209.trans (congrArg some (by kernel_rfl))
  f217 := Tryz.func242.trans (congrArg some (by kernel_rfl))
  f218 := Tryz.func210.trans (congrArg some (by kernel_rfl))
  f219 := Tryz.func211.trans (congrArg some (by kernel_rfl))
  f221 := Tryz.func132.trans (congrArg some (by kernel_rfl))
  f224 := Tryz.func244.trans (congrArg some (by kernel_rfl))
  f225 := Tryz.func243.trans (congrArg some (by kernel_rfl))
  f260 := Tryz.func241.trans (congrArg some (by kernel_rfl))
  f266 := Tryz.func277.trans (congrArg some (by kernel_rfl))
  f267 := Tryz.func245.trans (congrArg some (by kernel_rfl))
  f268 := Tryz.func168.trans (congrArg some (by kernel_rfl))
  f314 := Tryz.func278.trans (congrArg some (by kernel_rfl))
  t0 := Tryz.underlying0
  a0 := Tryz.isAgg0
  z0 := Tryz.sizeOf0
  v0 := Tryz.zeroValue0
  t3 := Tryz.underlying3
  a3 := Tryz.isAgg3
  z3 := Tryz.sizeOf3
  v3 := Tryz.zeroValue3
  t4 := Tryz.underlying4
  a4 := Tryz.isAgg4
  z4 := Tryz.sizeOf4
  v4 := Tryz.zeroValue4
  t5 := Tryz.underlying5
  a5 := Tryz.isAgg5
  z5 := Tryz.sizeOf5
  v5 := Tryz.zeroValue5
  t9 := Tryz.underlying9
  a9 := Tryz.isAgg9
  z9 := Tryz.sizeOf9
  v9 := Tryz.zeroValue9
  t21 := Tryz.underlying21
  a21 := Tryz.isAgg21
  z21 := Tryz.sizeOf21
  v21 := Tryz.zeroValue21
  t31 := Tryz.underlying94
  a31 := Tryz.isAgg94
  z31 := Tryz.sizeOf94
  v31 := Tryz.zeroValue94
  t46 := Tryz.underlying114
  a46 := Tryz.isAgg114
  z46 := Tryz.sizeOf114
  v46 := Tryz.zeroValue114
  t51 := Tryz.underlying158
  a51 := Tryz.isAgg158
  z51 := Tryz.sizeOf158
  v51 := Tryz.zeroValue158
  t105 := Tryz.underlying197
  a105 := Tryz.isAgg197
  z105 := Tryz.sizeOf197
  v105 := Tryz.zeroValue197
  t119 := Tryz.underlying250
  a119 := Tryz.isAgg250
  z119 := Tryz.sizeOf250
  t138 := Tryz.underlying252
  a138 := Tryz.isAgg252
  z138 := Tryz.sizeOf252
  v138 := Tryz.zeroValue252
  t139 := Tryz.underlying253
  a139 := Tryz.isAgg253
  z139 := Tryz.sizeOf253
  v139 := Tryz.zeroValue253
  t146 := Tryz.underlying159
  a146 := Tryz.isAgg159
  z146 := Tryz.sizeOf159
  v146 := Tryz.zeroValue159
  g1 := by kernel_rfl
  g3 := by kernel_rfl
  g4 := by kernel_rfl
  i0 := by kernel_rfl
  i3 := by kernel_rfl
  i4 := by kernel_rfl
  i5 := by kernel_rfl
  i9 := by kernel_rfl
  i21 := by kernel_rfl
  i31 := by kernel_rfl
  i46 := by kernel_rfl
  i51 := by kernel_rfl
  i105 := by kernel_rfl
  i138 := by kernel_rfl
  i139 := by kernel_rfl
  i146 := by kernel_rfl
  m1 := by kernel_rfl
  s1_3 := fun w h => Go.Proofs.cell_of_shapedOpen_int (zero := #[.int .i64 0]) (t := 3) h (of_decide_eq_true (by kernel_rfl)) (by kernel_rfl) rfl (by kernel_rfl) (by kernel_rfl) Tryz.underlying3
  m3 := by kernel_rfl
  m4 := by kernel_rfl }
end Go.Proofs.YtnhidomgpbohiaaGreatDoor
end

section
/- The library's functions on texts in our own words (numerals, cutting, joining); numbers and lines, both sides. -/
namespace Go.Proofs.YtnhidomgpbohiaaGreatDoor
open Go.GX Go.RowKit
open Go.Lib (decDigits)
set_option maxRecDepth 100000

/-! ### What package-level variables hold -/

/-- The table of powers of ten. -/
def GP (w : World) : Prop := Go.Lib.TabIs Tryz.prog w "internal/strconv.uint64pow10" .u64 Go.Lib.pow10Tab
/-- .. the value of ErrSyntax, MaxLen. -/
structure GV (w : World) : Prop where
  pow : GP w
  syn : ∃ ev, w.cell? ⟨Srt.laysC172_ren.g 15, 0, none⟩ = some ev ∧ (ev = .nilIface ∨ ∃ te pe, ev = .iface te pe)
  mx : ∃ m, w.cell? ⟨Srt.lays146_ren.g 1, 0, none⟩ = some (.int .i64 m)

theorem var_ext {P : Program} {w w' : World} {n : String} {cs : Array Value} (h : w.var? P n = some cs) (hE : Ext w w') : w'.var? P n = some cs := by
  unfold World.var? at h ⊢
  cases hg : P.globalNamed n with
  | none => rw [hg] at h; exact h
  | some g =>
    rw [hg] at h
    simp only [Option.bind_some] at h ⊢
    cases hh : w.heap[g]? with
    | none => rw [hh] at h; cases h
    | some o =>
      rw [hE.same (Array.getElem?_eq_some_iff.1 hh).1, hh]
      rw [hh] at h; exact h
theorem GP.ext {w w' : World} (h : GP w) (hE : Ext w w') : GP w' := var_ext h hE
theorem cell_ext {w w' : World} {a : Addr} {v : Value} (h : w.cell? a = some v) (hE : Ext w w') : w'.cell? a = some v := by
  rw [World.cell?_of_block (hE.same (cell_lt h))]; exact h
theorem GV.ext {w w' : World} (h : GV w) (hE : Ext w w') : GV w' :=
  ⟨h.pow.ext hE, let ⟨ev, h1, h2⟩ := h.syn; ⟨ev, cell_ext h1 hE, h2⟩, let ⟨m, h1⟩ := h.mx; ⟨m, cell_ext h1 hE⟩⟩

/-! ### The library -/

theorem Itoa_ok {w : World} (g : GP w) {n : Nat} (hn : (n : Int) ≤ 9223372036854775807) :
    Calls Tryz.prog F.strconv_Itoa #[.int .i64 (n : Int)] w (Ret [.at .str] fun (r : ByteArray) w' => r = mkS (decDigits n) ∧ Ext w w') := by
  refine (Srt.strconv_Itoa (n : Int) (by omega) hn w g).mono ?_
  rintro e w' ⟨rfl, k, os, rfl⟩
  refine ⟨?_, ⟨rfl, rfl, rfl, ?_, ?_⟩⟩
  · have : Go.Lib.itoa (n : Int) = decDigits n := by unfold Go.Lib.itoa; rw [if_neg (by omega)]; rfl
    rw [this]; rfl
  · show w.heap.size ≤ (w.heap ++ os).size
    rw [Array.size_append]; omega
  · intro j hj
    show (w.heap ++ os)[j]? = w.heap[j]?
    rw [Array.getElem?_append_left hj]

theorem Atoi_ok {w : World} (g : GV w) {l : List UInt8} (hl : l.length ≤ 18) :
    Calls Tryz.prog F.strconv_Atoi #[.string (mkS l)] w (Ret [.at (.int .i64), .at .val] fun (x : Int) (e : Value) w' => Ext w w' ∧ ((Go.Lib.atoi l = some x ∧ e = .nilIface) ∨ (Go.Lib.atoi l = none ∧ ∃ t v, e = .iface t v))) := by
  cases h : Go.Lib.atoi l with
  | some n =>
    refine (Srt.strconv_Atoi (mkS l) n (by rw [mkS_size]; exact hl) (by rw [mkS_data]; exact h) w).mono ?_
    rintro e w' ⟨rfl, t, rfl⟩
    exact ⟨Go.Lib.bytesWorld_below _ _ _, .inl ⟨rfl, rfl⟩⟩
  | none =>
    obtain ⟨ev, h1, h2⟩ := g.syn
    refine (Srt.strconv_Atoi_err (mkS l) (by rw [mkS_size]; exact hl) (by rw [mkS_data]; exact h) ev w h1 h2).mono ?_
    rintro e w' ⟨N, rfl, _, _, hE⟩
    exact ⟨hE, .inr ⟨rfl, _, _, rfl⟩⟩

theorem und_err0 : (match Tryz.prog.underlying T.t_error with | some (.interface _) => true | _ => false) = true := by kernel_rfl
theorem und_err : ∃ ms, Tryz.prog.underlying T.t_error = some (.interface ms) := by
  have h := und_err0
  generalize Tryz.prog.underlying T.t_error = d at h
  match d, h with
  | some (.interface ms), _ => exact ⟨ms, rfl⟩

/-- A value of type error held against nil. -/
theorem AEQ_err {e : Value} {x : Operand} {K : Bool → Prop} (h : (e = .nilIface ∧ K false) ∨ ((∃ t v, e = .iface t v) ∧ K true)) :
    AEQ Tryz.prog (do eqGuard .neq T.t_error x (.const .nilIface) e .nilIface; binOp .neq T.t_error e .nilIface) K := by
  obtain ⟨ms, hu⟩ := und_err
  exact AEQ_nil hu h

theorem Split_ok {w : World} (g : GV w) {l : List UInt8} {c : UInt8} (hl : l.length < 4294967281) :
    Calls Tryz.prog F.strings_Split #[.string (mkS l), .string (mkS [c])] w (Ret [.at .sl] fun (r : Sl) w' => Ext w w' ∧ R w' r ((splitB c l).map mkS)) := by
  obtain ⟨m, hm⟩ := g.mx
  refine (Srt.strings_Split (mkS l) (mkS [c]) m w (by rw [mkS_size]; exact hl) hm (by rw [mkS_size]; simp)).mono ?_
  rintro e w' ⟨rfl, rfl⟩
  have hL : (Go.Lib.splitB (mkS [c]) 0 (Go.Lib.countB (mkS l) (mkS [c])) (mkS l)) = (splitB c l).map mkS := by
    have h1 : _ = Go.Lib.splitK [c] 0 (Go.Lib.count l [c]) l := Go.Lib.splitB_data (mkS [c]) 0 (Go.Lib.countB (mkS l) (mkS [c])) (mkS l)
    have h2 : Go.Lib.splitK [c] 0 (Go.Lib.count l [c]) l = splitB c l := split_eq c l
    rw [h2] at h1
    rw [← h1, List.map_map]
    refine (List.map_congr_left fun x _ => ?_).trans (List.map_id _) |>.symm
    exact mkS_of x
  have hlen : Go.Lib.countB (mkS l) (mkS [c]) + 1 = ((splitB c l).map mkS).length := by
    rw [← hL]
    exact (Go.Lib.splitB_all (mkS [c]) (by rw [mkS_size]; simp) 0 _ (mkS l) rfl).symm
  rw [hL, hlen]
  refine ⟨?_, ?_⟩
  · refine ⟨rfl, rfl, rfl, ?_, ?_⟩
    · show w.heap.size ≤ (w.heap.push _).size
      rw [Array.size_push]; omega
    · intro j hj
      show (w.heap.push _)[j]? = w.heap[j]?
      rw [Array.getElem?_push_lt hj]; simp [hj]
  · have hn : ((splitB c l).map mkS).length ≤ l.length + 1 := by rw [List.length_map]; exact splitB_len c l
    refine ⟨rfl, ⟨Nat.le_refl _, by show _ ≤ _; exact Nat.le_trans hn (by omega)⟩, fun i x hx => ⟨⟨w.heap.size, 0, none⟩, [.string x], rfl, trivial, rfl, fun j v hj => ?_⟩⟩
    have hj0 : j = 0 := by
      have := (List.getElem?_eq_some_iff.1 hj).1
      simpa using this
    subst hj0
    have hv : v = .string x := by simpa using hj.symm
    subst hv
    show (w.alloc _).cell? (Addr.add _ (i * 1 + 0)) = _
    rw [Nat.mul_one, Nat.add_zero]
    exact cell_pushed w _ _ (by rw [List.getElem?_map, hx]; rfl)

end Go.Proofs.YtnhidomgpbohiaaGreatDoor
end

section
/- Numbers and lines of words: both sides. -/
namespace Go.Proofs.YtnhidomgpbohiaaGreatDoor
open Go.GX Go.RowKit
open Go.Lib (decDigits)
set_option maxRecDepth 100000

theorem readNumber_ok {w : World} (g : GV w) {l : List UInt8} (hl : l.length ≤ 1099511627776) :
    Calls Tryz.prog F.i_readNumber #[.string (mkS l)] w (Ret [.at (.int .i64), .at .bool] fun (x : Int) (ok : Bool) w' => Ext w w' ∧ ((ok = true ∧ NumOf l x) ∨ (ok = false ∧ x = 0 ∧ ∀ y, ¬ NumOf l y))) := by
  refine C_i_readNumber ?_
  unfold V_i_readNumber
  have no : ∀ {w' : World}, Ext w w' → (∀ y, ¬ NumOf l y) → Ext w w' ∧ ((false = true ∧ NumOf l 0) ∨ (false = false ∧ (0 : Int) = 0 ∧ ∀ y, ¬ NumOf l y)) := fun hE h => ⟨hE, .inr ⟨rfl, rfl, h⟩⟩
  have num : ∀ {y}, NumOf l y → 1 ≤ l.length ∧ l.length ≤ 6 ∧ Go.Lib.atoi l = some y := by
    rintro y ⟨n, h1, rfl, rfl⟩
    exact ⟨List.length_pos_iff.2 (decDigits_ne n), decDigits_few.1 h1, atoi_digits n⟩
  rw [mkS_size]
  refine cond_dec (fun h => no (Ext.refl _) fun y hy => by have := num hy; omega) (fun h1 => ?_)
  refine cond_dec (fun h => no (Ext.refl _) fun y hy => by have := num hy; omega) (fun h6 => ?_)
  refine call (Atoi_ok g (l := l) (by omega)) ?_
  rintro x e w1 ⟨hE1, ha⟩
  change Int at x
  refine AEQ_err ?_
  rcases ha with ⟨ha, rfl⟩ | ⟨ha, he⟩
  · refine .inl ⟨rfl, cond_f rfl ?_⟩
    refine cond_dec (fun hneg => no hE1 fun y hy => ?_) (fun hpos => ?_)
    · have h2 := (num hy).2.2
      rw [ha] at h2
      have h3 := Option.some.inj h2
      have h4 := hy.range
      omega
    obtain ⟨n, rfl⟩ : ∃ n : Nat, x = n := ⟨x.toNat, by omega⟩
    have hn : (n : Int) ≤ 9223372036854775807 := by
      obtain ⟨b0, r, rfl, hc⟩ := Go.Lib.atoi_cases ha
      have key : ∀ (m : List UInt8) (k : Nat), m.length ≤ 6 → Go.Lib.decFrom 0 m = some k → k < 10000000 := fun m k hm hk => by
        have h1 := Go.Lib.decFrom_lt _ _ _ hk
        have h2 : (10 : Nat) ^ m.length ≤ 10 ^ 6 := Nat.pow_le_pow_right (by decide) hm
        have e : (10 : Nat) ^ 6 = 1000000 := by decide
        omega
      simp only [List.length_cons] at h6
      rcases hc with ⟨_, m, _, h1, h2⟩ | ⟨_, m, _, h1, h2⟩ | ⟨_, _, m, h1, h2⟩
      · omega
      · have := key r m (by omega) h1; omega
      · have := key (b0 :: r) m (by simp only [List.length_cons]; omega) h1; omega
    refine call (Itoa_ok (g.ext hE1).pow hn) ?_
    rintro _ w2 ⟨rfl, hE2⟩
    refine cond_sne (fun hne => no (hE1.trans hE2) fun y hy => ?_) (fun heq => ?_)
    · have h2 := (num hy).2.2
      rw [ha] at h2
      have h3 := Option.some.inj h2
      obtain ⟨m, _, h4, rfl⟩ := hy
      have : n = m := by omega
      subst this
      exact hne h4
    · exact ⟨hE1.trans hE2, .inl ⟨rfl, n, decDigits_few.2 (by rw [heq]; omega), heq, rfl⟩⟩
  · refine .inr ⟨he, cond_t rfl (no hE1 fun y hy => ?_)⟩
    have := (num hy).2.2
    rw [ha] at this; cases this

/-- What a list of words reads as. -/
def StarsAns (w : World) (base : Nat) (ws : List (List UInt8)) (r : Sl) (ok : Bool) : Prop :=
  (ok = true ∧ ∃ ns, StarsOf ws ns ∧ OwnL w base T.t_int r ns) ∨ (ok = false ∧ ∀ ns, ¬ StarsOf ws ns)

theorem stars_take {ws : List (List UInt8)} {ns : List Int} (h : StarsOf ws ns) {i : Nat} (hi : i < ws.length) : NumOf ws[i] (ns.getD i 0) ∨ (ws[i] = [42] ∧ ns.getD i 0 = -1) := by
  obtain ⟨rfl, h2⟩ := h
  have hi' : i < ns.length := by simpa using hi
  have e : ns.getD i 0 = ns[i] := by rw [List.getD_eq_getElem?_getD, List.getElem?_eq_getElem hi']; rfl
  rw [e, List.getElem_map]
  have := h2 ns[i] (List.getElem_mem hi')
  by_cases hn : ns[i] < 0
  · exact .inr ⟨numS_neg hn, by omega⟩
  · exact .inl ⟨ns[i].toNat, by omega, (numS_pos (by omega)).symm, by omega⟩

theorem stars_one {l : List UInt8} {x : Int} (h : NumOf l x ∨ (l = [42] ∧ x = -1)) : numS x = l ∧ -1 ≤ x ∧ x < 1000000 := by
  rcases h with ⟨n, h1, rfl, rfl⟩ | ⟨rfl, rfl⟩
  · exact ⟨numS_nat n, by omega, by omega⟩
  · exact ⟨rfl, by omega, by omega⟩

theorem starNumbers_ok {w : World} (g : GV w) {s : Sl} {ws : List (List UInt8)} (h : R w s (ws.map mkS)) (hl : ws.length ≤ 10000000) (hw : ∀ x ∈ ws, x.length ≤ 1099511627776) :
    Calls Tryz.prog F.i_starNumbers #[s.v] w (Ret [.at .sl, .at .bool] fun (r : Sl) (ok : Bool) w' => Ext w w' ∧ StarsAns w' w.heap.size ws r ok) := by
  refine C_i_starNumbers ?_
  unfold V_i_starNumbers
  rw [h.len, List.length_map]
  refine ⟨IN2 ws.length fun i (out : Sl) w' => Ext w w' ∧ ∃ ns, StarsOf (ws.take i) ns ∧ OwnL w' w.heap.size T.t_int out ns, MN2 ws.length, IN2_zero ⟨Ext.refl _, [], ⟨rfl, by simp⟩, OwnL.nil _ _ _⟩, ?_⟩
  rintro out _ w1 ⟨i, rfl, hi, hE1, ns, hst, hO1⟩
  intros
  have hz1 := hE1.size_le
  have hnl : ns.length = i := by
    have := congrArg List.length hst.1
    simpa [Nat.min_eq_left hi] using this
  refine cond_dec (fun hlt => ?_) (fun hge => ?_)
  rotate_left
  · have : i = ws.length := by omega
    subst this
    rw [List.take_length] at hst
    exact ⟨hE1, .inl ⟨rfl, ns, hst, hO1⟩⟩
  have hi' : i < ws.length := by omega
  have htk : ws.take (i + 1) = ws.take i ++ [ws[i]] := List.take_succ_eq_append_getElem hi'
  refine (h.ext hE1).ixS hi' fun q hc => LD_str hc ?_
  refine call (readNumber_ok (g.ext hE1) (hw _ (List.getElem_mem hi'))) ?_
  rintro x ok w2 ⟨hE2, hx⟩
  have hE02 := hE1.trans hE2
  -- one number more
  have push : ∀ (y : Int) {K : Sl → World → Prop}, (NumOf ws[i] y ∨ (ws[i] = [42] ∧ y = -1)) → (∀ r w', (Ext w w' ∧ ∃ ns, StarsOf (ws.take (i + 1)) ns ∧ OwnL w' w.heap.size T.t_int r ns) → K r w') →
      RUN Tryz.prog (.at .sl) (Instr.buildSlice T.t_sl_int 1 #[(0, .int .i64 y)]) w2 fun z w3 => RUN Tryz.prog (.at .sl) (bsem .append #[T.t_sl_int, T.t_sl_int] T.t_sl_int #[out.v, z.v]) w3 K := by
    intro y K hy hK
    have hy' := stars_one hy
    refine RUN_lit1 (α := Int) slt_int y rfl (by decide) fun z w3 hE3 hO3 => ?_
    have hz3 := hE3.size_le
    have hz2 := hE2.size_le
    have hOb := (hO1.ext hE2).ext hE3
    refine RUN_append (α := Int) slt_int hOb (by omega) (hO3.rep (by intro a ha; rw [List.mem_singleton.1 ha]; show I64 _; unfold I64; omega)).any (by simp; omega) (by simp [maxLen]; omega) fun r w4 hO4 hs4 => ?_
    refine hK r w4 ⟨hs4.ext0 (hE02.trans hE3) fun k hk => (hOb.blk k hk).1, ns ++ [y], ⟨?_, ?_⟩, hO4⟩
    · rw [htk, List.map_append, hst.1]; simp [hy'.1]
    · intro a ha
      rcases List.mem_append.1 ha with ha | ha
      · exact hst.2 a ha
      · rw [List.mem_singleton.1 ha]; exact hy'.2
  rw [mk_lit [42]]
  refine cond_seq (fun heq => ?_) (fun hne => ?_)
  · refine push (-1) (.inr ⟨heq, rfl⟩) fun r w4 hk => ?_
    exact IN2_next (by omega) hi' hk
  · refine cond_not (fun hf => ⟨hE02, .inr ⟨rfl, fun ms hms => ?_⟩⟩) (fun ht => ?_)
    · rcases stars_take hms hi' with h1 | h1
      · rcases hx with ⟨hx, _⟩ | ⟨_, _, hx⟩
        · rw [hx] at hf; cases hf
        · exact hx _ h1
      · exact hne h1.1
    · rcases hx with ⟨_, hx⟩ | ⟨hx, _⟩
      · refine push x (.inl hx) fun r w4 hk => ?_
        exact IN2_next (by omega) hi' hk
      · rw [hx] at ht; cases ht

theorem maNumbers_ok {w : World} {s : Sl} {ws : List (List UInt8)} (h : R w s (ws.map mkS)) (hl : ws.length ≤ 10000000) (hw : ∀ x ∈ ws, x.length ≤ 1099511627776) :
    Calls Tryz.prog F.s_maNumbers #[s.v] w (Ret [.at .sl, .at .bool] fun (r : Sl) (ok : Bool) w' => Ext w w' ∧ StarsAns w' w.heap.size ws r ok) := by
  refine C_s_maNumbers ?_
  unfold V_s_maNumbers
  rw [h.len, List.length_map]
  refine ⟨IN2 ws.length fun i (out : Sl) w' => Ext w w' ∧ ∃ ns, StarsOf (ws.take i) ns ∧ OwnL w' w.heap.size T.t_int out ns, MN2 ws.length, IN2_zero ⟨Ext.refl _, [], ⟨rfl, by simp⟩, OwnL.nil _ _ _⟩, ?_⟩
  rintro out _ w1 ⟨i, rfl, hi, hE1, ns, hst, hO1⟩
  intros
  have hz1 := hE1.size_le
  have hnl : ns.length = i := by
    have := congrArg List.length hst.1
    simpa [Nat.min_eq_left hi] using this
  refine cond_dec (fun hlt => ?_) (fun hge => ?_)
  rotate_left
  · have : i = ws.length := by omega
    subst this
    rw [List.take_length] at hst
    exact ⟨hE1, .inl ⟨rfl, ns, hst, hO1⟩⟩
  have hi' : i < ws.length := by omega
  have htk : ws.take (i + 1) = ws.take i ++ [ws[i]] := List.take_succ_eq_append_getElem hi'
  refine (h.ext hE1).ixS hi' fun q hc => LD_str hc ?_
  refine call (l1Read_ok (hw _ (List.getElem_mem hi'))) ?_
  rintro x w1 ⟨rfl, hx⟩
  change Int at x
  have push : (NumOf ws[i] x ∨ (ws[i] = [42] ∧ x = -1)) → V_s_maNumbers_k4 (IN2 ws.length fun i (out : Sl) w' => Ext w w' ∧ ∃ ns, StarsOf (ws.take i) ns ∧ OwnL w' w.heap.size T.t_int out ns) (MN2 ws.length) (i : Int) w1 out x w1 := by
    intro hy
    have hy' := stars_one hy
    unfold V_s_maNumbers_k4
    refine RUN_lit1 (α := Int) slt_int x rfl (by decide) fun z w3 hE3 hO3 => ?_
    have hz3 := hE3.size_le
    have hOb := hO1.ext hE3
    refine RUN_append (α := Int) slt_int hOb (by omega) (hO3.rep (by intro a ha; rw [List.mem_singleton.1 ha]; show I64 _; unfold I64; omega)).any (by simp; omega) (by simp [maxLen]; omega) fun r w4 hO4 hs4 => ?_
    refine IN2_next (by omega) hi' ⟨hs4.ext0 (hE1.trans hE3) fun k hk => (hOb.blk k hk).1, ns ++ [x], ⟨?_, ?_⟩, hO4⟩
    · rw [htk, List.map_append, hst.1]; simp [hy'.1]
    · intro a ha
      rcases List.mem_append.1 ha with ha | ha
      · exact hst.2 a ha
      · rw [List.mem_singleton.1 ha]; exact hy'.2
  rw [mk_lit [42]]
  refine cond_dec (fun hneg => ?_) (fun hpos => ?_)
  · refine cond_sne (fun hne => ⟨hE1, .inr ⟨rfl, fun ms hms => ?_⟩⟩) (fun heq => push (.inr ⟨heq, ?_⟩))
    · rcases stars_take hms hi' with h1 | h1
      · rcases hx with hx | ⟨_, hx⟩
        · have := hx.range; omega
        · exact hx _ h1
      · exact hne h1.1
    · rcases hx with hx | hx
      · have := hx.range; omega
      · exact hx.1
  · rcases hx with hx | hx
    · exact push (.inl hx)
    · omega

/-! ### Lines written -/

theorem wordsLine_ok {w : World} (g : GP w) {wd : List UInt8} {s : Sl} {ns : List Int} (h : R w s ns) (hn : ∀ x ∈ ns, -1 ≤ x ∧ x < 1000000) (hl : ns.length ≤ 10000000) (hwd : wd.length ≤ 10000000) :
    Calls Tryz.prog F.i_wordsLine #[.string (mkS wd), s.v] w (Ret [.at .str] fun (r : ByteArray) w' => r = mkS (lineS wd ns) ∧ Ext w w') := by
  refine C_i_wordsLine ?_
  unfold V_i_wordsLine
  rw [h.len]
  refine ⟨IN2 ns.length fun i (out : ByteArray) w' => Ext w w' ∧ out = mkS (lineS wd (ns.take i)), MN2 ns.length, IN2_zero ⟨Ext.refl _, by simp [lineS]⟩, ?_⟩
  rintro _ _ w1 ⟨i, rfl, hi, hE1, rfl⟩
  intros
  have hln := lineS_len wd (l := ns.take i) fun x hx => (hn x (List.mem_of_mem_take hx)).2
  rw [List.length_take] at hln
  refine cond_dec (fun hlt => ?_) (fun hge => ?_)
  rotate_left
  · have : i = ns.length := by omega
    subst this
    rw [List.take_length]
    exact ⟨rfl, hE1⟩
  have hi' : i < ns.length := by omega
  have htk : ns.take (i + 1) = ns.take i ++ [ns[i]] := List.take_succ_eq_append_getElem hi'
  have hx := hn ns[i] (List.getElem_mem hi')
  have hx6 := numS_len hx.2
  refine (h.ext hE1).ixI hi' fun q hq hc => LD_int hc ?_
  rw [mk_lit [32, 42], mk_lit [32]]
  refine cond_eq (fun heq => ?_) (fun hne => ?_)
  · refine ⟨by rw [mkS_size, mkS_size]; simp; omega, IN2_next (by omega) hi' ⟨hE1, ?_⟩⟩
    rw [mkS_app, htk, lineS_snoc, heq]; rfl
  · obtain ⟨n, hnn⟩ : ∃ n : Nat, ns[i] = n := ⟨ns[i].toNat, by omega⟩
    rw [hnn] at hx6 ⊢
    rw [numS_nat] at hx6
    refine call (Itoa_ok (g.ext hE1) (by omega)) ?_
    rintro _ w2 ⟨rfl, hE2⟩
    refine ⟨by rw [mkS_size, mkS_size]; simp; omega, ?_⟩
    rw [mkS_app]
    refine ⟨by rw [mkS_size, mkS_size]; simp; omega, IN2_next (by omega) hi' ⟨hE1.trans hE2, ?_⟩⟩
    rw [mkS_app, htk, lineS_snoc, hnn, numS_nat]; rfl

theorem maLine_ok {w : World} {wd : List UInt8} {s : Sl} {ns : List Int} (h : R w s ns) (hn : ∀ x ∈ ns, -1 ≤ x ∧ x < 1000000) (hl : ns.length ≤ 10000000) (hwd : wd.length ≤ 10000000) :
    Calls Tryz.prog F.s_maLine #[.string (mkS wd), s.v] w (Ret [.at .str] fun (r : ByteArray) w' => r = mkS (lineS wd ns) ∧ Ext w w') := by
  refine C_s_maLine ?_
  unfold V_s_maLine
  rw [h.len]
  refine ⟨IN2 ns.length fun i (out : ByteArray) w' => Ext w w' ∧ out = mkS (lineS wd (ns.take i)), MN2 ns.length, IN2_zero ⟨Ext.refl _, by simp [lineS]⟩, ?_⟩
  rintro _ _ w1 ⟨i, rfl, hi, hE1, rfl⟩
  intros
  have hln := lineS_len wd (l := ns.take i) fun x hx => (hn x (List.mem_of_mem_take hx)).2
  rw [List.length_take] at hln
  refine cond_dec (fun hlt => ?_) (fun hge => ?_)
  rotate_left
  · have : i = ns.length := by omega
    subst this
    rw [List.take_length]
    exact ⟨rfl, hE1⟩
  have hi' : i < ns.length := by omega
  have htk : ns.take (i + 1) = ns.take i ++ [ns[i]] := List.take_succ_eq_append_getElem hi'
  have hx := hn ns[i] (List.getElem_mem hi')
  have hx6 := numS_len hx.2
  refine (h.ext hE1).ixI hi' fun q hq hc => LD_int hc ?_
  rw [mk_lit [32, 42], mk_lit [32]]
  refine cond_dec (fun hneg => ?_) (fun hpos => ?_)
  · refine ⟨by rw [mkS_size, mkS_size]; simp; omega, IN2_next (by omega) hi' ⟨hE1, ?_⟩⟩
    rw [mkS_app, htk, lineS_snoc, numS_neg hneg]
  · obtain ⟨n, hnn⟩ : ∃ n : Nat, ns[i] = n := ⟨ns[i].toNat, by omega⟩
    rw [hnn] at hx6 ⊢
    rw [numS_nat] at hx6
    refine call (l1Num_ok n (by omega) w1) ?_
    rintro _ w2 ⟨rfl, hE2⟩
    refine ⟨by rw [mkS_size, mkS_size]; simp; omega, ?_⟩
    rw [mkS_app]
    refine ⟨by rw [mkS_size, mkS_size]; simp; omega, IN2_next (by omega) hi' ⟨hE1.trans hE2, ?_⟩⟩
    rw [mkS_app, htk, lineS_snoc, hnn, numS_nat]; rfl

/-! ### Joining, ended lines -/

theorem Join_ok {w : World} {base : Nat} {s : Sl} {L : List (List UInt8)} {sep : List UInt8} (h : OwnL w base T.t_string s (L.map mkS)) (hl : (sep.intercalate L).length ≤ 140737488355328) (hL : L.length ≤ 140737488355328) :
    Calls Tryz.prog F.strings_Join #[s.v, .string (mkS sep)] w (Ret [.at .str] fun (r : ByteArray) w' => r = mkS (sep.intercalate L) ∧ Ext w w') := by
  rcases h.2.2 with ⟨hv, h0⟩ | ⟨g, cap, cur, hv, hb, hg, hle, hmx, hsz, htake⟩
  · have hnil : L = [] := by
      have := h.1
      rw [List.length_map] at this
      exact List.length_eq_zero_iff.1 (by omega)
    subst hnil
    have hlen : s.len = 0 := h0
    have hsv : s.v = .slice s.a 0 s.cap := by rw [← hlen]
    rw [hsv]
    refine (Srt.strings_Join_none s.a s.cap (mkS sep) w).mono ?_
    rintro e w' ⟨rfl, rfl⟩
    exact ⟨rfl, Ext.refl _⟩
  · have hsv : s.v = .slice (some ⟨g, 0, none⟩) (L.map mkS).length cap := by rw [← h.1]; exact hv
    rw [hsv]
    have hlist : (L.map mkS).map (fun x => x.data.toList) = L := by
      rw [List.map_map]
      exact (List.map_congr_left fun x _ => mkS_data x).trans (List.map_id _)
    have hflat : ∀ l : List ByteArray, l.flatMap Flat.cells = l.map Value.string := fun l => by
      induction l with
      | nil => rfl
      | cons x l ih => rw [List.flatMap_cons, ih]; rfl
    refine (Srt.strings_Join g 0 cap (L.map mkS) (mkS sep) w ?_ (Array.getElem?_eq_some_iff.1 hg).1 (by rw [List.length_map]; exact hL) (by rw [← h.1]; exact hle) (by rw [hlist, mkS_data]; exact hl)).mono ?_
    · intro j x hx
      rw [Nat.zero_add]
      have hj : j < (L.map mkS).length := (List.getElem?_eq_some_iff.1 hx).1
      have h1 : cur.toList[j]? = some (.string x) := by
        have h2 : (cur.toList.take (s.len * Rep.sz ByteArray))[j]? = some (.string x) := by
          rw [htake, hflat, List.getElem?_map, hx]; rfl
        rw [List.getElem?_take] at h2
        split at h2
        · exact h2
        · cases h2
      simp only [World.cell?, hg]
      simpa using h1
    · rintro e w' ⟨rfl, hE⟩
      rw [hlist, mkS_data]
      exact ⟨rfl, hE⟩

theorem CutSuffix_ok {w : World} {l p : List UInt8} (hl : l.length ≤ 9223372036854775807) :
    Calls Tryz.prog F.strings_CutSuffix #[.string (mkS l), .string (mkS p)] w (Ret [.at .str, .at .bool] fun (r : ByteArray) (ok : Bool) w' => w' = w ∧ ((ok = true ∧ ∃ x, l = x ++ p ∧ r = mkS x) ∨ (ok = false ∧ ∀ x, l ≠ x ++ p))) := by
  refine (Srt.strings_CutSuffix (mkS l) (mkS p) w hl).mono ?_
  rintro e w' ⟨rfl, rfl⟩
  refine ⟨rfl, ?_⟩
  rw [mkS_data, mkS_data]
  cases h : Go.Lib.hasSuffix l p with
  | true =>
    obtain ⟨x, hx⟩ := List.isSuffixOf_iff_suffix.1 h
    refine .inl ⟨rfl, x, hx.symm, ?_⟩
    unfold Go.Lib.trimSuffix
    rw [if_pos h, ← hx]
    have : (x ++ p).take ((x ++ p).length - p.length) = x := by simp
    rw [this]; rfl
  | false =>
    refine .inr ⟨rfl, fun x hx => ?_⟩
    have : Go.Lib.hasSuffix l p = true := List.isSuffixOf_iff_suffix.2 ⟨x, hx.symm⟩
    rw [h] at this; cases this

theorem endedLines_ok {w : World} (g : GV w) {l : List UInt8} (hl : l.length < 4294967281) :
    Calls Tryz.prog F.i_endedLines #[.string (mkS l)] w (Ret [.at .sl, .at .bool] fun (r : Sl) (ok : Bool) w' => Ext w w' ∧ ((ok = true ∧ ∃ x, l = x ++ [10] ∧ R w' r ((splitB 10 x).map mkS)) ∨ (ok = false ∧ ∀ x, l ≠ x ++ [10]))) := by
  refine C_i_endedLines ?_
  unfold V_i_endedLines
  rw [mk_lit [10]]
  refine call (CutSuffix_ok (by omega)) ?_
  rintro r ok _ ⟨rfl, hr⟩
  refine cond_not (fun hf => ?_) (fun ht => ?_)
  · rcases hr with ⟨hr, _⟩ | ⟨_, hr⟩
    · rw [hr] at hf; cases hf
    · exact ⟨Ext.refl _, .inr ⟨rfl, hr⟩⟩
  · rcases hr with ⟨_, x, hx, rfl⟩ | ⟨hr, _⟩
    · refine call (Split_ok g (l := x) (c := 10) (by rw [hx] at hl; simp at hl; omega)) ?_
      rintro r w2 ⟨hE, hR⟩
      exact ⟨hE, .inl ⟨rfl, x, hx, hR⟩⟩
    · rw [hr] at ht; cases ht

end Go.Proofs.YtnhidomgpbohiaaGreatDoor
end

section
/- Sets of labels as numbers, in plain words: no program in sight. -/
namespace Go.Proofs.YtnhidomgpbohiaaGreatDoor
open Go.GX

/-- The set of the numbers below another one that a test tells. -/
def maskOf : Nat → (Nat → Bool) → Nat
  | 0, _ => 0
  | n + 1, f => maskOf n f ||| (if f n then 2 ^ n else 0)

inductive Two2 {α β : Type} (R : α → β → Prop) : List α → List β → Prop
  | nil : Two2 R [] []
  | cons {x : α} {y : β} {l : List α} {m : List β} : R x y → Two2 R l m → Two2 R (x :: l) (y :: m)

theorem Two2.length {α β : Type} {R : α → β → Prop} {l : List α} {m : List β} (h : Two2 R l m) : l.length = m.length := by
  induction h with
  | nil => rfl
  | cons _ _ ih => simp [ih]

end Go.Proofs.YtnhidomgpbohiaaGreatDoor
end

section
/- Sets of labels by predicates; labels of a set, up to twelve. -/
namespace Go.Proofs.YtnhidomgpbohiaaGreatDoor
open Go.GX Go.RowKit
set_option maxRecDepth 100000

noncomputable def maskP (n : Nat) (P : Nat → Prop) : Nat := by
  classical exact maskOf n fun a => decide (P a)
/-! ### The labels of a set -/

end Go.Proofs.YtnhidomgpbohiaaGreatDoor
end

section
/- When a network is a network: both sides' tests, and the laws' tests of nodes and ports. -/
namespace Go.Proofs.YtnhidomgpbohiaaGreatDoor
open Go.GX Go.RowKit
set_option maxRecDepth 100000

abbrev Ends := List (List (Int × Int))

/-- The far end of port i of node v. -/
def port (E : Ends) (v i : Nat) : Option (Int × Int) := (E[v]?).bind (·[i]?)

theorem port_get {E : Ends} {v i : Nat} (hv : v < E.length) (hi : i < E[v].length) : port E v i = some E[v][i] := by
  simp [port, hv, hi]

theorem port_some {E : Ends} {v i : Nat} {e : Int × Int} (h : port E v i = some e) : ∃ (hv : v < E.length) (hi : i < E[v].length), E[v][i] = e := by
  unfold port at h
  by_cases hv : v < E.length
  · by_cases hi : i < E[v].length
    · simp [hv, hi] at h; exact ⟨hv, hi, h⟩
    · simp [hv, hi] at h
  · simp [hv] at h

/-- The far end leads back. -/
def Back (E : Ends) (v i : Nat) (e : Int × Int) : Prop := ∃ a b : Nat, e = ((a : Int), (b : Int)) ∧ port E a b = some ((v : Int), (i : Int))

def RowOk (E : Ends) (v : Nat) : Prop := (∀ r, E[v]? = some r → r.length ≤ 6) ∧ ∀ i e, port E v i = some e → Back E v i e

structure Good (n : Net) : Prop where
  size : 1 ≤ n.ends.length ∧ n.ends.length ≤ 40
  ids : IdsOk n.ids n.ends.length
  inputs : n.inputs.length = n.ends.length ∧ AllIn n.inputs 0 9
  rows : ∀ v < n.ends.length, RowOk n.ends v

theorem Good.deg {n : Net} (h : Good n) {v : Nat} (hv : v < n.ends.length) : n.ends[v].length ≤ 6 := (h.rows v hv).1 _ (by simp [hv])
theorem Good.back {n : Net} (h : Good n) {v i : Nat} (hv : v < n.ends.length) (hi : i < n.ends[v].length) : Back n.ends v i n.ends[v][i] := (h.rows v hv).2 i _ (port_get hv hi)

/-- Port numbers as whole numbers. -/
def portZ (E : Ends) (v i : Int) : Option (Int × Int) := if 0 ≤ v ∧ 0 ≤ i then port E v.toNat i.toNat else none

/-- Two answers of a test: the answer, and whether it was asked rightly. -/
def Ans2 (g p : Prop) (x ok : Bool) : Prop := (x = true ↔ g ∧ p) ∧ (ok = true ↔ g)

theorem Ans2.eq {g p : Prop} {x ok x' ok' : Bool} (h : Ans2 g p x ok) (h' : Ans2 g p x' ok') : x = x' ∧ ok = ok' :=
  ⟨Bool.eq_iff_iff.2 (h.1.trans h'.1.symm), Bool.eq_iff_iff.2 (h.2.trans h'.2.symm)⟩

theorem Ans2.no {g p : Prop} (h : ¬ g) : Ans2 g p false false := ⟨by simp [h], by simp [h]⟩
theorem Ans2.mk {g p : Prop} {x : Bool} (h : g) (hx : x = true ↔ p) : Ans2 g p x true := ⟨by simp [h, hx], by simp [h]⟩

end Go.Proofs.YtnhidomgpbohiaaGreatDoor
end

section
/- What a node's neighbours bear: both sides' walks over ports; the tests IsDefective and IsWeak. -/
namespace Go.Proofs.YtnhidomgpbohiaaGreatDoor
open Go.GX Go.RowKit
set_option maxRecDepth 100000

def rowOf (E : Ends) (v : Nat) : List (Int × Int) := E.getD v []
theorem rowOf_get {E : Ends} {v : Nat} (h : v < E.length) : rowOf E v = E[v] := by simp [rowOf, h]

/-- What lies at the far ends of a node's ports. -/
def nearOf (E : Ends) (l : List Int) (v : Nat) : List Int := (rowOf E v).map fun e => l.getD e.1.toNat 0
/-- The nodes at the far ends of a node's ports. -/
def adjOf (E : Ends) (v : Nat) : List Int := (rowOf E v).map (·.1)

theorem Good.far {n : Net} (hg : Good n) {v i : Nat} (hv : v < n.ends.length) (hi : i < n.ends[v].length) : ∃ x y : Nat, n.ends[v][i] = ((x : Int), (y : Int)) ∧ x < n.ends.length ∧ port n.ends x y = some ((v : Int), (i : Int)) := by
  obtain ⟨x, y, hxy, hb⟩ := hg.back hv hi
  obtain ⟨hx, _⟩ := port_some hb
  exact ⟨x, y, hxy, hx, hb⟩

theorem adj_len {n : Net} (_ : Good n) {v : Nat} (hv : v < n.ends.length) : (adjOf n.ends v).length = n.ends[v].length := by
  unfold adjOf; rw [rowOf_get hv]; simp

theorem near_adj (E : Ends) (l : List Int) (v : Nat) : nearOf E l v = (adjOf E v).map fun u => l.getD u.toNat 0 := by
  unfold nearOf adjOf; rw [List.map_map]; rfl

/-! ### Colours -/

structure ColoursOk (n : Net) (l : List Int) : Prop where
  good : Good n
  len : l.length = n.ends.length
  all : AllIn l 0 1000000000000

/-! ### IsDefective -/

/-! ### IsWeak -/

end Go.Proofs.YtnhidomgpbohiaaGreatDoor
end

section
/- Distances in a network, and the search that finds them, in plain words: no program in sight. -/
namespace Go.Proofs.YtnhidomgpbohiaaGreatDoor

/-- A walk of k steps from v to x. -/
def Reach (E : Ends) (v : Nat) : Nat → Nat → Prop
  | 0, x => x = v
  | k + 1, x => ∃ y, Reach E v k y ∧ (x : Int) ∈ adjOf E y

/-- The list of all distances from v: -1 where no walk leads. -/
structure Dists (E : Ends) (v : Nat) (D : List Int) : Prop where
  len : D.length = E.length
  low : ∀ u, -1 ≤ D.getD u (-1)
  sound : ∀ u d : Nat, D.getD u (-1) = d → Reach E v d u
  least : ∀ k x, Reach E v k x → 0 ≤ D.getD x (-1) ∧ D.getD x (-1) ≤ k

theorem Dists.eq {E : Ends} {v : Nat} {D D' : List Int} (h : Dists E v D) (h' : Dists E v D') : D = D' := by
  have key : ∀ {A B : List Int}, Dists E v A → Dists E v B → ∀ u, 0 ≤ A.getD u (-1) → 0 ≤ B.getD u (-1) ∧ B.getD u (-1) ≤ A.getD u (-1) := by
    intro A B hA hB u hu
    obtain ⟨d, hd⟩ := Int.eq_ofNat_of_zero_le hu
    have := hB.least d u (hA.sound u d hd)
    rw [hd]
    exact this
  apply List.ext_getElem (by rw [h.len, h'.len])
  intro i h1 h2
  have e1 : D.getD i (-1) = D[i] := by simp [h1]
  have e2 : D'.getD i (-1) = D'[i] := by simp [h2]
  rw [← e1, ← e2]
  have l1 := h.low i
  have l2 := h'.low i
  by_cases hu : 0 ≤ D.getD i (-1)
  · have k1 := key h h' i hu
    have k2 := key h' h i k1.1
    omega
  · by_cases hu' : 0 ≤ D'.getD i (-1)
    · have k2 := key h' h i hu'
      omega
    · omega

/-- The distance of the queue's i-th node. -/
def dv (D W : List Int) (i : Nat) : Int := D.getD (W.getD i 0).toNat (-1)

/-- The search's state: the nodes found so far, in order; their distances; how many have been looked at. -/
structure Bfs (E : Ends) (v : Nat) (W D : List Int) (k : Nat) : Prop where
  len : D.length = E.length
  le : k ≤ W.length
  nodes : ∀ x ∈ W, ∃ u : Nat, x = u ∧ u < E.length
  nodup : W.Nodup
  mem : ∀ u : Nat, u < E.length → ((u : Int) ∈ W ↔ 0 ≤ D.getD u (-1))
  root : (v : Int) ∈ W
  zero : D.getD v (-1) = 0
  low : ∀ u, -1 ≤ D.getD u (-1)
  sound : ∀ u d : Nat, D.getD u (-1) = d → Reach E v d u
  mono : ∀ i j, i ≤ j → j < W.length → dv D W i ≤ dv D W j
  cap : k < W.length → ∀ j < W.length, dv D W j ≤ dv D W k + 1
  done : ∀ i < k, ∀ u : Nat, (u : Int) ∈ adjOf E (W.getD i 0).toNat → 0 ≤ D.getD u (-1) ∧ D.getD u (-1) ≤ dv D W i + 1
  small : ∀ u, D.getD u (-1) < W.length

theorem getD_set {D : List Int} {y : Nat} (hy : y < D.length) (x : Int) (u : Nat) : (D.set y x).getD u (-1) = if u = y then x else D.getD u (-1) := by
  by_cases h : u = y
  · subst h; simp [hy]
  · simp [h, List.getElem?_set_ne (Ne.symm h)]

section
variable {E : Ends} {v k : Nat} {W D : List Int}

theorem Bfs.node (h : Bfs E v W D k) {i : Nat} (hi : i < W.length) : ∃ u : Nat, W[i] = u ∧ W.getD i 0 = u ∧ u < E.length ∧ 0 ≤ D.getD u (-1) ∧ dv D W i = D.getD u (-1) := by
  obtain ⟨u, hu, hul⟩ := h.nodes W[i] (List.getElem_mem hi)
  have hg : W.getD i 0 = u := by simp [hi, hu]
  refine ⟨u, hu, hg, hul, (h.mem u hul).1 (by rw [← hu]; exact List.getElem_mem hi), ?_⟩
  unfold dv
  rw [hg]
  simp

/-- A neighbour that is found now. -/
theorem Bfs.add (h : Bfs E v W D k) (hk : k < W.length) {y : Nat} (hy : y < E.length) (ha : (y : Int) ∈ adjOf E (W.getD k 0).toNat) (hn : D.getD y (-1) < 0) :
    Bfs E v (W ++ [(y : Int)]) (D.set y (dv D W k + 1)) k := by
  have hyD : y < D.length := by rw [h.len]; exact hy
  have hg := getD_set hyD (dv D W k + 1)
  obtain ⟨c, _, hck, hcl, hc0, hcd⟩ := h.node hk
  have hdk : 0 ≤ dv D W k := by omega
  have hold : ∀ i, i < W.length → (W ++ [(y : Int)]).getD i 0 = W.getD i 0 := by
    intro i hi
    simp [List.getElem?_append_left hi]
  have hnew : (W ++ [(y : Int)]).getD W.length 0 = y := by simp
  have hdo : ∀ i, i < W.length → dv (D.set y (dv D W k + 1)) (W ++ [(y : Int)]) i = dv D W i := by
    intro i hi
    obtain ⟨u, _, hu, _, hu0, hud⟩ := h.node hi
    show (D.set y (dv D W k + 1)).getD ((W ++ [(y : Int)]).getD i 0).toNat (-1) = D.getD (W.getD i 0).toNat (-1)
    rw [hold i hi, hu, hg]
    simp only [Int.toNat_natCast]
    rw [if_neg (fun he => by subst he; omega)]
  have hdn : dv (D.set y (dv D W k + 1)) (W ++ [(y : Int)]) W.length = dv D W k + 1 := by
    show (D.set y (dv D W k + 1)).getD ((W ++ [(y : Int)]).getD W.length 0).toNat (-1) = _
    rw [hnew, hg]; simp
  have hyW : (y : Int) ∉ W := fun hm => by have := (h.mem y hy).1 hm; omega
  refine ⟨by simp [h.len], by have := h.le; simp; omega, ?_, ?_, ?_, by simp [h.root], ?_, ?_, ?_, ?_, ?_, ?_, ?_⟩
  · intro x hx
    rcases List.mem_append.1 hx with h1 | h1
    · exact h.nodes x h1
    · exact ⟨y, by simpa using h1, hy⟩
  · rw [List.nodup_append]
    refine ⟨h.nodup, by simp, fun a ha b hb hab => ?_⟩
    rw [List.mem_singleton.1 hb] at hab
    subst hab
    exact hyW ha
  · intro u hu
    rw [hg, List.mem_append, h.mem u hu]
    by_cases he : u = y
    · subst he; simp; omega
    · simp [he]
      omega
  · rw [hg]
    have := h.zero
    rw [if_neg (fun he => by subst he; omega)]
    exact h.zero
  · intro u
    rw [hg]
    split
    · omega
    · exact h.low u
  · intro u d hd
    rw [hg] at hd
    split at hd
    · rename_i he
      subst he
      obtain ⟨e, he⟩ := Int.eq_ofNat_of_zero_le hdk
      obtain rfl : d = e + 1 := by omega
      refine ⟨c, h.sound c e (by rw [← hcd]; exact he), ?_⟩
      rw [hck] at ha
      simpa using ha
    · exact h.sound u d hd
  · intro i j hij hj
    simp at hj
    rcases Nat.lt_or_eq_of_le (Nat.le_of_lt_succ hj) with h1 | h1
    · rw [hdo i (by omega), hdo j h1]; exact h.mono i j hij h1
    · subst h1
      rw [hdn]
      rcases Nat.lt_or_eq_of_le hij with h2 | h2
      · rw [hdo i h2]; exact h.cap hk i h2
      · subst h2; rw [hdn]; exact Int.le_refl _
  · intro _ j hj
    simp at hj
    rw [hdo k hk]
    rcases Nat.lt_or_eq_of_le (Nat.le_of_lt_succ hj) with h1 | h1
    · rw [hdo j h1]; exact h.cap hk j h1
    · subst h1; rw [hdn]; exact Int.le_refl _
  · intro i hi u hu
    rw [hold i (by omega)] at hu
    have := h.done i hi u hu
    rw [hdo i (by omega), hg]
    rw [if_neg (fun he => by subst he; omega)]
    exact this
  · intro u
    rw [hg]
    have h1 := h.small u
    have h2 := h.small c
    simp only [List.length_append, List.length_singleton]
    push_cast
    split <;> omega

/-- All neighbours have been looked at. -/
theorem Bfs.next (h : Bfs E v W D k) (hk : k < W.length) (ha : ∀ u : Nat, (u : Int) ∈ adjOf E (W.getD k 0).toNat → 0 ≤ D.getD u (-1) ∧ D.getD u (-1) ≤ dv D W k + 1) : Bfs E v W D (k + 1) :=
  { h with
    le := hk
    cap := fun hk' j hj => by
      have h1 := h.cap hk j hj
      have h2 := h.mono k (k + 1) (by omega) hk'
      omega
    done := fun i hi u hu => by
      rcases Nat.lt_or_eq_of_le (Nat.le_of_lt_succ hi) with h1 | h1
      · exact h.done i h1 u hu
      · subst h1; exact ha u hu }

theorem adj_lt {y x : Nat} (h : (x : Int) ∈ adjOf E y) : y < E.length := by
  by_cases hy : y < E.length
  · exact hy
  · unfold adjOf rowOf at h
    simp [hy] at h

theorem Bfs.end (h : Bfs E v W D W.length) : Dists E v D := by
  refine ⟨h.len, h.low, h.sound, ?_⟩
  intro j
  induction j with
  | zero =>
    intro x hx
    have hx' : x = v := hx
    subst hx'
    rw [h.zero]
    exact ⟨by omega, by omega⟩
  | succ j ih =>
    rintro x ⟨y, hy, hx⟩
    have hyl := adj_lt hx
    obtain ⟨h0, h1⟩ := ih y hy
    obtain ⟨i, hi, hiy⟩ := List.mem_iff_getElem.1 ((h.mem y hyl).2 h0)
    obtain ⟨u, hu, hug, _, _, hd⟩ := h.node hi
    obtain rfl : u = y := by rw [hiy] at hu; omega
    have := h.done i hi x (by rw [hug]; simpa using hx)
    rw [hd] at this
    refine ⟨this.1, ?_⟩
    have h2 := this.2
    push_cast
    omega

theorem nodup_length : ∀ (n : Nat) (l : List Nat), l.Nodup → (∀ x ∈ l, x < n) → l.length ≤ n
  | 0, l, _, h => by
    cases l with
    | nil => simp
    | cons x r => exact absurd (h x (by simp)) (by omega)
  | n + 1, l, hd, h => by
    have h1 := nodup_length n (l.erase n) (hd.erase n) (fun x hx => by
      have hm := (hd.mem_erase_iff).1 hx
      have := h x hm.2
      omega)
    have h2 : l.length ≤ (l.erase n).length + 1 := by
      rw [List.length_erase]
      split <;> omega
    omega

theorem Bfs.size (h : Bfs E v W D k) : W.length ≤ E.length := by
  have := nodup_length E.length (W.map Int.toNat) (by
    rw [List.nodup_iff_pairwise_ne, List.pairwise_map]
    refine (List.nodup_iff_pairwise_ne.1 h.nodup).imp_of_mem ?_
    intro a b ha hb hab he
    obtain ⟨x, rfl, _⟩ := h.nodes a ha
    obtain ⟨y, rfl, _⟩ := h.nodes b hb
    simp at he
    exact hab (by omega)) (by
    intro x hx
    obtain ⟨a, ha, rfl⟩ := List.mem_map.1 hx
    obtain ⟨u, rfl, hu⟩ := h.nodes a ha
    simpa using hu)
  simpa using this
end

end Go.Proofs.YtnhidomgpbohiaaGreatDoor
end

section
/- Plain facts on walks: shortening, components, periods, flexible labels. No program in sight. -/
namespace Go.Proofs.YtnhidomgpbohiaaGreatDoor
set_option maxRecDepth 100000

/-- A walk of some length. -/
def Wk (E : Nat → Nat → Prop) : Nat → Nat → Nat → Prop
  | 0, a, b => a = b
  | k + 1, a, b => ∃ c, Wk E k a c ∧ E c b

section
variable {E : Nat → Nat → Prop} {a b c r u v j k n : Nat}

theorem Wk.cat (h : Wk E j a b) : ∀ {k c}, Wk E k b c → Wk E (j + k) a c
  | 0, _, h2 => by cases h2; exact h
  | k + 1, _, ⟨d, h2, h3⟩ => ⟨d, Wk.cat h h2, h3⟩
theorem Wk.one (h : E a b) : Wk E 1 a b := ⟨a, rfl, h⟩
theorem Wk.cons (h : E a b) (h2 : Wk E k b c) : Wk E (k + 1) a c := by
  have := (Wk.one h).cat h2
  rwa [Nat.add_comm] at this
theorem Wk.lt (hE : ∀ x y, E x y → y < n) : ∀ {k b}, Wk E k a b → 1 ≤ k → b < n
  | _ + 1, _, ⟨_, _, h⟩, _ => hE _ _ h
/-- The labels of a walk. -/
theorem Wk.path : ∀ {k b}, Wk E k a b → ∃ v : Nat → Nat, v 0 = a ∧ v k = b ∧ ∀ i, i < k → E (v i) (v (i + 1))
  | 0, _, h => by cases h; exact ⟨fun _ => a, rfl, rfl, fun i hi => by omega⟩
  | k + 1, b, ⟨c, h, he⟩ => by
    obtain ⟨v, h0, hk, hs⟩ := Wk.path h
    refine ⟨fun i => if i = k + 1 then b else v i, ?_, ?_, fun i hi => ?_⟩
    · simp only [if_neg (show (0 : Nat) ≠ k + 1 by omega)]; exact h0
    · simp
    · by_cases hi2 : i = k
      · subst hi2
        simp only [if_neg (show i ≠ i + 1 by omega), if_true]
        rw [hk]; exact he
      · simp only [if_neg (show i ≠ k + 1 by omega), if_neg (show i + 1 ≠ k + 1 by omega)]
        exact hs i (by omega)
/-- Labels that walks lead to and from. -/
def Comp (E : Nat → Nat → Prop) (r b : Nat) : Prop := (∃ k, Wk E k r b) ∧ ∃ k, Wk E k b r
theorem Comp.refl : Comp E r r := ⟨⟨0, rfl⟩, ⟨0, rfl⟩⟩
theorem Comp.symm (h : Comp E a b) : Comp E b a := ⟨h.2, h.1⟩
theorem Comp.trans (h : Comp E a b) (h2 : Comp E b c) : Comp E a c := by
  obtain ⟨⟨j, p⟩, k, q⟩ := h
  obtain ⟨⟨j', p'⟩, k', q'⟩ := h2
  exact ⟨⟨_, p.cat p'⟩, _, q'.cat q⟩

/-- A divisor of the lengths of closed walks. -/
def PerDiv (E : Nat → Nat → Prop) (r g : Nat) : Prop := ∀ k, Wk E k r r → g ∣ k
def Flex (E : Nat → Nat → Prop) (a : Nat) : Prop := (∃ k, 0 < k ∧ Wk E k a a) ∧ ∀ g, PerDiv E a g → g = 1

end

noncomputable def flexL (E : Nat → Nat → Prop) (n : Nat) : List Int := by
  classical exact ((List.range n).filter (fun a => decide (Flex E a))).map fun a : Nat => (a : Int)

/-! ### Components by their roots -/

noncomputable def compL (E : Nat → Nat → Prop) (n r : Nat) : List Int := by
  classical exact ((List.range n).filter (fun a => decide (Comp E r a))).map fun a : Nat => (a : Int)
/-- The roots of the components with closed walks, of the labels below a number. -/
structure Roots (E : Nat → Nat → Prop) (a : Nat) (rs : List Nat) : Prop where
  lt : ∀ r ∈ rs, r < a
  cyc : ∀ r ∈ rs, ∃ k, 0 < k ∧ Wk E k r r
  apart : rs.Pairwise fun r q => ¬ Comp E r q
  cover : ∀ b, b < a → (∃ k, 0 < k ∧ Wk E k b b) → ∃ r ∈ rs, Comp E r b

theorem Roots.nil (E : Nat → Nat → Prop) : Roots E 0 [] := ⟨by simp, by simp, List.Pairwise.nil, fun b hb => by omega⟩
theorem Roots.skip {E : Nat → Nat → Prop} {a : Nat} {rs : List Nat} (h : Roots E a rs) (hs : (∃ k, 0 < k ∧ Wk E k a a) → ∃ r ∈ rs, Comp E r a) : Roots E (a + 1) rs :=
  ⟨fun r hr => by have := h.lt r hr; omega, h.cyc, h.apart, fun b hb hc => by
    rcases Nat.lt_or_eq_of_le (Nat.le_of_lt_succ hb) with h1 | rfl
    · exact h.cover b h1 hc
    · exact hs hc⟩
theorem Roots.add {E : Nat → Nat → Prop} {a : Nat} {rs : List Nat} (h : Roots E a rs) (hc : ∃ k, 0 < k ∧ Wk E k a a) (hn : ∀ r ∈ rs, ¬ Comp E r a) : Roots E (a + 1) (rs ++ [a]) :=
  ⟨fun r hr => by
    rcases List.mem_append.1 hr with hr | hr
    · have := h.lt r hr; omega
    · rw [List.mem_singleton.1 hr]; omega, fun r hr => by
    rcases List.mem_append.1 hr with hr | hr
    · exact h.cyc r hr
    · rw [List.mem_singleton.1 hr]; exact hc, by
    rw [List.pairwise_append]
    exact ⟨h.apart, List.pairwise_singleton _ _, fun r hr q hq => by rw [List.mem_singleton.1 hq]; exact hn r hr⟩, fun b hb hcb => by
    rcases Nat.lt_or_eq_of_le (Nat.le_of_lt_succ hb) with h1 | rfl
    · obtain ⟨r, hr, hx⟩ := h.cover b h1 hcb
      exact ⟨r, List.mem_append_left _ hr, hx⟩
    · exact ⟨b, by simp, Comp.refl⟩⟩
end Go.Proofs.YtnhidomgpbohiaaGreatDoor
end

section
/- slices.Values at []int: its closure calls yield for each element; turned from the kit's worked text on the library's two iterators over a slice. -/
namespace Go.Proofs.YtnhidomgpbohiaaGreatDoor
open Go Go.RowKit Go.Shelf Go.Proofs

attribute [local go_sem] Oper.semAt_some

theorem add_block (ad : Addr) (k : Nat) : (ad.add k).block = ad.block := by unfold Addr.add; split <;> rfl

/-- The slice value sv holds the ints zs, in a block below n₀; or it is nil and there are none. -/
def IntsIn (n₀ : Nat) (W : World) (sv : Value) (zs : List Int) : Prop :=
  (∃ cap, sv = .slice none 0 cap ∧ zs = []) ∨ ∃ ad cap, sv = .slice (some ad) zs.length cap ∧ (0 < zs.length → ad.block < n₀) ∧ ∀ j, j < zs.length → W.cell? (ad.add j) = some (.int .i64 (zs[j]?.getD 0))
theorem IntsIn.below {n₀ : Nat} {A B : World} (h : Below n₀ A B) {sv : Value} {zs : List Int} : IntsIn n₀ A sv zs → IntsIn n₀ B sv zs
  | .inl e => .inl e
  | .inr ⟨ad, cap, e, hb, hc⟩ => .inr ⟨ad, cap, e, hb, fun j hj => (h.cell (p := ad.add j) (by rw [add_block]; exact hb (by omega))).trans (hc j hj)⟩

end Go.Proofs.YtnhidomgpbohiaaGreatDoor
end

section
/- slices.AppendSeq(nil, slices.Values(s)), slices.Collect, slices.Sorted at []int. The walk of the loop is turned from the kit's worked texts (a loop over slices.Values; the shelf's slices.Collect). -/
namespace Go.Proofs.YtnhidomgpbohiaaGreatDoor
open Go Go.RowKit Go.Shelf Go.Proofs

attribute [local go_sem] Oper.semAt_some

open Go.GX

end Go.Proofs.YtnhidomgpbohiaaGreatDoor
end

section
/- Edges: both sides' lists of them, and searching in lists of numbers, ends and edges. -/
namespace Go.Proofs.YtnhidomgpbohiaaGreatDoor
open Go.GX Go.RowKit
set_option maxRecDepth 100000

abbrev Edge := Int × Int × Int × Int

/-- The port of an edge that bears it: the lesser of its two ends. -/
def isFirst (v i : Nat) (e : Int × Int) : Bool := decide ((v : Int) < e.1) || ((v : Int) == e.1 && decide ((i : Int) ≤ e.2))

def portE (E : Ends) (v i : Nat) : List Edge := match port E v i with
  | some e => if isFirst v i e then [((v : Int), (i : Int), e.1, e.2)] else []
  | none => []
def rowE (E : Ends) (v : Nat) : Nat → List Edge
  | 0 => []
  | i + 1 => rowE E v i ++ portE E v i
def edgesTo (E : Ends) : Nat → List Edge
  | 0 => []
  | v + 1 => edgesTo E v ++ rowE E v (rowOf E v).length
def edgesOf (E : Ends) : List Edge := edgesTo E E.length

/-! ### Searching -/

end Go.Proofs.YtnhidomgpbohiaaGreatDoor
end

section
/- Proper colourings: both sides' tests. -/
namespace Go.Proofs.YtnhidomgpbohiaaGreatDoor
open Go.GX Go.RowKit
set_option maxRecDepth 100000

/-- Two nodes with an edge between them, the lesser first, that bear the same. -/
def Clash (E : Ends) (l : List Int) : Prop := ∃ v u : Nat, v ≤ u ∧ v < E.length ∧ u < E.length ∧ (u : Int) ∈ adjOf E v ∧ l.getD v 0 = l.getD u 0

def Proper (n : Net) (l : List Int) : Prop := l.length = n.ends.length ∧ AllIn l 0 1000000000000 ∧ ¬ Clash n.ends l

end Go.Proofs.YtnhidomgpbohiaaGreatDoor
end

section
/- Matchings: both sides' tests, and the law IsMatching. -/
namespace Go.Proofs.YtnhidomgpbohiaaGreatDoor
open Go.GX Go.RowKit
set_option maxRecDepth 100000

/-- Node v and its mate agree. -/
def MAt (E : Ends) (m : List Int) (v : Nat) : Prop :=
  ∀ x, m[v]? = some x → x = -1 ∨ ∃ e, portZ E v x = some e ∧ e.1 ≠ v ∧ ∃ u : Nat, e.1 = u ∧ m[u]? = some e.2

def MatchOk (E : Ends) (m : List Int) : Prop := m.length = E.length ∧ ∀ v < m.length, MAt E m v

end Go.Proofs.YtnhidomgpbohiaaGreatDoor
end

section
/- Sets of nodes and matchings: both sides' tests of independence, covers, maximality; sizes of matchings. -/
namespace Go.Proofs.YtnhidomgpbohiaaGreatDoor
open Go.GX Go.RowKit
set_option maxRecDepth 100000

structure SetOk (n : Net) (l : List Int) : Prop where
  good : Good n
  rising : Rising l 0 (n.ends.length - 1)

theorem SetOk.node {n : Net} {l : List Int} (h : SetOk n l) : ∀ x ∈ l, ∃ u : Nat, x = u ∧ u < n.ends.length := by
  intro x hx
  have := h.rising.1 x hx
  exact ⟨x.toNat, by omega, by omega⟩

/-! ### Independent sets -/

/-- No neighbour of v lies in the set. -/
def Apart (E : Ends) (l : List Int) (v : Nat) : Prop := ∀ x ∈ adjOf E v, x ∉ l

/-! ### Covers -/

end Go.Proofs.YtnhidomgpbohiaaGreatDoor
end

section
/- Maximal matchings and maximal independent sets; sizes of matchings. -/
namespace Go.Proofs.YtnhidomgpbohiaaGreatDoor
open Go.GX Go.RowKit
set_option maxRecDepth 100000

/-! ### Matchings that are asked rightly, and their size -/

structure MatchAsked (n : Net) (m : List Int) : Prop where
  good : Good n
  is : MatchOk n.ends m

/-- An answer that is a number, and whether it was asked rightly. -/
def AnsI (g : Prop) (k : Int) (x : Int) (ok : Bool) : Prop := (ok = true ↔ g) ∧ (g → x = k) ∧ (¬ g → x = 0)

theorem AnsI.eq {g : Prop} {k x x' : Int} {ok ok' : Bool} (h : AnsI g k x ok) (h' : AnsI g k x' ok') : x = x' ∧ ok = ok' := by
  refine ⟨?_, Bool.eq_iff_iff.2 (h.1.trans h'.1.symm)⟩
  by_cases hg : g
  · rw [h.2.1 hg, h'.2.1 hg]
  · rw [h.2.2 hg, h'.2.2 hg]

theorem AnsI.no {g : Prop} {k : Int} (h : ¬ g) : AnsI g k 0 false := ⟨by simp [h], fun h1 => absurd h1 h, fun _ => rfl⟩
theorem AnsI.mk {g : Prop} {k x : Int} (h : g) (hx : x = k) : AnsI g k x true := ⟨by simp [h], fun _ => hx, fun h1 => absurd h h1⟩

/-! ### Maximal matchings -/

/-- An edge that could be added: two nodes, both free. -/
def FreeEdge (l : List Int) (q : Edge) : Prop := q.1 ≠ q.2.2.1 ∧ l.getD q.1.toNat 0 < 0 ∧ l.getD q.2.2.1.toNat 0 < 0
instance (l : List Int) (q : Edge) : Decidable (FreeEdge l q) := by unfold FreeEdge; exact inferInstance
def Maximal (n : Net) (l : List Int) : Prop := ∀ q ∈ edgesOf n.ends, ¬ FreeEdge l q

/-! ### Maximal independent sets -/

end Go.Proofs.YtnhidomgpbohiaaGreatDoor
end

section
/- Slices that may be written, whatever they hold: the marks that a law leaves in its arguments and answers. No program is named here. -/
namespace Go.GX
open Go.RowKit

/-- Each cell of the slice may be written. -/
def Wr (w : World) (s : Sl) (sz : Nat) : Prop := ∀ j, j < s.len * sz → ∃ a, s.a = some a ∧ (∃ old, w.cell? (a.add j) = some old) ∧ w.frozen? (a.add j) = false

/-- No cell goes, none is frozen. -/
def Shp (w w' : World) : Prop := (∀ a old, w.cell? a = some old → ∃ new, w'.cell? a = some new) ∧ ∀ a, w.frozen? a = false → (∃ old, w.cell? a = some old) → w'.frozen? a = false

theorem Shp.refl (w : World) : Shp w w := ⟨fun _ old h => ⟨old, h⟩, fun _ h _ => h⟩
theorem Shp.trans {a b c : World} (h : Shp a b) (k : Shp b c) : Shp a c :=
  ⟨fun p old hp => by obtain ⟨n, hn⟩ := h.1 p old hp; exact k.1 p n hn, fun p hf ⟨old, hp⟩ => k.2 p (h.2 p hf ⟨old, hp⟩) (h.1 p old hp)⟩
theorem Shp.setCell (w : World) (p : Addr) (v : Value) : Shp w (w.setCell p v) :=
  ⟨fun a old h => by
    by_cases hp : p = a
    · subst hp; exact ⟨v, World.cell?_setCell_same w p v h⟩
    · exact ⟨old, by rw [World.cell?_setCell_other w p a v hp]; exact h⟩, fun a h _ => by rw [World.frozen?_setCell]; exact h⟩
theorem Shp.ext {w w' : World} (h : Ext w w') : Shp w w' :=
  ⟨fun a old ho => ⟨old, h.cell ho⟩, fun a hf ⟨old, ho⟩ => by
    have hb : w'.heap[a.block]? = w.heap[a.block]? := h.same (cell_lt ho)
    unfold World.frozen? at hf ⊢
    rw [hb]; exact hf⟩

theorem Wr.shp {w w' : World} {s : Sl} {sz : Nat} (h : Wr w s sz) (hs : Shp w w') : Wr w' s sz := fun j hj => by
  obtain ⟨a, ha, ⟨old, hc⟩, hf⟩ := h j hj
  exact ⟨a, ha, hs.1 _ _ hc, hs.2 _ hf ⟨old, hc⟩⟩

theorem OwnL.wr {α : Type} [Flat α] {w : World} {base : Nat} {e : TypeId} {s : Sl} {l : List α} (h : OwnL w base e s l) : Wr w s (Rep.sz α) := fun j hj => by
  rcases h.2.2 with ⟨hv, h0⟩ | ⟨g, cap, cur, hv, hb, hg, hle, _, hsz, htake⟩
  · rw [h0] at hj; simp at hj
  · simp [Sl.v] at hv
    obtain ⟨ha, rfl⟩ := hv
    have hlen := h.2.length
    have hlt : j < (l.flatMap Flat.cells).length := by rw [hlen]; exact hj
    have hown : w.ownsRow base e (Rep.sz α) s.v s.len (l.flatMap Flat.cells) := h.2
    refine ⟨_, ha, ⟨_, World.ownsRow.cells hown (g := g) (by simp [Sl.v, ha, Value.ownBlock]) j _ (List.getElem?_eq_getElem hlt)⟩, ?_⟩
    simp [World.frozen?, add_block, hg]

/-- The block of a slice. -/
def blkOf (s : Sl) (b : Nat) : Prop := ∃ a, s.a = some a ∧ a.block = b

/-- Numbers in a row. -/
def marks (k : Int) (n : Nat) : List Int := (List.range n).map fun (i : Nat) => k + (i : Int)

theorem marks_length (k : Int) (n : Nat) : (marks k n).length = n := by simp [marks]
theorem marks_get (k : Int) (n i : Nat) (h : i < (marks k n).length) : (marks k n)[i] = k + i := by simp [marks]
theorem marks_I64 {k : Int} {n : Nat} (h0 : 0 ≤ k) (h1 : k + n ≤ 9223372036854775807) : ∀ x ∈ marks k n, I64 x := fun x hx => by
  simp [marks] at hx
  obtain ⟨i, hi, rfl⟩ := hx
  unfold I64; omega

theorem marks_step {k : Int} {l : List Int} {i : Nat} (hi : i < l.length) : (marks k i ++ l.drop i).set i (k + i) = marks k (i + 1) ++ l.drop (i + 1) := by
  have h1 : (marks k i).length = i := marks_length _ _
  rw [List.set_append_right _ _ (by omega), h1, Nat.sub_self, List.drop_eq_getElem_cons hi, List.set_cons_zero]
  simp [marks, List.range_succ]

theorem Chg.extR {w0 w w' : World} {lo hi : Nat} (h : Chg w w' (fun b => lo ≤ b ∧ b < hi)) (hE : Ext w0 w) (hl : w0.heap.size ≤ lo) : Ext w0 w' := h.ext0 hE fun k hk => by have := hk.1; omega
/-! ### Lists that are filled from the front -/

/-! ### Boxes and lists of the call's own, apart by their types -/

def oB (s : Sl) (b : Nat) : Prop := s.v.ownBlock = some b

/-! ### Answers that hold only where something holds -/

structure AnsG {α : Type} (g : Prop) (x d y : α) (ok : Bool) : Prop where
  ok : ok = true ↔ g
  val : g → y = x
  non : ¬ g → y = d

theorem AnsG.yes {α : Type} {g : Prop} {x d : α} (h : g) : AnsG g x d x true := ⟨by simp [h], fun _ => rfl, fun hn => absurd h hn⟩
theorem AnsG.no {α : Type} {g : Prop} {x d : α} (h : ¬ g) : AnsG g x d d false := ⟨by simp [h], fun hg => absurd hg h, fun _ => rfl⟩
theorem AnsG.eq {α : Type} {g : Prop} {x d y y' : α} {ok ok' : Bool} (h : AnsG g x d y ok) (h' : AnsG g x d y' ok') : y = y' ∧ ok = ok' := by
  constructor
  · by_cases hg : g
    · rw [h.val hg, h'.val hg]
    · rw [h.non hg, h'.non hg]
  · rw [Bool.eq_iff_iff, h.ok, h'.ok]

end Go.GX
end

section
/- The laws' marks: what they write into copies and answers, and what they look for again. -/
namespace Go.Proofs.YtnhidomgpbohiaaGreatDoor
open Go.GX Go.RowKit
set_option maxRecDepth 100000

theorem markIntS_ok {w : World} {base : Nat} {s : Sl} {l : List Int} (h : OwnL w base T.t_int s l) (k : Int) (h0 : 0 ≤ k) (h1 : k ≤ 1152921504606846976) (hl : l.length ≤ 1048576) :
    Calls Tryz.prog F.l_markIntS #[s.v, .int .i64 k] w (Ret [.at (.int .i64)] fun (r : Int) w' => r = k + l.length ∧ OwnL w' base T.t_int s (marks k l.length) ∧ Step w w' s.v.ownBlock) := by
  refine C_l_markIntS ?_
  unfold V_l_markIntS
  rw [h.1]
  refine ⟨IN2 l.length fun i r w' => r = k + i ∧ OwnL w' base T.t_int s (marks k i ++ l.drop i) ∧ Step w w' s.v.ownBlock, MN2 l.length, IN2_zero ⟨by simp, by simpa [marks] using h, Step.refl _ _⟩, ?_⟩
  rintro _ _ w1 ⟨i, rfl, hi, rfl, hO, hs⟩
  intros
  refine cond_dec (fun hlt => ?_) (fun hge => ?_)
  · have hi' : i < l.length := by omega
    have hml : (marks k i ++ l.drop i).length = l.length := by rw [List.length_append, marks_length, List.length_drop]; omega
    refine IX_own hO (by rw [hml]; exact hi') rfl fun p hp => ?_
    refine ST_own hO (by rw [hml]; exact hi') hp (k + i) rfl fun w2 hO2 hs2 => ?_
    rw [marks_step hi'] at hO2
    rw [wrap_of (n := k + i + 1) (by omega) (by omega)]
    exact IN2_next (by omega) hi' ⟨by omega, hO2, hs.trans hs2⟩
  · have : i = l.length := by omega
    subst this
    exact ⟨rfl, by simpa using hO, hs⟩

theorem heldIntS_ok {w : World} {s : Sl} {n : Nat} (k : Int) (h : R w s (marks k n)) (h0 : 0 ≤ k) (h1 : k ≤ 1152921504606846976) (hl : n ≤ 1048576) :
    Calls Tryz.prog F.l_heldIntS #[s.v, .int .i64 k] w (Ret [.at (.int .i64)] fun (r : Int) w' => r = k + n ∧ w = w') := by
  refine C_l_heldIntS ?_
  unfold V_l_heldIntS
  rw [h.len, marks_length]
  refine ⟨IN2 n fun i r w' => r = k + i ∧ w = w', MN2 n, IN2_zero ⟨by simp, rfl⟩, ?_⟩
  rintro _ _ w1 ⟨i, rfl, hi, rfl, rfl⟩
  intros
  refine cond_dec (fun hlt => ?_) (fun hge => ?_)
  · have hi' : i < (marks k n).length := by rw [marks_length]; omega
    refine h.ixI hi' fun p _ hc => LD_int hc ?_
    rw [marks_get]
    refine cond_ne (fun hne => absurd rfl hne) (fun _ => ?_)
    rw [wrap_of (n := k + i + 1) (by omega) (by omega)]
    exact IN2_next (by omega) (by omega) ⟨by omega, rfl⟩
  · have : i = n := by omega
    subst this
    exact ⟨rfl, rfl⟩

/-- A slice of numbers that may be marked: its blocks lie between two bounds. -/
structure MInt (w : World) (s : Sl) (lo hi : Nat) : Prop where
  wr : Wr w s 1
  len : s.len ≤ 1048576
  blk : ∀ b, blkOf s b → lo ≤ b ∧ b < hi

theorem MInt.shp {w w' : World} {s : Sl} {lo hi : Nat} (h : MInt w s lo hi) (hs : Shp w w') : MInt w' s lo hi := ⟨h.wr.shp hs, h.len, h.blk⟩
theorem MInt.ext {w w' : World} {s : Sl} {lo hi : Nat} (h : MInt w s lo hi) (hE : Ext w w') : MInt w' s lo hi := h.shp (Shp.ext hE)

/-- A slice of slices of numbers that may be marked. -/
structure MIntSS (w : World) (s : Sl) (lo hi : Nat) : Prop where
  ex : ∃ ss : List Sl, OwnL w lo T.t_sl_int s ss ∧ ss.length ≤ 1048576 ∧ ∀ r ∈ ss, MInt w r lo hi ∧ ∀ b, blkOf r b → s.v.ownBlock ≠ some b


/-! ### Answers that are lists -/

/-- An answer of the call's own: its blocks lie from base on. -/
structure OutL (base : Nat) (w : World) (s : Sl) (l : List Int) : Prop where
  own : OwnL w base T.t_int s l
  i64 : ∀ x ∈ l, I64 x
  small : l.length ≤ 1048576

theorem OutL.rep {base : Nat} {w : World} {s : Sl} {l : List Int} (h : OutL base w s l) : R w s l := (h.own.rep h.i64).any
theorem OutL.ext {base : Nat} {w w' : World} {s : Sl} {l : List Int} (h : OutL base w s l) (hE : Ext w w') : OutL base w' s l := ⟨h.own.ext hE, h.i64, h.small⟩
theorem OutL.nil (base : Nat) (w : World) : OutL base w ⟨none, 0, 0⟩ [] := ⟨OwnL.nil _ _ _, by simp, by simp⟩
theorem OutL.low {base b : Nat} {w : World} {s : Sl} {l : List Int} (h : OutL base w s l) (hb : b ≤ base) : OutL b w s l := ⟨h.own.low hb, h.i64, h.small⟩

end Go.Proofs.YtnhidomgpbohiaaGreatDoor
end

section
/- Orders of nodes; sets that are kept in order; GreedyIndependent, both sides. -/
namespace Go.Proofs.YtnhidomgpbohiaaGreatDoor
open Go.GX Go.RowKit
set_option maxRecDepth 100000

structure PermOk (l : List Int) (k : Nat) : Prop where
  len : l.length = k
  all : AllIn l 0 (k - 1)
  nodup : l.Nodup

theorem PermOk.node {l : List Int} {k : Nat} (h : PermOk l k) : ∀ x ∈ l, ∃ u : Nat, x = u ∧ u < k := fun x hx => by
  have := h.all x hx
  exact ⟨x.toNat, by omega, by omega⟩

/-! ### Lists in order -/

/-- A slice's last elements. -/
theorem slr_drop {α : Type} [RepP α] {D : Nat → Prop} {w : World} {s : Sl} {l : List α} (h : SlR D w s l) {i : Nat} (hi : i ≤ l.length) {sz : Nat} (hsz : sz = Rep.sz α) {K : Sl → Prop} (hk : ∀ s', SlR D w s' (l.drop i) → K s') : SLC s (some (i : Int)) none sz K := by
  subst hsz
  have h1 := h.1
  have h2 := h.2.1
  refine SLC_from' h2.1 (by omega) fun d hd hc ha => hk d ⟨by simp; omega, by omega, fun j x hx => ?_⟩
  rw [List.getElem?_drop] at hx
  have hlt := (List.getElem?_eq_some_iff.1 hx).1
  obtain ⟨a, cs, e1, e2, e3, e4⟩ := h.2.2 (i + j) x hx
  refine ⟨a.add (i * Rep.sz α), cs, by rw [ha (by omega), e1]; rfl, by rw [add_block]; exact e2, e3, fun t v ht => ?_⟩
  rw [add_add, show i * Rep.sz α + (j * Rep.sz α + t) = (i + j) * Rep.sz α + t by rw [Nat.add_mul]; omega]
  exact e4 t v ht

/-! ### The greedy set -/

instance (E : Ends) (l : List Int) (v : Nat) : Decidable (Apart E l v) := by unfold Apart; exact inferInstance

/-- May a node join? -/
def joins (E : Ends) (S : List Int) (v : Int) : Prop := (adjOf E v.toNat).contains v = false ∧ Apart E S v.toNat
instance (E : Ends) (S : List Int) (v : Int) : Decidable (joins E S v) := by unfold joins; exact inferInstance
structure OrderAsked (n : Net) (l : List Int) : Prop where
  good : Good n
  perm : PermOk l n.ends.length

theorem sortI_I64 {l : List Int} (h : ∀ x ∈ l, I64 x) : ∀ x ∈ sortI l, I64 x := fun x hx => h x ((sortI_perm l).mem_iff.1 hx)
end Go.Proofs.YtnhidomgpbohiaaGreatDoor
end

section
/- Lists of lists of the call's own whose rows lie apart: rows that are written, that grow, that are added. No program is named here. -/
namespace Go.GX
open Go.RowKit

/-- The slice s of the call's own holds the rows ss, which read as the lists L and lie in blocks of their own. -/
structure RowsD {α : Type} [Flat α] (w : World) (base : Nat) (e e' : TypeId) (s : Sl) (L : List (List α)) (ss : List Sl) : Prop where
  own : OwnL w base e' s ss
  len : ss.length = L.length
  row : ∀ (i : Nat) (r : Sl) (l : List α), ss[i]? = some r → L[i]? = some l → OwnL w base e r l
  apart : ∀ (i j : Nat) (r q : Sl), ss[i]? = some r → ss[j]? = some q → i ≠ j → ∀ k, r.v.ownBlock = some k → q.v.ownBlock ≠ some k

section
variable {α : Type} [Flat α] {w w' : World} {base : Nat} {e e' : TypeId} {s : Sl} {L : List (List α)} {ss : List Sl}

theorem RowsD.own2 (h : RowsD w base e e' s L ss) : Own2 w base e e' s L := ⟨ss, h.own, h.len, h.row⟩
theorem RowsD.rep (h : RowsD w base e e' s L ss) (hok : ∀ l ∈ L, ∀ x ∈ l, Flat.ok x) : R w s L := h.own2.rep hok
theorem RowsD.nil (w : World) (base : Nat) (e e' : TypeId) : RowsD w base e e' ⟨none, 0, 0⟩ ([] : List (List α)) [] := ⟨OwnL.nil _ _ _, rfl, fun i r l h => by simp at h, fun i j r q h => by simp at h⟩
theorem RowsD.keep (h : RowsD w base e e' s L ss) (hk : ∀ k, base ≤ k → k < w.heap.size → w'.heap[k]? = w.heap[k]?) : RowsD w' base e e' s L ss :=
  ⟨h.own.keep fun k hb => hk k (h.own.blk k hb).1 (h.own.blk k hb).2, h.len, fun i r l hr hl => (h.row i r l hr hl).keep fun k hb => hk k ((h.row i r l hr hl).blk k hb).1 ((h.row i r l hr hl).blk k hb).2, h.apart⟩
theorem RowsD.ext (h : RowsD w base e e' s L ss) (hE : Ext w w') : RowsD w' base e e' s L ss := h.keep fun _ _ hk => hE.same hk
theorem RowsD.low (h : RowsD w base e e' s L ss) {b : Nat} (hb : b ≤ base) : RowsD w b e e' s L ss := ⟨h.own.low hb, h.len, fun i r l hr hl => (h.row i r l hr hl).low hb, h.apart⟩

theorem RowsD.at (h : RowsD w base e e' s L ss) {i : Nat} (hi : i < L.length) : ∃ r, ss[i]? = some r ∧ OwnL w base e r L[i] := by
  have h1 : i < ss.length := by rw [h.len]; exact hi
  exact ⟨ss[i], by simp [h1], h.row i ss[i] L[i] (by simp [h1]) (by simp [hi])⟩

/-- Looking up a row. -/
theorem RowsD.ix (h : RowsD w base e e' s L ss) {i : Nat} (hi : i < L.length) {K : Addr → Prop} (hk : ∀ p r, ss[i]? = some r → OwnL w base e r L[i] → w.cell? p = some r.v → s.v.ownBlock = some p.block → K p) : IX s i 1 K := by
  obtain ⟨r, hr, hO⟩ := h.at hi
  obtain ⟨a, cs, ha, _, hrep, hc⟩ := (h.own.rep fun _ _ => trivial).2.2 i r hr
  have hcs : cs = [r.v] := hrep
  subst hcs
  have hlen := h.own.1
  have hl2 := h.len
  refine ⟨a, ha, by omega, by omega, hk _ r hr hO (hc 0 _ rfl) ?_⟩
  have hsv : s.v = .slice (some a) s.len s.cap := by simp [Sl.v, ha]
  rw [hsv, add_block]
  rcases h.own.2.2 with ⟨hv, h0⟩ | ⟨g, cap, cur, hv, _⟩
  · omega
  · rw [hsv] at hv
    obtain ⟨h1, _⟩ := Value.slice.inj hv
    cases h1
    rfl

theorem RowsD.block_ne (h : RowsD w base e e' s L ss) (hne : e ≠ e') {i : Nat} {r : Sl} (hr : ss[i]? = some r) {k : Nat} (hk : r.v.ownBlock = some k) : s.v.ownBlock ≠ some k := fun he => by
  have hi : i < L.length := by rw [← h.len]; exact (List.getElem?_eq_some_iff.1 hr).1
  obtain ⟨c1, e1⟩ := (h.row i r L[i] hr (by simp [hi])).type hk
  obtain ⟨c2, e2⟩ := h.own.type he
  rw [e1] at e2
  exact hne (Obj.cells.inj (Option.some.inj e2)).2.1

/-- A row that is written in place. -/
theorem RowsD.chg (h : RowsD w base e e' s L ss) (hne : e ≠ e') {i : Nat} {r : Sl} (hr : ss[i]? = some r) {l' : List α} (hO : OwnL w' base e r l') (hs : Step w w' r.v.ownBlock) : RowsD w' base e e' s (L.set i l') ss := by
  have hi : i < L.length := by rw [← h.len]; exact (List.getElem?_eq_some_iff.1 hr).1
  refine ⟨h.own.keep fun k hk => hs.block k (h.own.blk k hk).2 fun he => h.block_ne hne hr he.symm hk, by simp [h.len], fun j q l hq hl => ?_, h.apart⟩
  by_cases hji : j = i
  · subst hji
    rw [List.getElem?_set_self hi] at hl
    rw [hr] at hq
    cases hl; cases hq
    exact hO
  · rw [List.getElem?_set_ne (Ne.symm hji)] at hl
    have hq' := h.row j q l hq hl
    exact hq'.keep fun k hk => hs.block k (hq'.blk k hk).2 fun he => h.apart i j r q hr hq (Ne.symm hji) k he.symm hk

/-- A row that is replaced: what it became lies in its block or in a new one. -/
theorem RowsD.put (h : RowsD w base e e' s L ss) (hne : e ≠ e') {i : Nat} (hi : i < L.length) {r r' : Sl} (hr : ss[i]? = some r) {w1 : World} {l' : List α} (hO : OwnL w1 base e r' l') (hs : Step w w1 r.v.ownBlock) (hn : NewOr w r r') {p : Addr} (hp : Plc s i 1 p) {K : World → Prop}
    (hk : ∀ w2, RowsD w2 base e e' s (L.set i l') (ss.set i r') → Step w1 w2 s.v.ownBlock → K w2) : ST p 0 [r'.v] w1 K := by
  have hi' : i < ss.length := by rw [h.len]; exact hi
  have hown : OwnL w1 base e' s ss := h.own.keep fun k hk => hs.block k (h.own.blk k hk).2 fun he => h.block_ne hne hr he.symm hk
  have hlt : ∀ (j : Nat) (q : Sl), ss[j]? = some q → ∀ k, q.v.ownBlock = some k → k < w.heap.size := fun j q hq k hk => by
    have hj : j < L.length := by rw [← h.len]; exact (List.getElem?_eq_some_iff.1 hq).1
    exact ((h.row j q L[j] hq (by simp [hj])).blk k hk).2
  have hap : ∀ (j : Nat) (q : Sl), ss[j]? = some q → j ≠ i → ∀ k, r'.v.ownBlock = some k → q.v.ownBlock ≠ some k := fun j q hq hji k hk hqk => by
    rcases hn with hn | hn
    · rw [hn] at hk
      exact h.apart i j r q hr hq (Ne.symm hji) k hk hqk
    · have := hn k hk
      have := hlt j q hq k hqk
      omega
  refine ST_own hown hi' (p := p) hp r' rfl fun w2 hO2 hs2 => hk w2 ⟨hO2, by simp [h.len], fun j q l hq hl => ?_, fun j k q q' hq hq' hjk => ?_⟩ hs2
  · have hst : ∀ {q : Sl} {l : List α}, OwnL w1 base e q l → OwnL w2 base e q l := fun hq => hq.step hown hne hs2
    by_cases hji : j = i
    · subst hji
      rw [List.getElem?_set_self hi] at hl
      rw [List.getElem?_set_self hi'] at hq
      cases hl; cases hq
      exact hst hO
    · rw [List.getElem?_set_ne (Ne.symm hji)] at hl hq
      have hq' := h.row j q l hq hl
      exact hst (hq'.keep fun k hk => hs.block k (hq'.blk k hk).2 fun he => h.apart i j r q hr hq (Ne.symm hji) k he.symm hk)
  · by_cases hji : j = i
    · subst hji
      rw [List.getElem?_set_self hi'] at hq
      rw [List.getElem?_set_ne hjk] at hq'
      cases hq
      exact hap k q' hq' (Ne.symm hjk)
    · rw [List.getElem?_set_ne (Ne.symm hji)] at hq
      by_cases hki : k = i
      · subst hki
        rw [List.getElem?_set_self hi'] at hq'
        cases hq'
        exact fun b hb hb' => hap j q hq hji b hb' hb
      · rw [List.getElem?_set_ne (Ne.symm hki)] at hq'
        exact h.apart j k q q' hq hq' hjk

end

/-- One more row. -/
theorem RUN_append_rowDF {α : Type} [Flat α] {P : Program} {t e e' : TypeId} {bytes : Nat} {z : Value} (hT : SlT P t e' 1 bytes z) (hne : e ≠ e') {w : World} {base b1 : Nat} {s y r : Sl} {L : List (List α)} {ss : List Sl} {l : List α} (h : RowsD w base e e' s L ss) (hbase : base ≤ w.heap.size)
    (hr : OwnL w base e r l) (hnew : ∀ (j : Nat) (q : Sl), ss[j]? = some q → ∀ k, q.v.ownBlock = some k → r.v.ownBlock ≠ some k) (hy : OwnL w b1 e' y [r]) (hlen : (L.length + 1) * bytes ≤ 140737488355328) (hmax : L.length + 1 ≤ maxLen) {K : Sl → World → Prop}
    (hk : ∀ s' w', RowsD w' base e e' s' (L ++ [l]) (ss ++ [r]) → Step w w' s.v.ownBlock → NewOr w s s' → K s' w') : RUN P (.at .sl) (bsem .append #[t, t] t #[s.v, y.v]) w K := by
  have hl2 := h.len
  refine RUN_appendF (α := Sl) hT h.own hbase (hy.rep fun _ _ => trivial).any (by simp [hl2]; exact hlen) (by simp [hl2]; exact hmax) fun s' w' hO hs hN => hk s' w' ⟨hO, by simp [hl2], fun i q m hq hm => ?_, fun i j q q' hq hq' hij => ?_⟩ hs hN
  · by_cases hi : i < ss.length
    · rw [List.getElem?_append_left hi] at hq
      rw [List.getElem?_append_left (by omega)] at hm
      exact (h.row i q m hq hm).step h.own hne hs
    · rw [List.getElem?_append_right (by omega)] at hq
      rw [List.getElem?_append_right (by omega), ← hl2] at hm
      have : i - ss.length = 0 := by
        have := (List.getElem?_eq_some_iff.1 hq).1
        simp at this; omega
      rw [this] at hq hm
      simp at hq hm
      subst hq; subst hm
      exact hr.step h.own hne hs
  · have hcase : ∀ {i : Nat} {q : Sl}, (ss ++ [r])[i]? = some q → (i < ss.length ∧ ss[i]? = some q) ∨ (i = ss.length ∧ q = r) := fun {i q} hq => by
      by_cases hi : i < ss.length
      · rw [List.getElem?_append_left hi] at hq; exact .inl ⟨hi, hq⟩
      · rw [List.getElem?_append_right (by omega)] at hq
        have h1 := (List.getElem?_eq_some_iff.1 hq).1
        simp at h1
        have h2 : i = ss.length := by omega
        subst h2
        simp at hq
        exact .inr ⟨rfl, hq.symm⟩
    rcases hcase hq with ⟨h1, h2⟩ | ⟨h1, rfl⟩ <;> rcases hcase hq' with ⟨h3, h4⟩ | ⟨h3, rfl⟩
    · exact h.apart i j q q' h2 h4 hij
    · exact hnew i q h2
    · exact fun k hk hk' => hnew j q' h4 k hk' hk
    · omega

theorem RUN_append_rowD {α : Type} [Flat α] {P : Program} {t e e' : TypeId} {bytes : Nat} {z : Value} (hT : SlT P t e' 1 bytes z) (hne : e ≠ e') {w : World} {base b1 : Nat} {s y r : Sl} {L : List (List α)} {ss : List Sl} {l : List α} (h : RowsD w base e e' s L ss) (hbase : base ≤ w.heap.size)
    (hr : OwnL w base e r l) (hnew : ∀ (j : Nat) (q : Sl), ss[j]? = some q → ∀ k, q.v.ownBlock = some k → r.v.ownBlock ≠ some k) (hy : OwnL w b1 e' y [r]) (hlen : (L.length + 1) * bytes ≤ 140737488355328) (hmax : L.length + 1 ≤ maxLen) {K : Sl → World → Prop}
    (hk : ∀ s' w', RowsD w' base e e' s' (L ++ [l]) (ss ++ [r]) → Step w w' s.v.ownBlock → K s' w') : RUN P (.at .sl) (bsem .append #[t, t] t #[s.v, y.v]) w K :=
  RUN_append_rowDF hT hne h hbase hr hnew hy hlen hmax fun s' w' h1 h2 _ => hk s' w' h1 h2

/-- One more row, made behind the others. -/
theorem RowsD.fresh {α : Type} [Flat α] {w w' : World} {base b1 : Nat} {e e' : TypeId} {s r : Sl} {L : List (List α)} {ss : List Sl} {l : List α} (h : RowsD w base e e' s L ss) (hr : OwnL w' b1 e r l) (hb : w.heap.size ≤ b1) : ∀ (j : Nat) (q : Sl), ss[j]? = some q → ∀ k, q.v.ownBlock = some k → r.v.ownBlock ≠ some k := fun j q hq k hk hrk => by
  have hj : j < L.length := by rw [← h.len]; exact (List.getElem?_eq_some_iff.1 hq).1
  have h1 := ((h.row j q L[j] hq (by simp [hj])).blk k hk).2
  have h2 := (hr.blk k hrk).1
  omega

end Go.GX
end

section
/- What the laws do with matrices: copy, compare, measure. Turned from our texts on a network's ends. -/
namespace Go.Proofs.YtnhidomgpbohiaaGreatDoor
open Go.GX Go.RowKit
set_option maxRecDepth 100000

theorem slt_rows : SlT Tryz.prog T.t_sl_sl_int T.t_sl_int 1 24 (.slice none 0 0) := ⟨by kernel_rfl, by kernel_rfl, rfl, by decide⟩

theorem eqIntSS_ok {w : World} {a b : Sl} {l m : List (List Int)} (ha : R w a l) (hb : R w b m) :
    Calls Tryz.prog F.l_eqIntSS #[a.v, b.v] w (Ret [.at .bool] fun (x : Bool) w' => x = decide (l = m) ∧ Ext w w') := by
  refine C_l_eqIntSS ?_
  unfold V_l_eqIntSS
  rw [ha.len, hb.len]
  refine cond_ne (fun hne => ⟨?_, Ext.refl _⟩) (fun he => ?_)
  · rw [decide_eq_false]; intro h; subst h; exact hne rfl
  · have hl : l.length = m.length := by omega
    refine ⟨IN l.length fun i w' => Ext w w' ∧ l.take i = m.take i, MN l.length, IN_zero ⟨Ext.refl _, by simp⟩, ?_⟩
    rintro x w1 ⟨i, rfl, hi, hE, ht⟩
    intros
    refine cond_dec (fun hlt => ?_) (fun hge => ⟨?_, hE⟩)
    · have h1 : i < l.length := by omega
      have h2 : i < m.length := by omega
      refine (ha.ext hE).ixL h1 fun p s1 hs1 hc => LD_sl hc ?_
      refine (hb.ext hE).ixL h2 fun p s2 hs2 hc => LD_sl hc ?_
      refine QCALL_bool _ (fun w' hw' => eqIntS_ok (hs1.any.ext hw') (hs2.any.ext hw')) ?_
      intro w2 hE2
      refine cond_not (fun hf => ⟨?_, hE.trans hE2⟩) (fun htr => ?_)
      · rw [decide_eq_false]; intro h; subst h; simp at hf
      · have heq : l[i] = m[i] := of_decide_eq_true htr
        exact IN_next ha.le h1 ⟨hE.trans hE2, by rw [List.take_succ_eq_append_getElem h1, List.take_succ_eq_append_getElem h2, ht, heq]⟩
    · have h3 : i = l.length := by omega
      subst h3
      rw [decide_eq_true]
      have h4 : m.take l.length = m := List.take_of_length_le (by omega)
      rw [h4, List.take_length] at ht
      exact ht

/-! ### Marks in matrices -/

/-- How many numbers lie in the first rows. -/
def pre (L : List (List Int)) (i : Nat) : Nat := ((L.take i).map List.length).sum
theorem pre_succ {L : List (List Int)} {i : Nat} (hi : i < L.length) : pre L (i + 1) = pre L i + L[i].length := by
  unfold pre
  rw [List.take_succ_eq_append_getElem hi, List.map_append, List.sum_append]
  simp
theorem pre_le {L : List (List Int)} (hL : ∀ r ∈ L, r.length ≤ 1048576) : ∀ i, i ≤ L.length → pre L i ≤ 1048576 * i
  | 0, _ => by simp [pre]
  | i + 1, hi => by
    have ih := pre_le hL i (by omega)
    rw [pre_succ (by omega)]
    have := hL _ (List.getElem_mem (show i < L.length by omega))
    omega

def marks2 (k : Int) (L : List (List Int)) : List (List Int) := (List.range L.length).map fun i => marks (k + pre L i) (L.getD i []).length
theorem marks2_len (k : Int) (L : List (List Int)) : (marks2 k L).length = L.length := by simp [marks2]
theorem marks2_get {k : Int} {L : List (List Int)} {i : Nat} (hi : i < L.length) : (marks2 k L)[i]'(by rw [marks2_len]; exact hi) = marks (k + pre L i) L[i].length := by
  simp [marks2, hi]

/-- A matrix of the call's own: its rows lie apart from each other. -/
structure OutM (base : Nat) (w : World) (s : Sl) (L : List (List Int)) : Prop where
  ex : ∃ ss : List Sl, RowsD w base T.t_int T.t_sl_int s L ss
  i64 : ∀ r ∈ L, ∀ x ∈ r, I64 x
  rows : L.length ≤ 1048576
  small : ∀ r ∈ L, r.length ≤ 1048576

theorem OutM.own2 {base : Nat} {w : World} {s : Sl} {L : List (List Int)} (h : OutM base w s L) : Own2 w base T.t_int T.t_sl_int s L := by
  obtain ⟨ss, h1, h2, h3, _⟩ := h.ex
  exact ⟨ss, h1, h2, h3⟩
theorem OutM.rep {base : Nat} {w : World} {s : Sl} {L : List (List Int)} (h : OutM base w s L) : R w s L := h.own2.rep h.i64
theorem OutM.keep {base : Nat} {w w' : World} {s : Sl} {L : List (List Int)} (h : OutM base w s L) (hk : ∀ k, base ≤ k → k < w.heap.size → w'.heap[k]? = w.heap[k]?) : OutM base w' s L := by
  obtain ⟨ss, h1, h2, h3, h4⟩ := h.ex
  exact ⟨⟨ss, h1.keep fun k hb => hk k (h1.blk k hb).1 (h1.blk k hb).2, h2, fun i r l hr hl => (h3 i r l hr hl).keep fun k hb => hk k ((h3 i r l hr hl).blk k hb).1 ((h3 i r l hr hl).blk k hb).2, h4⟩, h.i64, h.rows, h.small⟩
theorem OutM.ext {base : Nat} {w w' : World} {s : Sl} {L : List (List Int)} (h : OutM base w s L) (hE : Ext w w') : OutM base w' s L := h.keep fun _ _ hk => hE.same hk
theorem OutM.nil (base : Nat) (w : World) : OutM base w ⟨none, 0, 0⟩ [] := ⟨⟨[], OwnL.nil _ _ _, rfl, fun i r l h => by simp at h, fun i j r q h => by simp at h⟩, by simp, by simp, by simp⟩
theorem OutM.low {base b : Nat} {w : World} {s : Sl} {L : List (List Int)} (h : OutM base w s L) (hb : b ≤ base) : OutM b w s L := by
  obtain ⟨ss, h1, h2, h3, h4⟩ := h.ex
  exact ⟨⟨ss, h1.low hb, h2, fun i r l hr hl => (h3 i r l hr hl).low hb, h4⟩, h.i64, h.rows, h.small⟩

theorem rows_apart {w w' : World} {base base' : Nat} {r q : Sl} {l m : List Int} (h : OwnL w base T.t_int r l) (_ : OwnL w base' T.t_int q m) (hd : ∀ k, r.v.ownBlock = some k → q.v.ownBlock ≠ some k) (hs : Step w w' q.v.ownBlock) : OwnL w' base T.t_int r l :=
  h.keep fun k hk => hs.block k (h.blk k hk).2 fun he => hd k hk he.symm

/-- The blocks of a matrix's rows. -/
def RB (ss : List Sl) (b : Nat) : Prop := ∃ r ∈ ss, r.v.ownBlock = some b

theorem markIntSS_rows {base : Nat} {w : World} {s : Sl} {L : List (List Int)} {ss : List Sl} (hM : RowsD w base T.t_int T.t_sl_int s L ss) (hrows : L.length ≤ 1048576) (hsmall : ∀ r ∈ L, r.length ≤ 1048576) (k : Int) (h0 : 0 ≤ k) (h1 : k ≤ 1125899906842624000) :
    Calls Tryz.prog F.l_markIntSS #[s.v, .int .i64 k] w (Ret [.at (.int .i64)] fun (r : Int) w' => r = k + pre L L.length ∧ RowsD w' base T.t_int T.t_sl_int s (marks2 k L) ss ∧ Chg w w' (RB ss)) := by
  refine C_l_markIntSS ?_
  unfold V_l_markIntSS
  obtain ⟨hO, hlen, hR, hD⟩ := hM
  rw [hO.1]
  have hpl := fun i hi => pre_le hsmall i hi
  refine ⟨IN2 ss.length fun i r w' => r = k + pre L i ∧ OwnL w' base T.t_sl_int s ss ∧ (∀ (j : Nat) (q : Sl) (l : List Int), ss[j]? = some q → (if j < i then marks2 k L else L)[j]? = some l → OwnL w' base T.t_int q l) ∧ Chg w w' (RB ss), MN2 ss.length,
    IN2_zero ⟨by simp [pre], hO, by simpa using hR, Chg.refl _ _⟩, ?_⟩
  rintro _ _ w1 ⟨i, rfl, hi, rfl, hO1, hR1, hC1⟩
  intros
  refine cond_dec (fun hlt => ?_) (fun hge => ?_)
  · have hi' : i < ss.length := by omega
    have hiL : i < L.length := by omega
    refine (hO1.rep fun _ _ => trivial).ix (n := 1) rfl (by omega) (by omega) fun p cs hrep hc => ?_
    simp only [Int.toNat_natCast] at hrep
    have hcs : cs = [ss[i].v] := hrep
    subst hcs
    refine LD_sl (hc 0 _ rfl) ?_
    have hOi := hR1 i ss[i] L[i] (by simp [hi']) (by simp [hiL])
    have hp := hpl i (by omega)
    refine call (markIntS_ok hOi (k + pre L i) (by omega) (by omega) (hsmall _ (List.getElem_mem hiL))) ?_
    rintro r w2 ⟨rfl, hO2, hs2⟩
    refine IN2_next (by omega) hi' ⟨by rw [pre_succ hiL]; omega, hO1.keep fun b hb => hs2.block b (hO1.blk b hb).2 fun he => ?_, fun j q l hq hl => ?_, hC1.trans (.of_step hs2 fun b hb => ⟨ss[i], List.getElem_mem hi', hb⟩)⟩
    · obtain ⟨c1, e1⟩ := hO1.type hb
      obtain ⟨c2, e2⟩ := hOi.type he.symm
      rw [e1] at e2
      exact absurd (Obj.cells.inj (Option.some.inj e2)).2.1 (by decide)
    · by_cases hji : j = i
      · subst hji
        rw [if_pos (by omega), List.getElem?_eq_getElem (by rw [marks2_len]; exact hiL), marks2_get hiL] at hl
        rw [List.getElem?_eq_getElem hi'] at hq
        cases hq
        cases hl
        exact hO2
      · have hl' : (if j < i then marks2 k L else L)[j]? = some l := by
          by_cases hj : j < i
          · rw [if_pos (by omega)] at hl; rw [if_pos hj]; exact hl
          · rw [if_neg (by omega)] at hl; rw [if_neg hj]; exact hl
        exact rows_apart (hR1 j q l hq hl') hOi (hD j i q ss[i] hq (by simp [hi']) hji) hs2
  · have : i = ss.length := by omega
    subst this
    exact ⟨by rw [hlen], ⟨hO1, by rw [marks2_len]; exact hlen, fun j q l hq hl => hR1 j q l hq (by rw [if_pos (List.getElem?_eq_some_iff.1 hq).1]; exact hl), hD⟩, hC1⟩

theorem marks2_I64 {k : Int} {L : List (List Int)} (h0 : 0 ≤ k) (h1 : k ≤ 1125899906842624000) (hrows : L.length ≤ 1048576) (hsmall : ∀ r ∈ L, r.length ≤ 1048576) : ∀ r ∈ marks2 k L, ∀ x ∈ r, I64 x := fun r hr x hx => by
  obtain ⟨j, hj, rfl⟩ := List.mem_iff_getElem.1 hr
  have hjL : j < L.length := by rwa [marks2_len] at hj
  rw [marks2_get hjL] at hx
  have := pre_le hsmall j (by omega)
  have := hsmall _ (List.getElem_mem hjL)
  exact marks_I64 (by omega) (by omega) x hx

/-! ### Two matrices that lie apart -/

/-- The blocks of a matrix. -/
def MB (s : Sl) (ss : List Sl) (b : Nat) : Prop := s.v.ownBlock = some b ∨ RB ss b

theorem _root_.Go.GX.RowsD.blk {w : World} {base : Nat} {s : Sl} {L : List (List Int)} {ss : List Sl} (h : RowsD w base T.t_int T.t_sl_int s L ss) {b : Nat} (hb : MB s ss b) : base ≤ b ∧ b < w.heap.size := by
  rcases hb with hb | ⟨r, hr, hb⟩
  · exact h.own.blk b hb
  · obtain ⟨i, hi, rfl⟩ := List.mem_iff_getElem.1 hr
    have hl := h.len
    exact (h.row i ss[i] (L[i]'(by omega)) (by simp [hi]) (by simp)).blk b hb

theorem _root_.Go.GX.RowsD.keepB {w w' : World} {base : Nat} {s : Sl} {L : List (List Int)} {ss : List Sl} (h : RowsD w base T.t_int T.t_sl_int s L ss) (hk : ∀ b, MB s ss b → w'.heap[b]? = w.heap[b]?) : RowsD w' base T.t_int T.t_sl_int s L ss :=
  ⟨h.own.keep fun b hb => hk b (.inl hb), h.len, fun i r l hr hl => (h.row i r l hr hl).keep fun b hb => hk b (.inr ⟨r, List.mem_of_getElem? hr, hb⟩), h.apart⟩

structure Out2M (base : Nat) (w : World) (s : Sl) (L : List (List Int)) (s' : Sl) (L' : List (List Int)) : Prop where
  ex : ∃ ss ss' : List Sl, RowsD w base T.t_int T.t_sl_int s L ss ∧ RowsD w base T.t_int T.t_sl_int s' L' ss' ∧ ∀ b, MB s ss b → ¬ MB s' ss' b
  i64 : ∀ r ∈ L, ∀ x ∈ r, I64 x
  rows : L.length ≤ 1048576
  small : ∀ r ∈ L, r.length ≤ 1048576
  i64' : ∀ r ∈ L', ∀ x ∈ r, I64 x
  rows' : L'.length ≤ 1048576
  small' : ∀ r ∈ L', r.length ≤ 1048576

theorem Out2M.keep {base : Nat} {w w' : World} {s s' : Sl} {L L' : List (List Int)} (h : Out2M base w s L s' L') (hk : ∀ k, base ≤ k → k < w.heap.size → w'.heap[k]? = w.heap[k]?) : Out2M base w' s L s' L' := by
  obtain ⟨ss, ss', h1, h2, h3⟩ := h.ex
  exact ⟨⟨ss, ss', h1.keepB fun b hb => hk b (h1.blk hb).1 (h1.blk hb).2, h2.keepB fun b hb => hk b (h2.blk hb).1 (h2.blk hb).2, h3⟩, h.i64, h.rows, h.small, h.i64', h.rows', h.small'⟩
theorem Out2M.ext {base : Nat} {w w' : World} {s s' : Sl} {L L' : List (List Int)} (h : Out2M base w s L s' L') (hE : Ext w w') : Out2M base w' s L s' L' := h.keep fun _ _ hk => hE.same hk
theorem Out2M.nil (base : Nat) (w : World) : Out2M base w ⟨none, 0, 0⟩ [] ⟨none, 0, 0⟩ [] :=
  ⟨⟨[], [], RowsD.nil _ _ _ _, RowsD.nil _ _ _ _, fun b hb => (by
    rcases hb with hb | ⟨r, hr, _⟩
    · cases hb
    · cases hr)⟩, by simp, by simp, by simp, by simp, by simp, by simp⟩
theorem Out2M.low {base b : Nat} {w : World} {s s' : Sl} {L L' : List (List Int)} (h : Out2M base w s L s' L') (hb : b ≤ base) : Out2M b w s L s' L' := by
  obtain ⟨ss, ss', h1, h2, h3⟩ := h.ex
  exact ⟨⟨ss, ss', ⟨h1.own.low hb, h1.len, fun i r l hr hl => (h1.row i r l hr hl).low hb, h1.apart⟩, ⟨h2.own.low hb, h2.len, fun i r l hr hl => (h2.row i r l hr hl).low hb, h2.apart⟩, h3⟩, h.i64, h.rows, h.small, h.i64', h.rows', h.small'⟩
theorem Out2M.rep {base : Nat} {w : World} {s s' : Sl} {L L' : List (List Int)} (h : Out2M base w s L s' L') : R w s L := by
  obtain ⟨ss, ss', h1, _, _⟩ := h.ex
  exact h1.rep h.i64
theorem heldIntSS_ok {w : World} {s : Sl} {L : List (List Int)} (k : Int) (h : R w s (marks2 k L)) (h0 : 0 ≤ k) (h1 : k ≤ 1125899906842624000) (hl : L.length ≤ 1048576) (hll : ∀ r ∈ L, r.length ≤ 1048576) :
    Calls Tryz.prog F.l_heldIntSS #[s.v, .int .i64 k] w (Ret [.at (.int .i64)] fun (r : Int) w' => r = k + pre L L.length ∧ w = w') := by
  refine C_l_heldIntSS ?_
  unfold V_l_heldIntSS
  rw [h.len, marks2_len]
  have hpl := fun i hi => pre_le hll i hi
  refine ⟨IN2 L.length fun i r w' => r = k + pre L i ∧ w = w', MN2 L.length, IN2_zero ⟨by simp [pre], rfl⟩, ?_⟩
  rintro _ _ w1 ⟨i, rfl, hi, rfl, rfl⟩
  intros
  refine cond_dec (fun hlt => ?_) (fun hge => ?_)
  · have hiL : i < L.length := by omega
    refine h.ixL (by rw [marks2_len]; exact hiL) fun p r hr hc => LD_sl hc ?_
    rw [marks2_get hiL] at hr
    have hp := hpl i (by omega)
    have hrl := hll _ (List.getElem_mem hiL)
    refine call (heldIntS_ok (k + pre L i) hr.any (by omega) (by omega) hrl) ?_
    rintro r _ ⟨rfl, rfl⟩
    refine cond_df (by omega) ?_
    exact IN2_next (by omega) hiL ⟨by rw [pre_succ hiL]; omega, rfl⟩
  · have : i = L.length := by omega
    subst this
    exact ⟨rfl, rfl⟩

theorem MIntSS.chg {w w' : World} {s : Sl} {lo hi : Nat} (h : MIntSS w s lo hi) (hS : Shp w w') {l2 h2 : Nat} (hC : Chg w w' (fun b => l2 ≤ b ∧ b < h2)) (hlo : h2 ≤ lo) : MIntSS w' s lo hi := by
  obtain ⟨ss, h1, h3, h4⟩ := h.ex
  exact ⟨ss, h1.chg hC fun b hb hD => by have := (h1.blk b hb).1; have := hD.2; omega, h3, fun r hr => ⟨(h4 r hr).1.shp hS, (h4 r hr).2⟩⟩

theorem MIntSS.ext {w w' : World} {s : Sl} {lo hi : Nat} (h : MIntSS w s lo hi) (hE : Ext w w') : MIntSS w' s lo hi := by
  obtain ⟨ss, h1, h3, h4⟩ := h.ex
  exact ⟨ss, h1.ext hE, h3, fun r hr => ⟨(h4 r hr).1.ext hE, (h4 r hr).2⟩⟩

end Go.Proofs.YtnhidomgpbohiaaGreatDoor
end

section
/- Configurations: lists of labels in order, both sides. -/
namespace Go.Proofs.YtnhidomgpbohiaaGreatDoor
open Go.GX Go.RowKit
set_option maxRecDepth 100000

/-! ### Lists in the dictionary's order -/

def cmpL : List Int → List Int → Int
  | [], [] => 0
  | [], _ :: _ => -1
  | _ :: _, [] => 1
  | x :: a, y :: b => if x < y then -1 else if y < x then 1 else cmpL a b

theorem cmpL_zero : ∀ {a b : List Int}, cmpL a b = 0 ↔ a = b
  | [], [] => by simp [cmpL]
  | [], _ :: _ => by simp [cmpL]
  | _ :: _, [] => by simp [cmpL]
  | x :: a, y :: b => by
    rw [cmpL, List.cons.injEq, ← cmpL_zero (a := a) (b := b)]
    by_cases h1 : x < y
    · rw [if_pos h1]
      constructor
      · intro h; omega
      · intro h; omega
    · by_cases h2 : y < x
      · rw [if_neg h1, if_pos h2]
        constructor
        · intro h; omega
        · intro h; omega
      · rw [if_neg h1, if_neg h2]
        constructor
        · intro h; exact ⟨by omega, h⟩
        · intro h; exact h.2

theorem cmpL_trans : ∀ {a b c : List Int}, cmpL a b < 0 → cmpL b c < 0 → cmpL a c < 0
  | [], [], _, h, _ => by simp [cmpL] at h
  | [], _ :: _, [], _, h => by simp [cmpL] at h
  | [], _ :: _, _ :: _, _, _ => by simp [cmpL]
  | _ :: _, [], _, h, _ => by simp [cmpL] at h
  | _ :: _, _ :: _, [], _, h => by simp [cmpL] at h
  | x :: a, y :: b, z :: c, h, h' => by
    rw [cmpL] at h h' ⊢
    by_cases h1 : x < y
    · by_cases h2 : y < z
      · rw [if_pos (by omega)]; omega
      · rw [if_neg h2] at h'
        by_cases h3 : z < y
        · rw [if_pos h3] at h'; omega
        · rw [if_pos (by omega)]; omega
    · rw [if_neg h1] at h
      by_cases h4 : y < x
      · rw [if_pos h4] at h; omega
      · rw [if_neg h4] at h
        by_cases h2 : y < z
        · rw [if_pos (by omega)]; omega
        · rw [if_neg h2] at h'
          by_cases h3 : z < y
          · rw [if_pos h3] at h'; omega
          · rw [if_neg h3] at h'
            rw [if_neg (by omega), if_neg (by omega)]
            exact cmpL_trans h h'

/-- What is asked of a list of configurations. -/
structure ConfOk (L : List (List Int)) (size labels : Int) : Prop where
  row : ∀ i (h : i < L.length), (L[i].length : Int) = size ∧ L[i].Pairwise (· ≤ ·) ∧ AllIn L[i] 0 (labels - 1)
  rise : ∀ i (h : i + 1 < L.length), cmpL L[i] L[i + 1] < 0

theorem ConfOk.lt {L : List (List Int)} {size labels : Int} (h : ConfOk L size labels) : ∀ j i (_ : i < j) (hj : j < L.length), cmpL (L[i]'(by omega)) L[j] < 0 := by
  intro j
  induction j with
  | zero => intro i hi; omega
  | succ j ih =>
    intro i hi hj
    have h1 := h.rise j hj
    rcases Nat.lt_or_eq_of_le (Nat.le_of_lt_succ hi) with h2 | h2
    · exact cmpL_trans (ih i h2 (by omega)) h1
    · subst h2; exact h1

/-- Pairwise in order, told by neighbours. -/
theorem sorted_next : ∀ {l : List Int}, (∀ k (h : k + 1 < l.length), l[k] ≤ l[k + 1]) ↔ l.Pairwise (· ≤ ·)
  | [] => by simp
  | [x] => by simp
  | x :: y :: l => by
    have ih := sorted_next (l := y :: l)
    rw [List.pairwise_cons, ← ih]
    constructor
    · intro h
      have ht : ∀ k (h : k + 1 < (y :: l).length), (y :: l)[k] ≤ (y :: l)[k + 1] := fun k hk => h (k + 1) (by simp at hk ⊢; omega)
      refine ⟨fun z hz => ?_, ht⟩
      have hxy : x ≤ y := h 0 (by simp)
      have hp := List.pairwise_cons.1 (ih.1 ht)
      rcases List.mem_cons.1 hz with rfl | hz
      · exact hxy
      · exact Int.le_trans hxy (hp.1 z hz)
    · rintro ⟨h1, h2⟩ k hk
      cases k with
      | zero => exact h1 y (by simp)
      | succ k => exact h2 k (by simp at hk ⊢; omega)

/-! ### Comparing -/

theorem isNaN_ok (x : Int) (w : World) : Calls Tryz.prog F.cmp_isNaN_int #[.int .i64 x] w (Ret [.at .bool] fun (b : Bool) w' => b = false ∧ w = w') := by
  refine C_cmp_isNaN_int ?_
  unfold V_cmp_isNaN_int
  exact ⟨by simp, rfl⟩

theorem cmpLess_ok (x y : Int) (w : World) : Calls Tryz.prog F.cmp_Less_int #[.int .i64 x, .int .i64 y] w (Ret [.at .bool] fun (b : Bool) w' => b = decide (x < y) ∧ w = w') := by
  refine C_cmp_Less_int ?_
  unfold V_cmp_Less_int
  refine call (isNaN_ok _ _) ?_
  rintro _ _ ⟨rfl, rfl⟩
  exact cond_b (fun h => by cases h) (fun _ => ⟨rfl, rfl⟩)

theorem cmpCompare_ok (x y : Int) (w : World) : Calls Tryz.prog F.cmp_Compare_int #[.int .i64 x, .int .i64 y] w (Ret [.at (.int .i64)] fun (r : Int) w' => r = (if x < y then -1 else if y < x then 1 else 0) ∧ w = w') := by
  refine C_cmp_Compare_int ?_
  unfold V_cmp_Compare_int
  refine call (isNaN_ok _ _) ?_
  rintro _ _ ⟨rfl, rfl⟩
  refine call (isNaN_ok _ _) ?_
  rintro _ _ ⟨rfl, rfl⟩
  refine cond_b (fun h => by cases h) (fun _ => cond_b (fun h => by cases h) (fun _ => ?_))
  refine cond_dec (fun h => ⟨by rw [if_pos h], rfl⟩) (fun h => cond_dec (fun h2 => ⟨by rw [if_neg h, if_pos h2], rfl⟩) (fun h2 => ⟨by rw [if_neg h, if_neg h2], rfl⟩))

theorem compare_ok {w : World} {s t : Sl} {a b : List Int} (ha : R w s a) (hb : R w t b) :
    Calls Tryz.prog F.slices_Compare_sl_int_int #[s.v, t.v] w (Ret [.at (.int .i64)] fun (r : Int) w' => r = cmpL a b ∧ w = w') := by
  refine C_slices_Compare_sl_int_int ?_
  unfold V_slices_Compare_sl_int_int
  rw [ha.len, hb.len]
  refine ⟨IN a.length fun i w' => w = w' ∧ i ≤ b.length ∧ cmpL a b = cmpL (a.drop i) (b.drop i), MN a.length, IN_zero ⟨rfl, by omega, by simp⟩, ?_⟩
  rintro _ _ ⟨i, rfl, hi, rfl, hib, he⟩
  intros
  refine cond_dec (fun hlt => ?_) (fun hge => ?_)
  · have hi' : i < a.length := by omega
    have hda : a.drop i = a[i] :: a.drop (i + 1) := List.drop_eq_getElem_cons hi'
    refine ha.ixI hi' fun q _ hc => LD_int hc ?_
    refine cond_dec (fun hge => ⟨?_, rfl⟩) (fun hlt2 => ?_)
    · have hdb0 : b.drop i = [] := List.drop_of_length_le (by omega)
      rw [he, hda, hdb0]; rfl
    have hi2 : i < b.length := by omega
    have hdb : b.drop i = b[i] :: b.drop (i + 1) := List.drop_eq_getElem_cons hi2
    refine hb.ixI hi2 fun q _ hc => LD_int hc ?_
    refine call (cmpCompare_ok _ _ _) ?_
    rintro _ _ ⟨rfl, rfl⟩
    rw [hda, hdb, cmpL] at he
    refine cond_ne (fun hne => ⟨?_, rfl⟩) (fun heq => ?_)
    · rw [he]
      by_cases h1 : a[i] < b[i]
      · rw [if_pos h1, if_pos h1]
      · by_cases h2 : b[i] < a[i]
        · rw [if_neg h1, if_pos h2, if_neg h1, if_pos h2]
        · rw [if_neg h1, if_neg h2] at hne; exact absurd rfl hne
    · have h1 : ¬ a[i] < b[i] := fun h => by
        have heq' : (if a[i] < b[i] then (-1 : Int) else if b[i] < a[i] then 1 else 0) = 0 := heq
        rw [if_pos h] at heq'; omega
      have h2 : ¬ b[i] < a[i] := fun h => by
        have heq' : (if a[i] < b[i] then (-1 : Int) else if b[i] < a[i] then 1 else 0) = 0 := heq
        rw [if_neg h1, if_pos h] at heq'; omega
      rw [if_neg h1, if_neg h2] at he
      exact IN_next ha.le hi' ⟨rfl, by omega, he⟩
  · have : i = a.length := by omega
    subst this
    rw [List.drop_length] at he
    refine cond_dec (fun hlt => ⟨?_, rfl⟩) (fun hge2 => ⟨?_, rfl⟩)
    · have hi2 : a.length < b.length := by omega
      rw [he, List.drop_eq_getElem_cons hi2]; rfl
    · rw [he, List.drop_of_length_le (by omega)]; rfl

theorem isSorted_ok {w : World} {s : Sl} {l : List Int} (h : R w s l) :
    Calls Tryz.prog F.slices_IsSorted_sl_int_int #[s.v] w (Ret [.at .bool] fun (b : Bool) w' => (b = true ↔ l.Pairwise (· ≤ ·)) ∧ Ext w w') := by
  refine C_slices_IsSorted_sl_int_int ?_
  unfold V_slices_IsSorted_sl_int_int
  have hle := h.le
  rw [h.len, wrap_of (by omega) (by omega)]
  rw [← sorted_next]
  refine ⟨fun (i : Int) w' => Ext w w' ∧ -1 ≤ i ∧ i ≤ (l.length : Int) - 1 ∧ ∀ k (hk : k + 1 < l.length), i ≤ k → l[k] ≤ l[k + 1], fun i _ => (i + 1).toNat, ⟨Ext.refl _, by omega, by omega, fun k hk hi => by omega⟩, ?_⟩
  rintro i w1 ⟨hE, hi0, hi1, hall⟩
  intros
  refine cond_dec (fun hpos => ?_) (fun hnp => ⟨by simp only [true_iff]; exact fun k hk => hall k hk (by omega), hE⟩)
  obtain ⟨m, rfl⟩ : ∃ m : Nat, i = (m : Int) + 1 := ⟨(i - 1).toNat, by omega⟩
  have hm : m + 1 < l.length := by omega
  have hcast : (m : Int) + 1 = ((m + 1 : Nat) : Int) := by omega
  rw [show (m : Int) + 1 - 1 = (m : Int) by omega, wrap_of (n := (m : Int)) (by omega) (by omega), hcast]
  refine (h.ext hE).ixI hm fun q _ hc => LD_int hc ?_
  refine (h.ext hE).ixI (i := m) (by omega) fun q _ hc => LD_int hc ?_
  refine QCALL_bool (decide (l[m + 1] < l[m])) (fun w' _ => call (cmpLess_ok _ _ _) fun _ _ ⟨h1, h2⟩ => ⟨h1, h2 ▸ Ext.refl _⟩) ?_
  intro w2 hE2
  refine cond_dec (fun hlt => ⟨?_, hE.trans hE2⟩) (fun hge => ?_)
  · simp only [Bool.false_eq_true, false_iff]
    intro hh
    have := hh m hm
    omega
  · refine ⟨⟨hE.trans hE2, by omega, by omega, fun k hk hmk => ?_⟩, by simp only; omega⟩
    by_cases he : k = m
    · subst he; omega
    · exact hall k hk (by omega)

/-! ### The reference's side -/

theorem l1Sign_ok (n : Int) (w : World) : Calls Tryz.prog F.s_l1Sign #[.int .i64 n] w (Ret [.at (.int .i64)] fun (r : Int) w' => r = (if n < 0 then -1 else if 0 < n then 1 else 0) ∧ w = w') := by
  refine C_s_l1Sign ?_
  unfold V_s_l1Sign
  refine cond_dec (fun h => ⟨by rw [if_neg (by omega), if_pos h], rfl⟩) (fun h => cond_dec (fun h2 => ⟨by rw [if_pos h2], rfl⟩) (fun h2 => ⟨by rw [if_neg h2, if_neg h], rfl⟩))

theorem prOrder_ok {w : World} {s t : Sl} {a b : List Int} (ha : R w s a) (hb : R w t b) (hl : a.length = b.length) {c : Int} (hc8 : c ≤ 1000) (hA : AllIn a 0 c) (hB : AllIn b 0 c) :
    Calls Tryz.prog F.s_prOrder #[s.v, t.v] w (Ret [.at (.int .i64)] fun (r : Int) w' => r = cmpL a b ∧ w = w') := by
  refine C_s_prOrder ?_
  unfold V_s_prOrder
  rw [ha.len]
  refine ⟨IN a.length fun i w' => w = w' ∧ cmpL a b = cmpL (a.drop i) (b.drop i), MN a.length, IN_zero ⟨rfl, by simp⟩, ?_⟩
  rintro _ _ ⟨i, rfl, hi, rfl, he⟩
  intros
  refine cond_dec (fun hlt => ?_) (fun hge => ?_)
  · have hi' : i < a.length := by omega
    have hi2 : i < b.length := by omega
    have hda : a.drop i = a[i] :: a.drop (i + 1) := List.drop_eq_getElem_cons hi'
    have hdb : b.drop i = b[i] :: b.drop (i + 1) := List.drop_eq_getElem_cons hi2
    have h1 := hA _ (List.getElem_mem hi')
    have h2 := hB _ (List.getElem_mem hi2)
    rw [hda, hdb, cmpL] at he
    refine ha.ixI hi' fun q _ hc => LD_int hc ?_
    refine hb.ixI hi2 fun q _ hc => LD_int hc ?_
    refine cond_ne (fun hne => ?_) (fun heq => ?_)
    · refine hb.ixI hi2 fun q _ hc => LD_int hc ?_
      rw [wrap_of (by omega) (by omega)]
      refine call (l1Sign_ok _ _) ?_
      rintro _ _ ⟨rfl, rfl⟩
      refine ⟨?_, rfl⟩
      rw [he]
      by_cases h3 : a[i] < b[i]
      · rw [if_pos h3, if_pos (by omega)]
      · have hne' : a[i] ≠ b[i] := hne
        rw [if_neg h3, if_neg (by omega), if_pos (by omega), if_pos (by omega)]
    · have heq' : a[i] = b[i] := heq
      rw [if_neg (by omega), if_neg (by omega)] at he
      exact IN_next ha.le hi' ⟨rfl, he⟩
  · have : i = a.length := by omega
    subst this
    rw [List.drop_length, List.drop_of_length_le (by omega)] at he
    exact ⟨he.symm, rfl⟩

end Go.Proofs.YtnhidomgpbohiaaGreatDoor
end

section
/- Plain facts on walk problems and rooted problems: arcs, pruning, roots. No program in sight. -/
namespace Go.Proofs.YtnhidomgpbohiaaGreatDoor
open Go.GX
set_option maxRecDepth 100000

structure WPr where
  labels : Int
  arcs : List (List Int)
structure RPr where
  labels : Int
  children : Int
  lines : List (List Int)

def arcE (A : List (List Int)) (a b : Nat) : Prop := [(a : Int), (b : Int)] ∈ A
/-- Rows that rise and have labels. -/
structure RowsUp (L : List (List Int)) (size labels : Int) : Prop where
  len : ∀ x ∈ L, (x.length : Int) = size
  lab : ∀ x ∈ L, AllIn x 0 (labels - 1)
  up : ∀ i (h : i + 1 < L.length), cmpL L[i] L[i + 1] < 0
theorem RowsUp.lt {L : List (List Int)} {size labels : Int} (h : RowsUp L size labels) : ∀ j i (_ : i < j) (hj : j < L.length), cmpL (L[i]'(by omega)) L[j] < 0 := by
  intro j
  induction j with
  | zero => intro i hi; omega
  | succ j ih =>
    intro i hi hj
    have h2 := h.up j hj
    by_cases he : i = j
    · subst he; exact h2
    · exact cmpL_trans (ih i (by omega) (by omega)) h2

structure WGood (p : WPr) : Prop where
  lab : 1 ≤ p.labels ∧ p.labels ≤ 12
  up : RowsUp p.arcs 2 p.labels
structure RoGood (p : RPr) : Prop where
  lab : 1 ≤ p.labels ∧ p.labels ≤ 8
  chi : 1 ≤ p.children ∧ p.children ≤ 3
  up : RowsUp p.lines (p.children + 1) p.labels
  sort : ∀ x ∈ p.lines, x.tail.Pairwise (· ≤ ·)

/-- Two rising lists with the same members. -/
theorem up_unique : ∀ {L M : List (List Int)}, L.Pairwise (fun x y => cmpL x y < 0) → M.Pairwise (fun x y => cmpL x y < 0) → (∀ x, x ∈ L ↔ x ∈ M) → L = M
  | [], [], _, _, _ => rfl
  | [], m :: M, _, _, h => by have := (h m).2 (by simp); simp at this
  | l :: L, [], _, _, h => by have := (h l).1 (by simp); simp at this
  | l :: L, m :: M, h1, h2, h => by
    rw [List.pairwise_cons] at h1 h2
    have irr : ∀ x, ¬ cmpL x x < 0 := fun x => by rw [cmpL_zero.2 rfl]; omega
    have e : l = m := by
      rcases List.mem_cons.1 ((h l).1 (by simp)) with h3 | h3
      · exact h3
      · rcases List.mem_cons.1 ((h m).2 (by simp)) with h4 | h4
        · exact h4.symm
        · exact absurd (cmpL_trans (h1.1 m h4) (h2.1 l h3)) (irr l)
    subst e
    rw [up_unique h1.2 h2.2 fun x => ⟨fun hx => ?_, fun hx => ?_⟩]
    · rcases List.mem_cons.1 ((h x).1 (List.mem_cons_of_mem _ hx)) with h3 | h3
      · subst h3; exact absurd (h1.1 x hx) (irr x)
      · exact h3
    · rcases List.mem_cons.1 ((h x).2 (List.mem_cons_of_mem _ hx)) with h3 | h3
      · subst h3; exact absurd (h2.1 x hx) (irr x)
      · exact h3

/-! ### The path form -/

/-- Some line with labels of a set has a label above another. -/
def pathE (lines : List (List Int)) (S : List Int) (a b : Nat) : Prop := ∃ x ∈ lines, (∀ y ∈ x, y ∈ S) ∧ x.head? = some (a : Int) ∧ (b : Int) ∈ x.tail

/-- The arcs of a path form, in order: rising, and these alone. -/
structure PathArcs (lines : List (List Int)) (S : List Int) (A : List (List Int)) : Prop where
  up : A.Pairwise (fun x y => cmpL x y < 0)
  mem : ∀ y, y ∈ A ↔ ∃ x ∈ lines, (∀ z ∈ x, z ∈ S) ∧ ∃ a, x.head? = some a ∧ ∃ b ∈ x.tail, y = [a, b]

theorem PathArcs.unique {lines : List (List Int)} {S : List Int} {A B : List (List Int)} (h : PathArcs lines S A) (h' : PathArcs lines S B) : A = B :=
  up_unique h.up h'.up fun x => (h.mem x).trans (h'.mem x).symm

theorem PathArcs.rel {lines : List (List Int)} {S : List Int} {A : List (List Int)} (h : PathArcs lines S A) : arcE A = pathE lines S := by
  funext a b
  refine propext ((h.mem _).trans ⟨?_, ?_⟩)
  · rintro ⟨x, hx, hS, c, hc, d, hd, he⟩
    simp only [List.cons.injEq, and_true] at he
    obtain ⟨rfl, rfl⟩ := he
    exact ⟨x, hx, hS, hc, hd⟩
  · rintro ⟨x, hx, hS, hc, hd⟩
    exact ⟨x, hx, hS, _, hc, _, hd, rfl⟩

theorem PathArcs.good {R : RPr} (hR : RoGood R) {S : List Int} {A : List (List Int)} (h : PathArcs R.lines S A) : WGood ⟨R.labels, A⟩ := by
  have hm : ∀ y ∈ A, (y.length : Int) = 2 ∧ AllIn y 0 (R.labels - 1) := fun y hy => by
    obtain ⟨x, hx, _, a, ha, b, hb, rfl⟩ := (h.mem y).1 hy
    refine ⟨rfl, fun z hz => ?_⟩
    have hl := hR.up.lab x hx
    simp only [List.mem_cons, List.not_mem_nil, or_false] at hz
    rcases hz with rfl | rfl
    · exact hl _ (List.mem_of_head? ha)
    · exact hl _ (List.mem_of_mem_tail hb)
  have hl := hR.lab
  exact ⟨⟨hl.1, by show R.labels ≤ 12; omega⟩, ⟨fun y hy => (hm y hy).1, fun y hy => (hm y hy).2, fun i hi => (List.pairwise_iff_getElem.1 h.up) i (i + 1) (by have : i + 1 < A.length := hi; omega) hi (by omega)⟩⟩

/-! ### Pruning -/

def allL (n : Nat) : List Int := (List.range n).map fun a : Nat => (a : Int)
noncomputable def pruneL (R : RPr) : Nat → List Int
  | 0 => allL R.labels.toNat
  | k + 1 => flexL (pathE R.lines (pruneL R k)) R.labels.toNat

/-- Where pruning ends. -/
def PruneEnd (R : RPr) (k : Nat) : Prop := pruneL R (k + 1) = [] ∨ pruneL R (k + 1) = pruneL R k
structure PruneIs (R : RPr) (L : List (List Int)) : Prop where
  ex : ∃ k, PruneEnd R k ∧ (∀ j < k, ¬ PruneEnd R j) ∧ L = (List.range (k + 2)).map (pruneL R)
theorem PruneIs.unique {R : RPr} {L M : List (List Int)} (h : PruneIs R L) (h' : PruneIs R M) : L = M := by
  obtain ⟨k, h1, h2, rfl⟩ := h.ex
  obtain ⟨j, h3, h4, rfl⟩ := h'.ex
  rcases Nat.lt_trichotomy k j with hlt | rfl | hgt
  · exact absurd h1 (h4 k hlt)
  · rfl
  · exact absurd h3 (h2 j hgt)

/-! ### The labels of roots -/

end Go.Proofs.YtnhidomgpbohiaaGreatDoor
end

section
/- Walk problems, the program: what follows a label, what walks reach. -/
namespace Go.Proofs.YtnhidomgpbohiaaGreatDoor
open Go.GX Go.RowKit
set_option maxRecDepth 100000

structure RWk (w : World) (s : Sl) (p : WPr) : Prop where
  lab : I64 p.labels
  arcs : R w s p.arcs
theorem RWk.ext {w w' : World} {s : Sl} {p : WPr} (h : RWk w s p) (hE : Ext w w') : RWk w' s p := ⟨h.lab, h.arcs.ext hE⟩

/-- The arcs are pairs of labels. -/
theorem WGood.arc {p : WPr} (h : WGood p) {x : List Int} (hx : x ∈ p.arcs) : ∃ a b : Nat, x = [(a : Int), (b : Int)] ∧ a < p.labels.toNat ∧ b < p.labels.toNat := by
  have h1 := h.up.len x hx
  have h2 := h.up.lab x hx
  match x, h1, h2 with
  | [u, v], _, h2 =>
    have h3 := h2 u (by simp)
    have h4 := h2 v (by simp)
    exact ⟨u.toNat, v.toNat, by rw [Int.toNat_of_nonneg h3.1, Int.toNat_of_nonneg h4.1], by omega, by omega⟩
theorem WGood.rel {p : WPr} (h : WGood p) {a b : Nat} (he : arcE p.arcs a b) : a < p.labels.toNat ∧ b < p.labels.toNat := by
  obtain ⟨c, d, e, h1, h2⟩ := h.arc he
  simp only [List.cons.injEq, and_true] at e
  omega

/-! ### What walks reach -/

end Go.Proofs.YtnhidomgpbohiaaGreatDoor
end

section
/- Walk problems, the program: closure, distances, the period of a component. -/
namespace Go.Proofs.YtnhidomgpbohiaaGreatDoor
open Go.GX Go.RowKit
set_option maxRecDepth 100000

/-! ### Closure -/

end Go.Proofs.YtnhidomgpbohiaaGreatDoor
end

section
/- Walk problems, the program: distances, the period of a component. -/
namespace Go.Proofs.YtnhidomgpbohiaaGreatDoor
open Go.GX Go.RowKit
set_option maxRecDepth 100000

/-- Lengths of walks from a label, -1 where none leads. -/
structure DistOk (E : Nat → Nat → Prop) (n a : Nat) (D : List Int) : Prop where
  len : D.length = n
  val : ∀ b (h : b < D.length), D[b] = -1 ∨ ∃ k : Nat, k ≤ n ∧ D[b] = k ∧ Wk E k a b
  all : ∀ b (h : b < D.length), (∃ k, Wk E k a b) → 0 ≤ D[b]
  zero : ∀ h : a < D.length, D[a] = 0

/-- What holds when lengths below k are done, and of length k the labels of a list. -/
structure DistS (E : Nat → Nat → Prop) (n a k : Nat) (L : List Int) (D : List Int) : Prop where
  len : D.length = n
  val : ∀ b (h : b < D.length), D[b] = -1 ∨ ∃ j : Nat, j ≤ n ∧ D[b] = j ∧ Wk E j a b
  low : ∀ b (h : b < D.length), ∀ j, j < k → Wk E j a b → 0 ≤ D[b]
  cur : ∀ b (h : b < D.length), (b : Int) ∈ L → 0 ≤ D[b]
  zero : ∀ h : a < D.length, D[a] = -1 ∨ D[a] = 0

theorem DistS.I64 {E : Nat → Nat → Prop} {n a k : Nat} {L D : List Int} (h : DistS E n a k L D) (hn : n ≤ 1000) : ∀ x ∈ D, I64 x := fun x hx => by
  obtain ⟨b, hb, rfl⟩ := List.mem_iff_getElem.1 hx
  rcases h.val b hb with he | ⟨j, hj, he, _⟩
  · rw [he]; unfold GX.I64; omega
  · rw [he]; unfold GX.I64; omega
theorem DistOk.I64 {E : Nat → Nat → Prop} {n a : Nat} {D : List Int} (h : DistOk E n a D) (hn : n ≤ 1000) : ∀ x ∈ D, -1 ≤ x ∧ x ≤ n := fun x hx => by
  obtain ⟨b, hb, rfl⟩ := List.mem_iff_getElem.1 hx
  rcases h.val b hb with he | ⟨j, hj, he, _⟩
  · rw [he]; omega
  · rw [he]; omega

/-! ### The greatest common divisor -/

/-! ### The period -/

end Go.Proofs.YtnhidomgpbohiaaGreatDoor
end

section
/- A growing list of lists (of any kind) whose parts are only read: the array is the call's own, its parts lie elsewhere. -/
namespace Go.GX
open Go.RowKit
set_option maxRecDepth 100000

structure RowsR {α : Type} [RepP α] (base : Nat) (e : TypeId) (w : World) (s : Sl) (L : List (List α)) : Prop where
  ex : ∃ ss : List Sl, OwnL w base e s ss ∧ ss.length = L.length ∧ ∀ j (h1 : j < ss.length) (h2 : j < L.length), SlR (fun b => s.v.ownBlock ≠ some b) w ss[j] L[j]

section
variable {α : Type} [RepP α] {base : Nat} {e : TypeId} {w w' : World} {s : Sl} {L : List (List α)}

theorem RowsR.rep (h : RowsR base e w s L) : R w s L := by
  obtain ⟨ss, hO, hl, hr⟩ := h.ex
  exact OwnL.rows (D := fun _ => True) hO hl (fun j h1 h2 => (hr j h1 h2).any) fun _ _ => trivial
theorem RowsR.ext (h : RowsR base e w s L) (hE : Ext w w') : RowsR base e w' s L := by
  obtain ⟨ss, hO, hl, hr⟩ := h.ex
  exact ⟨ss, hO.ext hE, hl, fun j h1 h2 => (hr j h1 h2).ext hE⟩
theorem RowsR.nil (base : Nat) (e : TypeId) (w : World) : RowsR base e w ⟨none, 0, 0⟩ ([] : List (List α)) := ⟨[], OwnL.nil _ _ _, rfl, fun j h1 => by simp at h1⟩
theorem RowsR.blk (h : RowsR base e w s L) {k : Nat} (hk : s.v.ownBlock = some k) : base ≤ k ∧ k < w.heap.size := by
  obtain ⟨ss, hO, _⟩ := h.ex
  exact hO.blk k hk
theorem RowsR.low (h : RowsR base e w s L) {b : Nat} (hb : b ≤ base) : RowsR b e w s L := by
  obtain ⟨ss, hO, hl, hr⟩ := h.ex
  exact ⟨ss, hO.low hb, hl, hr⟩
/-- A list of one, its part made before the array. -/
theorem RowsR.one {b1 : Nat} {w0 : World} {r : Sl} {l : List α} (hE : Ext w0 w) (hO : OwnL w b1 e s [r]) (hb1 : w0.heap.size ≤ b1) (hb : base ≤ b1) (hR : R w0 r l) : RowsR base e w s [l] :=
  ⟨_, hO.low hb, rfl, fun j h1 h2 => by
    have hj : j = 0 := by simp at h2; omega
    subst hj
    have hk : ∀ b, True → b < w0.heap.size → s.v.ownBlock ≠ some b := fun b _ hlt he => by have := (hO.blk b he).1; omega
    exact (hR.weak hk RepP.pos).ext hE⟩

/-- What is made after w0 does not lie in an array that was there. -/
theorem RowsR.new (h : RowsR base e w s L) {w1 : World} {r : Sl} {β : Type} [RepP β] {l : List β} (hr : SlR (fun b => w.heap.size ≤ b) w1 r l) : SlR (fun b => s.v.ownBlock ≠ some b) w1 r l :=
  hr.weak (fun b hb _ he => by have := (h.blk he).2; omega) RepP.pos

/-- The same, the parts lying off some more blocks. -/
structure RowsX (X : Nat → Prop) (base : Nat) (e : TypeId) (w : World) (s : Sl) (L : List (List α)) : Prop where
  ex : ∃ ss : List Sl, OwnL w base e s ss ∧ ss.length = L.length ∧ ∀ j (h1 : j < ss.length) (h2 : j < L.length), SlR (fun b => s.v.ownBlock ≠ some b ∧ ¬ X b) w ss[j] L[j]

theorem RowsX.rep {X : Nat → Prop} (h : RowsX X base e w s L) : R w s L := by
  obtain ⟨ss, hO, hl, hr⟩ := h.ex
  exact OwnL.rows (D := fun _ => True) hO hl (fun j h1 h2 => (hr j h1 h2).any) fun _ _ => trivial
theorem RowsX.ext {X : Nat → Prop} (h : RowsX X base e w s L) (hE : Ext w w') : RowsX X base e w' s L := by
  obtain ⟨ss, hO, hl, hr⟩ := h.ex
  exact ⟨ss, hO.ext hE, hl, fun j h1 h2 => (hr j h1 h2).ext hE⟩
theorem RowsX.nil (X : Nat → Prop) (base : Nat) (e : TypeId) (w : World) : RowsX X base e w ⟨none, 0, 0⟩ ([] : List (List α)) := ⟨[], OwnL.nil _ _ _, rfl, fun j h1 => by simp at h1⟩
theorem RowsX.blk {X : Nat → Prop} (h : RowsX X base e w s L) {k : Nat} (hk : s.v.ownBlock = some k) : base ≤ k ∧ k < w.heap.size := by
  obtain ⟨ss, hO, _⟩ := h.ex
  exact hO.blk k hk
/-- Something outside the array changes. -/
theorem RowsX.chg {X X' : Nat → Prop} (h : RowsX X base e w s L) (hC : Chg w w' X) (hs : ∀ b, s.v.ownBlock = some b → ¬ X b) (hX : ∀ b, X' b → b < w.heap.size → X b) : RowsX X' base e w' s L := by
  obtain ⟨ss, hO, hl, hr⟩ := h.ex
  exact ⟨ss, hO.keep fun b hb => hC.block b (hO.blk b hb).2 (hs b hb), hl, fun j h1 h2 =>
    ((hr j h1 h2).weak (D' := fun b => (s.v.ownBlock ≠ some b ∧ ¬ X b) ∧ ¬ X' b) (fun b h3 h4 => ⟨h3, fun hx => h3.2 (hX b hx h4)⟩) RepP.pos).chg hC (fun b hb _ => hb.1.2) |>.weak (fun b hb _ => ⟨hb.1.1, hb.2⟩) RepP.pos⟩

end
end Go.GX
end

section
/- Walk problems, the program: components, flexible labels. -/
namespace Go.Proofs.YtnhidomgpbohiaaGreatDoor
open Go.GX Go.RowKit
set_option maxRecDepth 100000

/-- What is known of components and periods whose roots are some labels. -/
structure CompsIs (E : Nat → Nat → Prop) (n : Nat) (rs : List Nat) (CL : List (List Int)) (PL : List Int) : Prop where
  cl : CL = rs.map (compL E n)
  pl : PL.length = rs.length
  per : ∀ j (h1 : j < PL.length) (h2 : j < rs.length), ∃ P : Nat, PL[j] = P ∧ P ≤ 100 ∧ (P = 1 ↔ Flex E rs[j])
theorem CompsIs.I64 {E : Nat → Nat → Prop} {n : Nat} {rs : List Nat} {CL : List (List Int)} {PL : List Int} (h : CompsIs E n rs CL PL) : ∀ x ∈ PL, I64 x := fun x hx => by
  obtain ⟨j, hj, rfl⟩ := List.mem_iff_getElem.1 hx
  obtain ⟨P, he, hP, _⟩ := h.per j hj (by rw [← h.pl]; exact hj)
  rw [he]; unfold GX.I64; omega
theorem CompsIs.add {E : Nat → Nat → Prop} {n : Nat} {rs : List Nat} {CL : List (List Int)} {PL : List Int} (h : CompsIs E n rs CL PL) {a P : Nat} (hP : P ≤ 100 ∧ (P = 1 ↔ Flex E a)) : CompsIs E n (rs ++ [a]) (CL ++ [compL E n a]) (PL ++ [(P : Int)]) :=
  ⟨by rw [h.cl, List.map_append, List.map_singleton], by simp [h.pl], fun j h1 h2 => by
    have hpl := h.pl
    by_cases hj : j < rs.length
    · rw [List.getElem_append_left (by omega), List.getElem_append_left hj]
      exact h.per j _ hj
    · have : j = rs.length := by simp at h2; omega
      subst this
      refine ⟨P, ?_, hP.1, ?_⟩
      · rw [List.getElem_append_right (by omega)]; simp [hpl]
      · rw [List.getElem_append_right (by omega)]; simpa using hP.2⟩
structure CompsS (w0 : World) (E : Nat → Nat → Prop) (n a : Nat) (s6 s7 : Sl) (x8 : Int) (w : World) : Prop where
  ext : Ext w0 w
  ex : ∃ rs CL PL, Roots E a rs ∧ CompsIs E n rs CL PL ∧ RowsX (oB s7) w0.heap.size T.t_sl_int w s6 CL ∧ OwnL w w0.heap.size T.t_int s7 PL
  done : x8 = ((maskP n (fun b => ∃ r, r < a ∧ Comp E r b) : Nat) : Int)

end Go.Proofs.YtnhidomgpbohiaaGreatDoor
end

section
/- Walk problems, the reference: matrices of pairs of labels. -/
namespace Go.Proofs.YtnhidomgpbohiaaGreatDoor
open Go.GX Go.RowKit
set_option maxRecDepth 100000

abbrev OwnB (base : Nat) (w : World) (s : Sl) (L : List (List Bool)) (ss : List Sl) : Prop := RowsD w base T.t_bool T.t_sl_bool s L ss

theorem OwnB.repD {base : Nat} {w : World} {s : Sl} {L : List (List Bool)} {ss : List Sl} (h : OwnB base w s L ss) : SlR (fun b => base ≤ b) w s L := h.own2.repD fun _ _ _ _ => trivial

end Go.Proofs.YtnhidomgpbohiaaGreatDoor
end

section
/- Walk problems, the reference: powers of the relation, what walks of some length reach. -/
namespace Go.Proofs.YtnhidomgpbohiaaGreatDoor
open Go.GX Go.RowKit
set_option maxRecDepth 100000

end Go.Proofs.YtnhidomgpbohiaaGreatDoor
end

section
/- The least number that is free, and the rounds that drop a colour: DropColour, both sides. -/
namespace Go.Proofs.YtnhidomgpbohiaaGreatDoor
open Go.GX Go.RowKit
set_option maxRecDepth 100000

/-- The least number that is not in a list. -/
def mex (l : List Int) : Nat := ((List.range (l.length + 1)).find? fun (u : Nat) => !l.contains (u : Int)).getD 0

theorem mex_le (l : List Int) : mex l ≤ l.length := by
  unfold mex
  cases h : (List.range (l.length + 1)).find? (fun (u : Nat) => !l.contains (u : Int)) with
  | none => simp
  | some c => have := List.mem_of_find?_eq_some h; simp at this; simp; omega

theorem near_len {n : Net} (hg : Good n) (l : List Int) {v : Nat} (hv : v < n.ends.length) : (nearOf n.ends l v).length ≤ 6 := by
  rw [near_adj, List.length_map, adj_len hg hv]; exact hg.deg hv

/-! ### Dropping -/

def dropAt (E : Ends) (l : List Int) (c : Int) (v : Nat) : Int := if l.getD v 0 = c then mex (nearOf E l v) else l.getD v 0
def dropOf (E : Ends) (l : List Int) (c : Int) : List Int := (List.range l.length).map (dropAt E l c)

theorem dropOf_len (E : Ends) (l : List Int) (c : Int) : (dropOf E l c).length = l.length := by simp [dropOf]

theorem dropAt_I64 {n : Net} (hg : Good n) {l : List Int} (hl : ∀ x ∈ l, I64 x) (hlen : l.length = n.ends.length) (c : Int) : ∀ v < l.length, I64 (dropAt n.ends l c v) := by
  intro v hv
  unfold dropAt
  split
  · have := mex_le (nearOf n.ends l v)
    have := near_len hg l (v := v) (by omega)
    unfold I64; omega
  · simp [hv]; exact hl _ (List.getElem_mem hv)

theorem dropOf_I64 {n : Net} (hg : Good n) {l : List Int} (hl : ∀ x ∈ l, I64 x) (hlen : l.length = n.ends.length) (c : Int) : ∀ x ∈ dropOf n.ends l c, I64 x := by
  intro x hx
  obtain ⟨v, hv, rfl⟩ := List.mem_map.1 hx
  exact dropAt_I64 hg hl hlen c v (by simpa using hv)

structure DropAsked (n : Net) (l : List Int) (c : Int) : Prop where
  good : Good n
  proper : Proper n l
  whole : inR c 0 1000000000000 = true

end Go.Proofs.YtnhidomgpbohiaaGreatDoor
end

section
/- Degrees, greatest numbers, palettes; GreedyReduce, both sides. -/
namespace Go.Proofs.YtnhidomgpbohiaaGreatDoor
open Go.GX Go.RowKit
set_option maxRecDepth 100000

/-! ### The greatest number -/

def most2 (a b : Int) : Int := if a > b then a else b
def mostOf (l : List Int) : Int := l.foldl most2 0

theorem mostOf_spec (l : List Int) : 0 ≤ mostOf l ∧ (∀ x ∈ l, x ≤ mostOf l) ∧ (mostOf l = 0 ∨ mostOf l ∈ l) := by
  unfold mostOf
  have : ∀ (l : List Int) (m : Int), 0 ≤ m → 0 ≤ l.foldl most2 m ∧ m ≤ l.foldl most2 m ∧ (∀ x ∈ l, x ≤ l.foldl most2 m) ∧ (l.foldl most2 m = m ∨ l.foldl most2 m ∈ l) := by
    intro l
    induction l with
    | nil => intro m hm; simp; exact hm
    | cons y r ih =>
      intro m hm
      have hy : m ≤ most2 m y ∧ y ≤ most2 m y ∧ (most2 m y = m ∨ most2 m y = y) := by
        unfold most2; split <;> omega
      obtain ⟨h1, h2, h3, h4⟩ := ih (most2 m y) (by omega)
      rw [List.foldl_cons]
      refine ⟨h1, by omega, fun x hx => ?_, ?_⟩
      · rcases List.mem_cons.1 hx with rfl | hx
        · omega
        · exact h3 x hx
      · rcases h4 with h4 | h4
        · rcases hy.2.2 with h5 | h5
          · left; rw [h4, h5]
          · right; rw [h4, h5]; simp
        · right; exact List.mem_cons_of_mem _ h4
  obtain ⟨h1, _, h3, h4⟩ := this l 0 (by omega)
  exact ⟨h1, h3, h4⟩

/-! ### Degrees -/

def degsOf (E : Ends) : List Int := E.map fun r => (r.length : Int)

/-! ### What is asked -/

structure PalAsked (n : Net) (l : List Int) (k a : Int) : Prop where
  good : Good n
  pal : 1 ≤ k ∧ k ≤ 1000000000000
  bound : 0 ≤ a ∧ a ≤ 6
  proper : Proper n l
  all : AllIn l 0 (k - 1)
  degs : mostOf (degsOf n.ends) ≤ a

theorem PalAsked.deg {n : Net} {l : List Int} {k a : Int} (h : PalAsked n l k a) {v : Nat} (hv : v < n.ends.length) : (n.ends[v].length : Int) ≤ a := by
  have := (mostOf_spec (degsOf n.ends)).2.1 (n.ends[v].length : Int) (List.mem_map.2 ⟨_, List.getElem_mem hv, rfl⟩)
  have := h.degs
  omega

/-! ### Dropping the greatest colours -/

/-- What a list of colours must be for the rounds. -/
structure ColsOk (n : Net) (a : Int) (l : List Int) : Prop where
  good : Good n
  len : l.length = n.ends.length
  nn : ∀ x ∈ l, 0 ≤ x
  i64 : ∀ x ∈ l, I64 x
  deg : ∀ v, (hv : v < n.ends.length) → (n.ends[v].length : Int) ≤ a

theorem dropOf_mem {n : Net} {a : Int} {l : List Int} (h : ColsOk n a l) {c : Int} : ∀ x ∈ dropOf n.ends l c, (0 ≤ x ∧ x ≤ a) ∨ (x ∈ l ∧ x ≠ c) := fun x hx => by
  obtain ⟨v, hv, rfl⟩ := List.mem_map.1 hx
  have hv' : v < l.length := by simpa using hv
  have hve : v < n.ends.length := by rw [← h.len]; exact hv'
  unfold dropAt
  split
  · left
    have h1 := mex_le (nearOf n.ends l v)
    have h2 : (nearOf n.ends l v).length = n.ends[v].length := by rw [near_adj, List.length_map, adj_len h.good hve]
    have := h.deg v hve
    omega
  · rename_i hne
    right
    simp [hv'] at hne ⊢
    exact hne

theorem ColsOk.drop {n : Net} {a : Int} {l : List Int} (h : ColsOk n a l) (c : Int) : ColsOk n a (dropOf n.ends l c) :=
  ⟨h.good, by rw [dropOf_len]; exact h.len, fun x hx => by
    rcases dropOf_mem h x hx with h1 | h1
    · exact h1.1
    · exact h.nn x h1.1, dropOf_I64 h.good h.i64 h.len c, h.deg⟩

end Go.Proofs.YtnhidomgpbohiaaGreatDoor
end

section
/- Walk problems, the reference: depths within a component. -/
namespace Go.Proofs.YtnhidomgpbohiaaGreatDoor
open Go.GX Go.RowKit
set_option maxRecDepth 100000

/-! ### Depths -/

structure DepOk (E : Nat → Nat → Prop) (n a : Nat) (D : List Int) : Prop where
  len : D.length = n
  val : ∀ b (h : b < D.length), D[b] = -1 ∨ ∃ k : Nat, k ≤ n ∧ D[b] = k ∧ Wk E k a b
  all : ∀ b (h : b < D.length), Comp E a b → 0 ≤ D[b]
  zero : ∀ h : a < D.length, D[a] = 0

theorem DepOk.I64 {E : Nat → Nat → Prop} {n a : Nat} {D : List Int} (h : DepOk E n a D) : ∀ x ∈ D, -1 ≤ x ∧ x ≤ n := fun x hx => by
  obtain ⟨b, hb, rfl⟩ := List.mem_iff_getElem.1 hx
  rcases h.val b hb with he | ⟨j, hj, he, _⟩
  · rw [he]; omega
  · rw [he]; omega
/-- How many labels have a depth. -/
def cntN (D : List Int) : Nat := (D.filter fun x => decide (0 ≤ x)).length
theorem cntN_le (D : List Int) : cntN D ≤ D.length := List.length_filter_le _ _
theorem cntN_set : ∀ {D : List Int} {v : Nat} {k : Int} (hv : v < D.length), D[v] < 0 → 0 ≤ k → cntN (D.set v k) = cntN D + 1
  | x :: D, 0, k, _, h1, h2 => by
    have h1' : ¬ 0 ≤ x := by have : x < 0 := h1; omega
    simp [cntN, h1', h2]
  | x :: D, v + 1, k, hv, h1, h2 => by
    have ih := cntN_set (D := D) (v := v) (k := k) (by simpa using hv) (by simpa using h1) h2
    unfold cntN at ih ⊢
    rw [List.set_cons_succ, List.filter_cons, List.filter_cons]
    split
    · rw [List.length_cons, List.length_cons, ih]
    · exact ih

structure DepV (E : Nat → Nat → Prop) (n a : Nat) (D : List Int) : Prop where
  len : D.length = n
  val : ∀ b (h : b < D.length), D[b] = -1 ∨ ∃ k : Nat, k < cntN D ∧ D[b] = k ∧ Wk E k a b
  zero : ∀ h : a < D.length, D[a] = 0
theorem DepV.I64 {E : Nat → Nat → Prop} {n a : Nat} {D : List Int} (h : DepV E n a D) (hn : n ≤ 1000) : ∀ x ∈ D, I64 x := fun x hx => by
  obtain ⟨b, hb, rfl⟩ := List.mem_iff_getElem.1 hx
  have hc := cntN_le D
  have hl := h.len
  rcases h.val b hb with he | ⟨j, hj, he, _⟩
  · rw [he]; unfold GX.I64; omega
  · rw [he]; unfold GX.I64; omega
/-- The arcs of a list lead from depths to depths. -/
def DepCl (A : List (List Int)) (C D : List Int) : Prop := ∀ u v : Nat, arcE A u v → (v : Int) ∈ C → ∀ (hu : u < D.length) (hv : v < D.length), 0 ≤ D[u] → 0 ≤ D[v]

theorem DepV.step {E : Nat → Nat → Prop} {n a u v : Nat} {D : List Int} (h : DepV E n a D) (hu : u < D.length) (hv : v < D.length) (h0 : 0 ≤ D[u]) (hneg : D[v] < 0) (he : E u v) : DepV E n a (D.set v (D[u] + 1)) ∧ cntN (D.set v (D[u] + 1)) = cntN D + 1 := by
  have hc := cntN_set hv hneg (k := D[u] + 1) (by omega)
  refine ⟨⟨by rw [List.length_set]; exact h.len, fun b hb => ?_, fun hh => ?_⟩, hc⟩
  · rw [List.getElem_set, hc]
    by_cases hbv : v = b
    · subst hbv
      rw [if_pos rfl]
      rcases h.val u hu with h1 | ⟨k, hk, h1, hw⟩
      · omega
      · exact .inr ⟨k + 1, by omega, by rw [h1]; push_cast; rfl, u, hw, he⟩
    · rw [if_neg hbv]
      rcases h.val b (by rw [List.length_set] at hb; exact hb) with h1 | ⟨k, hk, h1, hw⟩
      · exact .inl h1
      · exact .inr ⟨k, by omega, h1, hw⟩
  · rw [List.getElem_set]
    by_cases hav : v = a
    · subst hav
      have := h.zero hv
      omega
    · rw [if_neg hav]; exact h.zero (by rw [List.length_set] at hh; exact hh)

theorem DepCl.all {p : WPr} {n r : Nat} {C D : List Int} (hg : WGood p) (hn : p.labels.toNat = n) (hm : ∀ b : Nat, (b : Int) ∈ C ↔ b < n ∧ Comp (arcE p.arcs) r b) (hl : D.length = n) (h0 : ∀ h : r < D.length, D[r] = 0) (hcl : DepCl p.arcs C D) : ∀ b (h : b < D.length), Comp (arcE p.arcs) r b → 0 ≤ D[b] := by
  have go : ∀ k b, Wk (arcE p.arcs) k r b → Comp (arcE p.arcs) r b → ∀ h : b < D.length, 0 ≤ D[b] := by
    intro k
    induction k with
    | zero => intro b hw _ h; cases hw; rw [h0 h]; omega
    | succ k ih =>
      rintro b ⟨c, hw, he⟩ hc h
      have hcc : Comp (arcE p.arcs) r c := by
        obtain ⟨_, j, q⟩ := hc
        exact ⟨⟨k, hw⟩, _, (Wk.one he).cat q⟩
      have hr2 := hg.rel he
      have hcl2 : c < D.length := by omega
      exact hcl c b he ((hm b).2 ⟨by omega, hc⟩) hcl2 h (ih c hw hcc hcl2)
  intro b h hc
  obtain ⟨⟨k, hw⟩, _⟩ := id hc
  exact go k b hw hc h

end Go.Proofs.YtnhidomgpbohiaaGreatDoor
end

section
/- Walk problems, the reference: components, flexible labels. -/
namespace Go.Proofs.YtnhidomgpbohiaaGreatDoor
open Go.GX Go.RowKit
set_option maxRecDepth 100000

structure WRec where
  a : Sl
  p : Int
  b : Sl

instance : Rep WRec where
  sz := 3
  rep _ _ cs r := cs = [r.a.v, .int .i64 r.p, r.b.v]
  len h := by rw [h]; rfl
  agr _ h := h
  weak _ h := h
instance : RepP WRec := ⟨by decide⟩
theorem one3w (x : Sl) (y : Int) (z : Sl) : ∀ v ∈ [x.v, Value.int .i64 y, z.v], v.oneCell' = true := by intro v hv; simp at hv; rcases hv with rfl | rfl | rfl <;> rfl
instance : Flat WRec where
  cells r := [r.a.v, .int .i64 r.p, r.b.v]
  ok _ := True
  size _ := rfl
  one r v hv := one3w r.a r.p r.b v hv
  repOk _ := rfl
  ofRep h := ⟨h, trivial⟩

/-- What is known of the parts. -/
structure PartIs (E : Nat → Nat → Prop) (r : Nat) (P : Int) : Prop where
  ex : ∃ q : Nat, P = q ∧ q ≤ 100 ∧ (q = 1 ↔ Flex E r)
structure PartsO (base : Nat) (w : World) (s : Sl) (E : Nat → Nat → Prop) (n : Nat) (rs : List Nat) : Prop where
  ex : ∃ recs : List WRec, OwnL w base T.t_s_waPart s recs ∧ recs.length = rs.length ∧ ∀ j (h1 : j < recs.length) (h2 : j < rs.length), SlR (fun b => base ≤ b ∧ s.v.ownBlock ≠ some b) w recs[j].a (compL E n rs[j]) ∧ PartIs E rs[j] recs[j].p

theorem PartsO.nil (base : Nat) (w : World) (E : Nat → Nat → Prop) (n : Nat) : PartsO base w ⟨none, 0, 0⟩ E n [] := ⟨[], OwnL.nil _ _ _, rfl, fun j h1 => by simp at h1⟩
theorem PartsO.keep {base : Nat} {w w' : World} {s : Sl} {E : Nat → Nat → Prop} {n : Nat} {rs : List Nat} (h : PartsO base w s E n rs) {D : Nat → Prop} (hC : Chg w w' D) (hD : ∀ b, base ≤ b → ¬ D b) : PartsO base w' s E n rs := by
  obtain ⟨recs, hO, hl, hr⟩ := h.ex
  exact ⟨recs, hO.keep fun b hb => hC.block b (hO.blk b hb).2 (hD b (hO.blk b hb).1), hl, fun j h1 h2 => ⟨(hr j h1 h2).1.chg hC fun b hb _ => hD b hb.1, (hr j h1 h2).2⟩⟩

theorem slr_ixW {D : Nat → Prop} {w : World} {s : Sl} {l : List Int} (h : SlR D w s l) {i : Nat} (hi : i < l.length) {K : Addr → Prop} (hk : ∀ p, D p.block → w.cell? p = some (.int .i64 l[i]) → K p) : IX s i 1 K := by
  obtain ⟨a, cs, ha, hD, ⟨rfl, _⟩, hc⟩ := h.2.2 i l[i] (by simp [hi])
  have hl := h.1
  exact ⟨a, ha, by omega, by omega, hk _ (by rw [add_block]; exact hD) (hc 0 _ rfl)⟩

/-- A store of one cell into a box, told as a change. -/
theorem ST_boxC {w w0 : World} {p : Addr} {t : TypeId} {cs : List Value} {i : Nat} {v : Value} {K : World → Prop} (h : Box w p t cs) (hi : i < cs.length) (h1 : v.oneCell' = true) (hE : Ext w0 w) (hp : w0.heap.size ≤ p.block)
    (hk : ∀ w', Chg w w' (fun c => c = p.block) → Ext w0 w' → Box w' p t (cs.set i v) → K w') : GX.ST (p.add i) 0 [v] w K :=
  ST_box1 h hi h1 fun w' hz hb hX hB => by
    have hE' := hX w0 hE hp
    exact hk w' ⟨hE'.os.trans hE.os.symm, hE'.tape.trans hE.tape.symm, hE'.output.trans hE.output.symm, by omega, fun k _ hn => hb k hn⟩ hE' hB
end Go.Proofs.YtnhidomgpbohiaaGreatDoor
end

section
/- Walk problems, the reference: flexible labels. -/
namespace Go.Proofs.YtnhidomgpbohiaaGreatDoor
open Go.GX Go.RowKit
set_option maxRecDepth 100000

end Go.Proofs.YtnhidomgpbohiaaGreatDoor
end

section
/- Problems: their configurations looked up, what is asked of them, both sides. -/
namespace Go.Proofs.YtnhidomgpbohiaaGreatDoor
open Go.GX Go.RowKit
set_option maxRecDepth 100000

/-! ### Looking up -/

/-! ### The reference's looking up -/

theorem l1Same_ok {w : World} {s t : Sl} {a b : List Int} (ha : R w s a) (hb : R w t b) :
    Calls Tryz.prog F.s_l1Same #[s.v, t.v] w (Ret [.at .bool] fun (r : Bool) w' => r = decide (a = b) ∧ Ext w w') := by
  refine C_s_l1Same ?_
  unfold V_s_l1Same
  rw [ha.len, hb.len]
  refine cond_ne (fun hne => ⟨?_, Ext.refl _⟩) (fun heq => ?_)
  · have : a ≠ b := fun he => hne (by rw [he])
    simp [this]
  have hl : a.length = b.length := by have heq' : ((a.length : Nat) : Int) = (b.length : Nat) := heq; omega
  refine ⟨IN a.length fun i w' => Ext w w' ∧ ∀ u < i, a[u]? = b[u]?, MN a.length, IN_zero ⟨Ext.refl _, fun u hu => absurd hu (by omega)⟩, ?_⟩
  rintro _ w1 ⟨i, rfl, hi, hE, hI⟩
  intros
  refine cond_dec (fun hlt => ?_) (fun hge => ?_)
  · have hi' : i < a.length := by omega
    have hi2 : i < b.length := by omega
    refine (ha.ext hE).ixI hi' fun q _ hc => LD_int hc ?_
    refine (hb.ext hE).ixI hi2 fun q _ hc => LD_int hc ?_
    intro w2 hE2
    refine cond_ne (fun hne => ⟨?_, hE.trans hE2⟩) (fun heq => IN_next ha.le hi' ⟨hE.trans hE2, all_succ hI ?_⟩)
    · have : a ≠ b := fun he => by subst he; exact hne rfl
      simp [this]
    · have heq' : a[i] = b[i] := heq
      simp [hi', hi2, heq']
  · have : i = a.length := by omega
    subst this
    have : a = b := by
      apply List.ext_getElem?
      intro u
      by_cases hu : u < a.length
      · exact hI u hu
      · rw [List.getElem?_eq_none (by omega), List.getElem?_eq_none (by omega)]
    exact ⟨by simp [this], hE⟩

/-- Sorting by inserting. -/
theorem swap_perm {l : List Int} {k : Nat} (hk : k + 1 < l.length) : ((l.set (k + 1) l[k]).set k l[k + 1]).Perm l := by
  have hl : l = l.take k ++ l[k] :: l[k + 1] :: l.drop (k + 2) := by
    rw [← List.drop_eq_getElem_cons hk, ← List.drop_eq_getElem_cons (show k < l.length by omega), List.take_append_drop]
  have hlen : (l.take k).length = k := by simp; omega
  generalize l[k] = x at *
  generalize l[k + 1] = y at *
  generalize hA : l.take k = A at *
  generalize hB : l.drop (k + 2) = B at *
  rw [hl, List.set_append_right _ _ (by omega), hlen, show k + 1 - k = 1 by omega, List.set_cons_succ, List.set_cons_zero, List.set_append_right _ _ (by omega), hlen, Nat.sub_self, List.set_cons_zero]
  exact List.Perm.append_left _ (List.Perm.swap _ _ _)

def InsInv (M : List Int) (i k : Nat) : Prop := ∀ u v (_ : u < v) (hv : v < M.length), v ≤ i → v ≠ k → M[u]'(by omega) ≤ M[v]

theorem ins_swap {M : List Int} {i k : Nat} (hk : k + 1 < M.length) (hi : i < M.length) (hki : k + 1 ≤ i) (h : InsInv M i (k + 1)) (hgt : M[k] > M[k + 1]) : InsInv ((M.set (k + 1) M[k]).set k M[k + 1]) i k := by
  intro u v huv hv hvi hvk
  have hvM : v < M.length := by simpa using hv
  rw [List.getElem_set, List.getElem_set, List.getElem_set, List.getElem_set]
  by_cases h1 : k = u
  · subst h1
    rw [if_pos rfl, if_neg (by omega)]
    by_cases h2 : k + 1 = v
    · subst h2; rw [if_pos rfl]; omega
    · rw [if_neg h2]
      exact h (k + 1) v (by omega) hvM hvi (by omega)
  · rw [if_neg h1, if_neg (by omega : ¬ k = v)]
    by_cases h3 : k + 1 = u
    · subst h3
      rw [if_pos rfl, if_neg (by omega)]
      exact h k v (by omega) hvM hvi (by omega)
    · rw [if_neg h3]
      by_cases h2 : k + 1 = v
      · subst h2; rw [if_pos rfl]
        exact h u k (by omega) (by omega) (by omega) (by omega)
      · rw [if_neg h2]
        exact h u v huv hvM hvi (by omega)

theorem ins_done {M : List Int} {i k : Nat} (hi : i < M.length) (hki : k ≤ i) (h : InsInv M i k) (hle : k = 0 ∨ ∃ j, ∃ hj : j + 1 < M.length, k = j + 1 ∧ M[j] ≤ M[j + 1]) : InsInv M i (i + 1) := by
  intro u v huv hv hvi _
  by_cases hvk : v = k
  · subst hvk
    rcases hle with h0 | ⟨j, hj, rfl, hjl⟩
    · omega
    · rcases Nat.lt_or_eq_of_le (Nat.le_of_lt_succ huv) with h1 | h1
      · exact Int.le_trans (h u j h1 (by omega) (by omega) (by omega)) hjl
      · subst h1; exact hjl
  · exact h u v huv hv hvi hvk

theorem prSorted_ok {w : World} {s : Sl} {l : List Int} (h : R w s l) (hl : l.length ≤ 1048576) :
    Calls Tryz.prog F.s_prSorted #[s.v] w (Ret [.at .sl] fun (r : Sl) w' => Ext w w' ∧ OwnL w' w.heap.size T.t_int r (sortI l)) := by
  refine C_s_prSorted ?_
  unfold V_s_prSorted
  refine call (l1Own_ok h hl) ?_
  rintro r w1 ⟨hE1, hO1⟩
  have hok := flat_ok h
  rw [hO1.1]
  refine ⟨IN l.length fun i w' => Ext w w' ∧ ∃ M : List Int, OwnL w' w.heap.size T.t_int r M ∧ M.Perm l ∧ InsInv M i i, MN l.length, IN_zero ⟨hE1, l, hO1, List.Perm.refl _, fun u v huv hv hvi hne => absurd hvi (by omega)⟩, ?_⟩
  rintro _ w2 ⟨i, rfl, hi, hE2, M, hO2, hp2, hI2⟩
  intros
  refine cond_dec (fun hlt => ?_) (fun hge => ?_)
  rotate_left
  · have hil : i = l.length := by omega
    subst hil
    have hsort : M.Pairwise (· ≤ ·) := List.pairwise_iff_getElem.2 fun u v hu hv huv => hI2 u v huv hv (by have := hp2.length_eq; omega) (by have := hp2.length_eq; omega)
    have he : M = sortI l := (hp2.trans (sortI_perm l).symm).eq_of_pairwise (fun a b _ _ h1 h2 => Int.le_antisymm h1 h2) hsort (sortI_sorted l)
    rw [he] at hO2
    exact ⟨hE2, hO2⟩
  have hi' : i < l.length := by omega
  refine ⟨fun (k : Int) w' => ∃ j : Nat, k = j ∧ j ≤ i ∧ Ext w w' ∧ ∃ M : List Int, OwnL w' w.heap.size T.t_int r M ∧ M.Perm l ∧ InsInv M i j, fun k _ => k.toNat, ⟨i, rfl, Nat.le_refl _, hE2, M, hO2, hp2, hI2⟩, ?_⟩
  rintro _ w3 ⟨j, rfl, hj, hE3, M3, hO3, hp3, hI3⟩
  intros
  have hlen3 := hp3.length_eq
  have hnext : ∀ w', Ext w3 w' → InsInv M3 i (i + 1) → IN l.length (fun i w' => Ext w w' ∧ ∃ M : List Int, OwnL w' w.heap.size T.t_int r M ∧ M.Perm l ∧ InsInv M i i) (IntKind.i64.wrap ((i : Int) + 1)) w' ∧ MN l.length (IntKind.i64.wrap ((i : Int) + 1)) w' < MN l.length (i : Int) w2 := fun w' hE' hI' => by
    refine IN_next (by omega) hi' ⟨hE3.trans hE', M3, hO3.ext hE', hp3, fun u v huv hv hvi hne => hI' u v huv hv (by omega) (by omega)⟩
  refine cond_dec (fun hpos => ?_) (fun hnp => fun w5 hE5 => ?_)
  rotate_left
  · have : j = 0 := by omega
    subst this
    exact hnext w5 hE5 (ins_done (by omega) (by omega) hI3 (.inl rfl))
  obtain ⟨m, rfl⟩ : ∃ m, j = m + 1 := ⟨j - 1, by omega⟩
  have hm1 : m + 1 < M3.length := by omega
  have hok3 : ∀ x ∈ M3, I64 x := fun x hx => hok x (hp3.mem_iff.1 hx)
  rw [show ((m + 1 : Nat) : Int) - 1 = (m : Int) by omega, wrap_of (n := (m : Int)) (by omega) (by omega)]
  have hR3 := (hO3.rep hok3).any
  refine hR3.ixI (i := m) (by omega) fun q _ hc => LD_int hc ?_
  refine hR3.ixI hm1 fun q _ hc => LD_int hc ?_
  intro w4 hE4
  refine cond_dec (fun hgt => ?_) (fun hng => ?_)
  · have hO4 := hO3.ext hE4
    have hR4 := hR3.ext hE4
    refine hR4.ixI hm1 fun q _ hc => LD_int hc ?_
    refine hR4.ixI (i := m) (by omega) fun q _ hc => LD_int hc ?_
    refine IX_own hO4 hm1 rfl fun q hq => ?_
    refine ST_own hO4 hm1 hq M3[m] rfl fun w8 hO8 hs8 => ?_
    refine IX_own hO8 (i := m) (by simp; omega) rfl fun q2 hq2 => ?_
    refine ST_own hO8 (by simp; omega) hq2 M3[m + 1] rfl fun w9 hO9 hs9 => ?_
    have hEw := hE3.trans hE4
    have hE8 := hs8.ext0 hEw (fun k hk => (hO4.blk k hk).1)
    have hE9 := hs9.ext0 hE8 (fun k hk => (hO8.blk k hk).1)
    exact ⟨⟨m, rfl, by omega, hE9, _, hO9, (swap_perm hm1).trans hp3, ins_swap hm1 (by omega) (by omega) hI3 hgt⟩, by simp only; omega⟩
  · exact hnext w4 hE4 (ins_done (by omega) hj hI3 (.inr ⟨m, hm1, rfl, by omega⟩))

end Go.Proofs.YtnhidomgpbohiaaGreatDoor
end

section
/- Rooted problems: valid ones, both sides; lines with labels of a set. -/
namespace Go.Proofs.YtnhidomgpbohiaaGreatDoor
open Go.GX Go.RowKit
set_option maxRecDepth 100000

structure RRo (w : World) (s : Sl) (p : RPr) : Prop where
  lab : I64 p.labels
  chi : I64 p.children
  lines : R w s p.lines
theorem RRo.ext {w w' : World} {s : Sl} {p : RPr} (h : RRo w s p) (hE : Ext w w') : RRo w' s p := ⟨h.lab, h.chi, h.lines.ext hE⟩

theorem LD_iis {w : World} {p : Addr} {t : TypeId} {x y : Int} {z : Sl} {r : List Value} {K : Int → Int → Sl → Prop} (hb : Box w p t (.int .i64 x :: .int .i64 y :: z.v :: r)) (hk : K x y z) : LD [.int .i64, .int .i64, .sl] p w K := by
  refine ⟨[.int .i64 x, .int .i64 y, z.v], rfl, fun i v hv => ?_, hk⟩
  match i, hv with
  | 0, hv => exact hb.cell (i := 0) hv
  | 1, hv => exact hb.cell (i := 1) hv
  | 2, hv => exact hb.cell (i := 2) hv
  | i + 3, hv => simp at hv
theorem one3r (x y : Int) (z : Sl) : ∀ v ∈ [Value.int .i64 x, .int .i64 y, z.v], v.oneCell' = true := by intro v hv; simp at hv; rcases hv with rfl | rfl | rfl <;> rfl

theorem roHasLabels_ok {w : World} {s t : Sl} {p : RPr} {l : List Int} (hp : 1 ≤ p.labels ∧ p.labels ≤ 8) (hl : R w t l) :
    Calls Tryz.prog F.i_RootedProblem_hasLabels #[.agg #[.int .i64 p.labels, .int .i64 p.children, s.v], t.v] w (Ret [.at .bool] fun (b : Bool) w' => (b = true ↔ AllIn l 0 (p.labels - 1)) ∧ Ext w w') := by
  refine C_i_RootedProblem_hasLabels ?_
  unfold V_i_RootedProblem_hasLabels
  refine NEW_intro fun pp w1 hp1 hs1 hE1 hb1 => LD_bi0 hb1 ?_
  rw [wrap_of (n := p.labels - 1) (by omega) (by omega)]
  refine call (allWithin_ok (hl.ext hE1) _ _) ?_
  rintro b w2 ⟨h1, hE2⟩
  exact ⟨h1, hE1.trans hE2⟩

/-- A line as it is asked. -/
def RowGood (p : RPr) (x : List Int) : Prop := (x.length : Int) = p.children + 1 ∧ AllIn x 0 (p.labels - 1) ∧ x.tail.Pairwise (· ≤ ·)
theorem RoGood.of {p : RPr} (h1 : 1 ≤ p.labels ∧ p.labels ≤ 8) (h2 : 1 ≤ p.children ∧ p.children ≤ 3) (h3 : ∀ u (hu : u < p.lines.length), RowGood p p.lines[u]) (h4 : ∀ u (hu : u + 1 < p.lines.length), cmpL p.lines[u] p.lines[u + 1] < 0) : RoGood p :=
  have key : ∀ x ∈ p.lines, RowGood p x := fun x hx => by
    obtain ⟨u, hu, rfl⟩ := List.mem_iff_getElem.1 hx
    exact h3 u hu
  ⟨h1, h2, ⟨fun x hx => (key x hx).1, fun x hx => (key x hx).2.1, h4⟩, fun x hx => (key x hx).2.2⟩
theorem RoGood.row {p : RPr} (h : RoGood p) {u : Nat} (hu : u < p.lines.length) : RowGood p p.lines[u] := ⟨h.up.len _ (List.getElem_mem hu), h.up.lab _ (List.getElem_mem hu), h.sort _ (List.getElem_mem hu)⟩

theorem sortI_self {l : List Int} (h : l.Pairwise (· ≤ ·)) : sortI l = l := (sortI_perm l).eq_of_pairwise (fun a b _ _ h1 h2 => by omega) (sortI_sorted l) h

theorem IsRootedProblem_ok {w : World} {s : Sl} {p : RPr} (h : RRo w s p) :
    Calls Tryz.prog F.i_IsRootedProblem #[.agg #[.int .i64 p.labels, .int .i64 p.children, s.v]] w (Ret [.at .bool] fun (b : Bool) w' => (b = true ↔ RoGood p) ∧ Ext w w') := by
  refine C_i_IsRootedProblem ?_
  unfold V_i_IsRootedProblem
  refine NEW_intro fun pp w1 hp1 hs1 hE1 hb1 => LD_bi0 hb1 ?_
  have no : ∀ {w' : World}, Ext w w' → ¬ RoGood p → ((false = true ↔ RoGood p) ∧ Ext w w') := fun hE hn => ⟨⟨(fun h => by cases h), (fun h => absurd h hn)⟩, hE⟩
  refine call (within_ok _ _ _ _) ?_
  rintro _ _ ⟨rfl, rfl⟩
  refine cond_not (fun hf => no hE1 fun hg => ?_) (fun ht => LD_bi1 hb1 ?_)
  · have := hg.lab
    simp only [inR, Bool.and_eq_false_iff, decide_eq_false_iff_not] at hf
    omega
  have hl : 1 ≤ p.labels ∧ p.labels ≤ 8 := by simpa [inR] using ht
  refine call (within_ok _ _ _ _) ?_
  rintro _ _ ⟨rfl, rfl⟩
  refine cond_not (fun hf => no hE1 fun hg => ?_) (fun ht2 => ?_)
  · have := hg.chi
    simp only [inR, Bool.and_eq_false_iff, decide_eq_false_iff_not] at hf
    omega
  have hc : 1 ≤ p.children ∧ p.children ≤ 3 := by simpa [inR] using ht2
  unfold V_i_IsRootedProblem_k1
  refine LD_bs2 hb1 ?_
  have hle := h.lines.le
  rw [h.lines.len]
  refine ⟨IN p.lines.length fun i w' => Ext w1 w' ∧ (∀ u < i, ∀ (hu : u < p.lines.length), RowGood p p.lines[u]) ∧ ∀ u, u + 1 < i → ∀ (hu : u + 1 < p.lines.length), cmpL p.lines[u] p.lines[u + 1] < 0, MN p.lines.length, IN_zero ⟨Ext.refl _, fun u hu => absurd hu (by omega), fun u hu => absurd hu (by omega)⟩, ?_⟩
  rintro _ w5 ⟨i, rfl, hi, hE5, h1, h2⟩
  intros
  have hE05 := hE1.trans hE5
  have hb5 := hb1.ext hE5
  refine cond_dec (fun hlt => ?_) (fun hge => ?_)
  rotate_left
  · have : i = p.lines.length := by omega
    subst this
    exact ⟨by simp only [true_iff]; exact RoGood.of hl hc (fun u hu => h1 u hu hu) fun u hu => h2 u hu hu, hE05⟩
  have hi' : i < p.lines.length := by omega
  refine (h.lines.ext hE05).ixL hi' fun q s1 hR1 hcq => LD_sl hcq (LD_bi1 hb5 ?_)
  rw [hR1.len, wrap_of (n := p.children + 1) (by omega) (by omega)]
  refine cond_ne (fun hne => no hE05 fun hg => hne (hg.row hi').1) (fun heq => LD_iis hb5 ?_)
  have hlen : (p.lines[i].length : Int) = p.children + 1 := heq
  refine call (roHasLabels_ok hl hR1.any) ?_
  rintro y w6 ⟨hy, hE6⟩
  have hE06 := hE05.trans hE6
  refine cond_not (fun hf => no hE06 fun hg => by rw [hy.2 (hg.row hi').2.1] at hf; cases hf) (fun ht3 => ?_)
  refine slr_drop (i := 1) (hR1.any.ext hE6) (by omega) rfl fun d hd => ?_
  refine call (isSorted_ok hd) ?_
  rintro z w7 ⟨hz, hE7⟩
  have hE07 := hE06.trans hE7
  rw [List.drop_one] at hz
  refine cond_not (fun hf => no hE07 fun hg => by rw [hz.2 (hg.row hi').2.2] at hf; cases hf) (fun ht4 => ?_)
  have hrow : RowGood p p.lines[i] := ⟨hlen, hy.1 ht3, hz.1 ht4⟩
  have hE57 := hE5.trans (hE6.trans hE7)
  refine cond_dec (fun hpos => ?_) (fun hnp => IN_next hle hi' ⟨hE57, all_succ h1 fun _ => hrow, fun u hu => absurd hu (by omega)⟩)
  refine LD_bs2 ((hb5.ext hE6).ext hE7) ?_
  obtain ⟨j, rfl⟩ : ∃ j, i = j + 1 := ⟨i - 1, by omega⟩
  rw [show ((j + 1 : Nat) : Int) - 1 = (j : Int) by omega, wrap_of (n := (j : Int)) (by omega) (by omega)]
  refine (h.lines.ext hE07).ixL (i := j) (by omega) fun q s2 hR2 hc2 => LD_sl hc2 ?_
  refine call (compare_ok hR2.any (hR1.any.ext (hE6.trans hE7))) ?_
  rintro _ _ ⟨rfl, rfl⟩
  refine cond_dec (fun hge => no hE07 fun hg => by have := hg.up.up j hi'; omega) (fun hlt2 => ?_)
  refine IN_next hle hi' ⟨hE57, all_succ h1 fun _ => hrow, fun u hu hu2 => ?_⟩
  by_cases he : u = j
  · subst he; omega
  · exact h2 u (by omega) hu2

theorem roGood_ok {w : World} {s : Sl} {p : RPr} (h : RRo w s p) :
    Calls Tryz.prog F.s_roGood #[.agg #[.int .i64 p.labels, .int .i64 p.children, s.v]] w (Ret [.at .bool] fun (b : Bool) w' => (b = true ↔ RoGood p) ∧ Ext w w') := by
  refine C_s_roGood ?_
  unfold V_s_roGood
  refine NEW_intro fun pp w1 hp1 hs1 hE1 hb1 => LD_bi0 hb1 ?_
  have no : ∀ {w' : World}, Ext w w' → ¬ RoGood p → ((false = true ↔ RoGood p) ∧ Ext w w') := fun hE hn => ⟨⟨(fun h => by cases h), (fun h => absurd h hn)⟩, hE⟩
  refine call (l1In_ok _ _ _ _) ?_
  rintro _ _ ⟨rfl, rfl⟩
  refine cond_not (fun hf => no hE1 fun hg => ?_) (fun ht => LD_bi1 hb1 ?_)
  · have := hg.lab
    simp only [inR, Bool.and_eq_false_iff, decide_eq_false_iff_not] at hf
    omega
  have hl : 1 ≤ p.labels ∧ p.labels ≤ 8 := by simpa [inR] using ht
  refine call (l1In_ok _ _ _ _) ?_
  rintro _ _ ⟨rfl, rfl⟩
  refine cond_not (fun hf => no hE1 fun hg => ?_) (fun ht2 => ?_)
  · have := hg.chi
    simp only [inR, Bool.and_eq_false_iff, decide_eq_false_iff_not] at hf
    omega
  have hc : 1 ≤ p.children ∧ p.children ≤ 3 := by simpa [inR] using ht2
  unfold V_s_roGood_k1
  refine LD_bs2 hb1 ?_
  have hle := h.lines.le
  rw [h.lines.len]
  refine ⟨IN p.lines.length fun i w' => Ext w1 w' ∧ (∀ u < i, ∀ (hu : u < p.lines.length), RowGood p p.lines[u]) ∧ ∀ u, u + 1 < i → ∀ (hu : u + 1 < p.lines.length), cmpL p.lines[u] p.lines[u + 1] < 0, MN p.lines.length, IN_zero ⟨Ext.refl _, fun u hu => absurd hu (by omega), fun u hu => absurd hu (by omega)⟩, ?_⟩
  rintro _ w5 ⟨i, rfl, hi, hE5, h1, h2⟩
  intros
  refine cond_dec (fun hlt => ?_) (fun hge => ?_)
  rotate_left
  · have : i = p.lines.length := by omega
    subst this
    exact ⟨by simp only [true_iff]; exact RoGood.of hl hc (fun u hu => h1 u hu hu) fun u hu => h2 u hu hu, hE1.trans hE5⟩
  have hi' : i < p.lines.length := by omega
  refine (h.lines.ext (hE1.trans hE5)).ixL hi' fun q s1 hR1 hcq => LD_sl hcq ?_
  intro w6 hE6 _
  have hE16 := hE5.trans hE6
  have hE06 := hE1.trans hE16
  have hb6 := hb1.ext hE16
  have hR6 := hR1.any.ext hE6
  have er := Ext.refl w6
  refine ⟨er, LD_bi1 hb6 ⟨er, er, er, er, ?_⟩⟩
  rw [hR1.len, wrap_of (n := p.children + 1) (by omega) (by omega)]
  refine cond_ne (fun hne => ⟨er, er, er, er, er, no hE06 fun hg => hne (hg.row hi').1⟩) (fun heq => ⟨er, LD_bi0 hb6 ⟨er, er, ?_⟩⟩)
  have hlen : (p.lines[i].length : Int) = p.children + 1 := heq
  rw [wrap_of (n := p.labels - 1) (by omega) (by omega)]
  refine call (l1All_ok hR6 0 (p.labels - 1)) ?_
  rintro y _ ⟨hy, rfl⟩
  refine ⟨er, er, er, er, ?_⟩
  refine cond_not (fun hf => ⟨er, er, er, no hE06 fun hg => by rw [hy.2 (hg.row hi').2.1] at hf; cases hf⟩) (fun ht3 => ?_)
  refine slr_drop (i := 1) hR6 (by omega) rfl fun d hd => ⟨er, ?_⟩
  refine slr_drop (i := 1) hR6 (by omega) rfl fun d2 hd2 => ⟨er, ?_⟩
  have hdl : (p.lines[i].drop 1).length ≤ 1048576 := by rw [List.length_drop]; omega
  refine call (prSorted_ok hd2 hdl) ?_
  rintro u8 w8 ⟨hE8, hO8⟩
  refine ⟨hE8, ?_⟩
  have hd64 : ∀ x ∈ p.lines[i].drop 1, I64 x := fun x hx => by
    have := hy.1 ht3 x (List.mem_of_mem_drop hx)
    unfold GX.I64; omega
  refine call (l1Same_ok (hd.ext hE8) (hO8.rep (sortI_I64 hd64)).any) ?_
  rintro z w9 ⟨rfl, hE9⟩
  have er9 := Ext.refl w9
  have hE69 := hE8.trans hE9
  have hE09 := hE06.trans hE69
  rw [List.drop_one]
  refine ⟨hE9, er9, er9, er9, cond_not (fun hf => ⟨er9, no hE09 fun hg => ?_⟩) (fun ht4 => ⟨er9, er9, er9, ?_⟩)⟩
  · have := sortI_self (hg.row hi').2.2
    simp [this] at hf
  have hst : p.lines[i].tail.Pairwise (· ≤ ·) := by
    have e : p.lines[i].tail = sortI p.lines[i].tail := by simpa using ht4
    rw [e]; exact sortI_sorted _
  have hrow : RowGood p p.lines[i] := ⟨hlen, hy.1 ht3, hst⟩
  have hE19 := hE16.trans hE69
  refine cond_dec (fun hpos => ?_) (fun hnp => ⟨er9, er9, IN_next hle hi' ⟨hE19, all_succ h1 fun _ => hrow, fun u hu => absurd hu (by omega)⟩⟩)
  refine LD_bs2 (hb6.ext hE69) ?_
  obtain ⟨j, rfl⟩ : ∃ j, i = j + 1 := ⟨i - 1, by omega⟩
  rw [show ((j + 1 : Nat) : Int) - 1 = (j : Int) by omega, wrap_of (n := (j : Int)) (by omega) (by omega)]
  have hjr := h1 j (by omega) (by omega)
  refine (h.lines.ext hE09).ixL (i := j) (by omega) fun q s2 hR2 hc2 => LD_sl hc2 ⟨er9, ?_⟩
  refine call (prOrder_ok (c := p.labels - 1) hR2.any (hR6.ext hE69) (by have := hjr.1; omega) (by omega) hjr.2.1 hrow.2.1) ?_
  rintro _ _ ⟨rfl, rfl⟩
  refine ⟨er9, er9, er9, er9, ?_⟩
  refine cond_dec (fun hge => no hE09 fun hg => by have := hg.up.up j hi'; omega) (fun hlt2 => ?_)
  refine IN_next hle hi' ⟨hE19, all_succ h1 fun _ => hrow, fun u hu hu2 => ?_⟩
  by_cases he : u = j
  · subst he; omega
  · exact h2 u (by omega) hu2

end Go.Proofs.YtnhidomgpbohiaaGreatDoor
end

section
/- Texts of rooted problems: written and read, both sides. -/
namespace Go.Proofs.YtnhidomgpbohiaaGreatDoor
open Go.GX Go.RowKit
open Go.Lib (decDigits)
set_option maxRecDepth 100000

def wRooted : List UInt8 := [114, 111, 111, 116, 101, 100]
def wLine : List UInt8 := [108, 105, 110, 101]
def roLines (p : RPr) : List (List UInt8) := lineS wRooted [p.labels, p.children] :: p.lines.map (lineS wLine)
def roTextS (p : RPr) : List UInt8 := linesS (roLines p)

theorem wRooted_32 : (32 : UInt8) ∉ wRooted := by decide
theorem wLine_32 : (32 : UInt8) ∉ wLine := by decide
theorem roLines_no10 (p : RPr) : ∀ x ∈ roLines p, (10 : UInt8) ∉ x := by
  intro x hx
  rcases List.mem_cons.1 hx with rfl | hx
  · exact lineS_no10 (by decide)
  · obtain ⟨y, _, rfl⟩ := List.mem_map.1 hx
    exact lineS_no10 (by decide)

/-- Numbers of a rooted problem's text. -/
def Six (l : List Int) : Prop := ∀ x ∈ l, -1 ≤ x ∧ x < 1000000
theorem RoGood.head {p : RPr} (h : RoGood p) : Six [p.labels, p.children] := by
  intro x hx
  have h1 := h.lab
  have h2 := h.chi
  simp only [List.mem_cons, List.not_mem_nil, or_false] at hx
  rcases hx with rfl | rfl <;> omega
theorem RoGood.six {p : RPr} (h : RoGood p) : ∀ x ∈ p.lines, Six x := by
  intro x hx y hy
  have h1 := h.lab
  have h2 := h.up.lab x hx y hy
  omega

theorem stars_of {ns : List Int} (h : Six ns) : StarsOf (ns.map numS) ns := ⟨rfl, h⟩

theorem rows_inj : ∀ {L M : List (List Int)} {w : List UInt8}, (32 : UInt8) ∉ w → (∀ x ∈ L, Six x) → (∀ x ∈ M, Six x) → L.map (lineS w) = M.map (lineS w) → L = M
  | [], [], _, _, _, _, _ => rfl
  | [], _ :: _, _, _, _, _, h => by cases h
  | _ :: _, [], _, _, _, _, h => by cases h
  | l :: L, m :: M, w, hw, h1, h2, h => by
    obtain ⟨e1, e2⟩ := List.cons.inj h
    have e3 := congrArg (splitB 32) e1
    rw [lineS_words hw, lineS_words hw] at e3
    have e4 := (List.cons.inj e3).2
    have hl := stars_of (h1 l (by simp))
    have hm := stars_of (h2 m (by simp))
    rw [e4] at hl
    rw [hl.unique hm, rows_inj hw (fun x hx => h1 x (by simp [hx])) (fun x hx => h2 x (by simp [hx])) e2]

theorem roText_inj {p q : RPr} (hp : RoGood p) (hq : RoGood q) (h : roTextS p = roTextS q) : p = q := by
  have e := congrArg (splitB 10) h
  unfold roTextS at e
  rw [linesS_split (roLines_no10 p), linesS_split (roLines_no10 q)] at e
  obtain ⟨e1, e2⟩ := List.cons.inj (List.append_inj' e rfl).1
  have e3 := congrArg (splitB 32) e1
  rw [lineS_words wRooted_32, lineS_words wRooted_32] at e3
  have e4 := (List.cons.inj e3).2
  have hl := stars_of hp.head
  rw [e4] at hl
  have e5 := hl.unique (stars_of hq.head)
  have e6 := rows_inj wLine_32 hp.six hq.six e2
  obtain ⟨a, b, L⟩ := p
  obtain ⟨c, d, M⟩ := q
  simp only [List.cons.injEq, and_true] at e5
  obtain ⟨rfl, rfl⟩ := e5
  cases e6; rfl

/-! ### Written -/

theorem linesS_snoc (L : List (List UInt8)) (x : List UInt8) : linesS (L ++ [x]) = linesS L ++ (x ++ [10]) := by simp [linesS]
theorem linesS_len {n : Nat} : ∀ {L : List (List UInt8)}, (∀ x ∈ L, x.length + 1 ≤ n) → (linesS L).length ≤ n * L.length
  | [], _ => by simp [linesS]
  | x :: L, h => by
    have h1 := h x (by simp)
    have h2 := linesS_len (L := L) fun y hy => h y (by simp [hy])
    simp only [linesS, List.flatMap_cons, List.length_append, List.length_cons, List.length_nil] at h2 ⊢
    rw [Nat.mul_succ]; omega

/-- Rows of few numbers. -/
def Few (L : List (List Int)) : Prop := L.length ≤ 10000000 ∧ ∀ x ∈ L, x.length ≤ 10 ∧ Six x
theorem few_len {L : List (List Int)} {w : List UInt8} (h : Few L) (hw : w.length ≤ 20) : ∀ x ∈ L.map (lineS w), x.length + 1 ≤ 100 := by
  intro x hx
  obtain ⟨y, hy, rfl⟩ := List.mem_map.1 hx
  have h1 := h.2 y hy
  have h2 := lineS_len w (l := y) fun z hz => (h1.2 z hz).2
  omega
theorem RoGood.few {p : RPr} (h : RoGood p) (hl : p.lines.length ≤ 10000000) : Few p.lines :=
  ⟨hl, fun x hx => ⟨by have := h.up.len x hx; have := h.chi; omega, h.six x hx⟩⟩
theorem roLines_len {p : RPr} (h : RoGood p) (hl : p.lines.length ≤ 10000000) : ∀ x ∈ roLines p, x.length + 1 ≤ 100 := by
  intro x hx
  rcases List.mem_cons.1 hx with rfl | hx
  · have := lineS_len wRooted (l := [p.labels, p.children]) fun z hz => (h.head z hz).2
    have e : wRooted.length = 6 := rfl
    simp only [List.length_cons, List.length_nil] at this; omega
  · exact few_len (h.few hl) (by decide) x hx

theorem rootedText_ok {w : World} (g : GP w) {s : Sl} {p : RPr} (h : RRo w s p) (hg : RoGood p) (hl : p.lines.length ≤ 10000000) :
    Calls Tryz.prog F.i_rootedText #[.agg #[.int .i64 p.labels, .int .i64 p.children, s.v]] w (Ret [.at .str] fun (r : ByteArray) w' => r = mkS (roTextS p) ∧ Ext w w') := by
  refine C_i_rootedText ?_
  unfold V_i_rootedText
  refine NEW_intro fun pp w1 hp1 hs1 hE1 hb1 => LD_bi0 hb1 (LD_bi1 hb1 ?_)
  refine RUN_lits slt_int [p.labels, p.children] (by simp) (by simp) rfl (by rfl) fun y w2 hE2 hO2 => ?_
  have hI : ∀ x ∈ [p.labels, p.children], I64 x := fun x hx => by have := hg.head x hx; show I64 _; unfold I64; omega
  have hE02 := hE1.trans hE2
  rw [mk_lit [114, 111, 111, 116, 101, 100], mk_lit [10], mk_lit [108, 105, 110, 101]]
  refine call (wordsLine_ok (wd := wRooted) (g.ext hE02) (hO2.rep hI).any hg.head (by simp) (by decide)) ?_
  rintro _ w3 ⟨rfl, hE3⟩
  refine RUN_lit1 (α := ByteArray) slt_str (mkS (lineS wRooted [p.labels, p.children])) rfl (by decide) fun z w4 hE4 hO4 => ?_
  have hE24 := hE3.trans hE4
  have hE04 := hE02.trans hE24
  refine LD_bs2 (hb1.ext (hE2.trans hE24)) ?_
  have hlen := roLines_len hg hl
  have hz4 := hE04.size_le
  have hz3 := (hE02.trans hE3).size_le
  rw [h.lines.len]
  refine ⟨IN2 p.lines.length fun i (out : Sl) w' => Ext w w' ∧ OwnL w' w3.heap.size T.t_string out (((roLines p).take (i + 1)).map mkS), MN2 p.lines.length, IN2_zero ⟨hE04, hO4⟩, ?_⟩
  rintro out _ w5 ⟨i, rfl, hi, hE5, hO5⟩
  intros
  have hrl : (roLines p).length = p.lines.length + 1 := by simp [roLines]
  refine cond_dec (fun hlt => ?_) (fun hge => ?_)
  · have hi' : i < p.lines.length := by omega
    have hrow := (hg.few hl).2 p.lines[i] (List.getElem_mem hi')
    refine (h.lines.ext hE5).ixL hi' fun q t ht hc => LD_sl hc ?_
    refine call (wordsLine_ok (wd := wLine) (g.ext hE5) ht.any hrow.2 (by omega) (by decide)) ?_
    rintro _ w6 ⟨rfl, hE6⟩
    refine RUN_lit1 (α := ByteArray) slt_str (mkS (lineS wLine p.lines[i])) rfl (by decide) fun z w7 hE7 hO7 => ?_
    have hOb := (hO5.ext hE6).ext hE7
    have hz5 := hE5.size_le
    have hz6 := hE6.size_le
    have hz7 := hE7.size_le
    have hz35 : w3.heap.size ≤ w7.heap.size ∨ True := .inr trivial
    have htk : (roLines p).take (i + 1 + 1) = (roLines p).take (i + 1) ++ [lineS wLine p.lines[i]] := by
      rw [List.take_succ_eq_append_getElem (by omega)]
      congr 1
      simp [roLines]
    have hln : ((roLines p).take (i + 1)).length = i + 1 := by rw [List.length_take, hrl]; omega
    have hbw : w3.heap.size ≤ w7.heap.size := by
      rcases hO5.2.2 with ⟨_, h0⟩ | ⟨gb, _, _, hv, hb, hgb, _⟩
      · rw [hO5.1, List.length_map, hln] at h0; omega
      · have := (Array.getElem?_eq_some_iff.1 hgb).1; omega
    refine RUN_append (α := ByteArray) slt_str hOb hbw (hO7.rep (strs_ok _)).any (by rw [List.length_map, hln, List.length_singleton]; omega) (by rw [List.length_map, hln, List.length_singleton]; unfold maxLen; omega) fun r w8 hO8 hs8 => ?_
    refine IN2_next (by omega) hi' ⟨hs8.ext0 ((hE5.trans hE6).trans hE7) fun k hk => by have := (hOb.blk k hk).1; omega, ?_⟩
    rw [htk, List.map_append]; exact hO8
  · have : i = p.lines.length := by omega
    subst this
    rw [← hrl, List.take_length] at hO5
    have hne : roLines p ≠ [] := by simp [roLines]
    have hend := intercalate_end 10 hne
    have htl := linesS_len hlen
    rw [hrl] at htl
    have htl2 : ([10].intercalate (roLines p)).length + 1 = (linesS (roLines p)).length := by
      have := congrArg List.length hend
      simpa [linesS] using this
    refine call (Join_ok (sep := [10]) hO5 (by omega) (by omega)) ?_
    rintro _ w9 ⟨rfl, hE9⟩
    refine ⟨by rw [mkS_size, mkS_size]; simp; omega, ?_, hE5.trans hE9⟩
    rw [mkS_app]
    exact congrArg mkS hend

theorem roText_ok {w : World} {s : Sl} {p : RPr} (h : RRo w s p) (hg : RoGood p) (hl : p.lines.length ≤ 10000000) :
    Calls Tryz.prog F.s_roText #[.agg #[.int .i64 p.labels, .int .i64 p.children, s.v]] w (Ret [.at .str] fun (r : ByteArray) w' => r = mkS (roTextS p) ∧ Ext w w') := by
  refine C_s_roText ?_
  unfold V_s_roText
  refine NEW_intro fun pp w1 hp1 hs1 hE1 hb1 => LD_bi0 hb1 (LD_bi1 hb1 ?_)
  refine RUN_lits slt_int [p.labels, p.children] (by simp) (by simp) rfl (by rfl) fun y w2 hE2 hO2 => ?_
  have hI : ∀ x ∈ [p.labels, p.children], I64 x := fun x hx => by have := hg.head x hx; show I64 _; unfold I64; omega
  have hE02 := hE1.trans hE2
  have hlen := roLines_len hg hl
  rw [mk_lit [114, 111, 111, 116, 101, 100], mk_lit [10], mk_lit [108, 105, 110, 101]]
  refine call (maLine_ok (wd := wRooted) (hO2.rep hI).any hg.head (by simp) (by decide)) ?_
  rintro _ w3 ⟨rfl, hE3⟩
  have hE03 := hE02.trans hE3
  have h1 := hlen _ (List.mem_cons_self ..)
  refine ⟨by rw [mkS_size, mkS_size]; simp; omega, LD_bs2 (hb1.ext (hE2.trans hE3)) ?_⟩
  rw [mkS_app, h.lines.len]
  have hrl : (roLines p).length = p.lines.length + 1 := by simp [roLines]
  refine ⟨IN2 p.lines.length fun i (out : ByteArray) w' => Ext w w' ∧ out = mkS (linesS ((roLines p).take (i + 1))), MN2 p.lines.length, IN2_zero ⟨hE03, by simp [roLines, linesS]⟩, ?_⟩
  rintro _ _ w5 ⟨i, rfl, hi, hE5, rfl⟩
  intros
  refine cond_dec (fun hlt => ?_) (fun hge => ?_)
  · have hi' : i < p.lines.length := by omega
    have hrow := (hg.few hl).2 p.lines[i] (List.getElem_mem hi')
    refine (h.lines.ext hE5).ixL hi' fun q t ht hc => LD_sl hc ?_
    refine call (maLine_ok (wd := wLine) ht.any hrow.2 (by omega) (by decide)) ?_
    rintro _ w6 ⟨rfl, hE6⟩
    have htk : (roLines p).take (i + 1 + 1) = (roLines p).take (i + 1) ++ [lineS wLine p.lines[i]] := by
      rw [List.take_succ_eq_append_getElem (by omega)]
      congr 1
      simp [roLines]
    have hlb := linesS_len (n := 100) (L := (roLines p).take (i + 1)) fun x hx => hlen x (List.mem_of_mem_take hx)
    have hln : ((roLines p).take (i + 1)).length = i + 1 := by rw [List.length_take, hrl]; omega
    rw [hln] at hlb
    have hl1 := hlen (lineS wLine p.lines[i]) (List.mem_cons_of_mem _ (List.mem_map_of_mem (List.getElem_mem hi')))
    refine ⟨by rw [mkS_size, mkS_size]; simp; omega, ?_⟩
    rw [mkS_app]
    refine ⟨by rw [mkS_size, mkS_size]; simp; omega, IN2_next (by omega) hi' ⟨hE5.trans hE6, ?_⟩⟩
    rw [mkS_app, htk, linesS_snoc]
  · have : i = p.lines.length := by omega
    subst this
    rw [← hrl, List.take_length]
    exact ⟨rfl, hE5⟩

end Go.Proofs.YtnhidomgpbohiaaGreatDoor
end
