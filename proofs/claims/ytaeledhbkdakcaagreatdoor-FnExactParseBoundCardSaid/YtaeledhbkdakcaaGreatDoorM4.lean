/- Own texts, merged: TxtL, TxtLib, TxtLine, Bits, Mask, Good, Near, Dist, WalkPure, Values, Sorted, Edges, Col, Match, Sets, Max, Write, Mark, Order, RowsD, Mat, Conf, RootPure, WalkI1, WalkI2, WalkI3, RowsR, WalkI4, WalkS1, WalkS2. -/
import Derived.Test.YtaeledhbkdakcaaGreatDoorM3
import Derived.Shelf.Strings.Builder1
import Derived.Shelf.Strings.Builder2
import Derived.Shelf.Strings.OnBuilder
import Derived.Shelf.Small.Bits
import Derived.Shelf.Small.Wraps
import Derived.Shelf.Strings.BuilderF
import Derived.Shelf.Strings.BuilderK
import Derived.Shelf.Strconv.Atoi
import Derived.Shelf.Strconv.Itoa0
import Derived.Shelf.Strconv.Itoa1
import Derived.Shelf.LaysM
import Derived.Shelf.Strconv.Itoa2
import Derived.Shelf.Strconv.Itoa3
import Derived.Shelf.Strconv.AtoiErrFast
import Derived.Shelf.Strconv.ParseIntEmpty
import Derived.Shelf.Strconv.AtoiFail
import Derived.Shelf.Strconv.Clone
import Derived.Shelf.Strconv.SyntaxError
import Derived.Shelf.LaysC
import Derived.Shelf.Strconv.ToError
import Derived.Shelf.Strconv.AtoiErr
import Derived.Shelf.Strconv.ErrVar
import Derived.Shelf.Strings.Search1
import Derived.Shelf.Strings.Search2
import Derived.Shelf.Strings.Search3
import Derived.Shelf.Strings.Count
import Derived.Shelf.Strings.Shaped
import Derived.Shelf.Strings.Prefix
import Derived.Shelf.Strings.Split
import Derived.Shelf.Strings.SplitShaped
import Derived.Shelf.Strings.RuneCount
import Derived.Shelf.Strings.Explode
import Derived.Ground.Names2Prog
import Derived.Ground.SlgnProg
import Derived.Ground.SlsfProg
import Derived.Test.YtaeledhbkdakcaaGreatDoorProg
import Derived.Lib.AtoiErrMem
import Derived.Lib.SplitLaws
import Derived.Sort.Grow
import Derived.Deep.Draws
import Derived.Laws.Entries
import Derived.RangeFuncBox
import Derived.RangeFuncLeaves
import Derived.Shelf.Abstract
import Derived.WalkKit
import Derived.OwnWalkIn
import Derived.TacticsInMore
import Derived.LoopNIn
import Derived.LoopIn
import Derived.Maps.AppendAt
set_option linter.unusedVariables false
section
/- Contracts of library functions (the kit's shelf, laid at this program by the kit's own tools, in plain words). -/
namespace Go.Proofs.YtaeledhbkdakcaaGreatDoor
open Go.Shelf
def Srt.lays169_ren : Go.Shelf.Ren := ⟨fun | 169 => 104 | n => n, fun | 70 => 113 | 9 => 9 | 0 => 0 | 72 => 116 | 37 => 114 | 127 => 150 | 3 => 3 | 5 => 5 | n => n, fun | n => n⟩
theorem Srt.lays169 : Go.Proofs.Lays.n169 Tryz.prog Srt.lays169_ren := {
  mixed := by kernel_rfl
  f169 := Tryz.func104.trans (congrArg some (by kernel_rfl))
  t0 := Tryz.underlying0
  a0 := Tryz.isAgg0
  z0 := Tryz.sizeOf0
  v0 := Tryz.zeroValue0
  t3 := Tryz.underlying3
  a3 := Tryz.isAgg3
  z3 := Tryz.sizeOf3
  v3 := Tryz.zeroValue3
  t9 := Tryz.underlying9
  a9 := Tryz.isAgg9
  z9 := Tryz.sizeOf9
  v9 := Tryz.zeroValue9
  t37 := Tryz.underlying114
  a37 := Tryz.isAgg114
  z37 := Tryz.sizeOf114
  v37 := Tryz.zeroValue114
  t70 := Tryz.underlying113
  a70 := Tryz.isAgg113
  z70 := Tryz.sizeOf113
  v70 := Tryz.zeroValue113
  t72 := Tryz.underlying116
  a72 := Tryz.isAgg116
  z72 := Tryz.sizeOf116
  v72 := Tryz.zeroValue116
  t127 := Tryz.underlying150
  a127 := Tryz.isAgg150
  z127 := Tryz.sizeOf150
  v127 := Tryz.zeroValue150 }
theorem Srt.Builder_Extra_169 : Builder.Extra Tryz.prog Srt.lays169_ren := {
  sizeBuilder := by kernel_rfl
  liesBuilder := by kernel_rfl
  t5 := Tryz.underlying5
  a5 := Tryz.isAgg5
  z5 := Tryz.sizeOf5
  v5 := Tryz.zeroValue5
  infoByte := by kernel_rfl
  cellsByte := by kernel_rfl
  sizeByte := by kernel_rfl
  neB5 := by decide }
open Go.RowKit in
/-- (*strings.Builder).String: "String returns the accumulated string.": WHATEVER THE BUILDER HOLDS. (LAID: no walk: one application.) -/
theorem Srt.Builder_String_any (B b : Nat) (l : List UInt8) (w : World) (h : Lib.IsBuilder 116 5 B b (Lib.byteCells l) w) (hBw : B ≤ w.heap.size) :
    Calls Tryz.prog 104 #[.pointer (some ⟨b, 0, none⟩)] w fun e w' => e = .returned (.string ⟨l.toArray⟩) ∧ Below B w w' := Any.Builder_String_any Srt.lays169 Srt.Builder_Extra_169 B b l w h hBw
def Srt.lays156_ren : Go.Shelf.Ren := ⟨fun | 156 => 139 | 165 => 176 | 166 => 101 | 169 => 104 | 240 => 138 | 241 => 203 | 276 => 175 | 277 => 235 | n => n, fun | 31 => 61 | 9 => 9 | 3 => 3 | 4 => 4 | 0 => 0 | 20 => 20 | 72 => 116 | 76 => 119 | 70 => 113 | 37 => 114 | 75 => 118 | 127 => 150 | 164 => 173 | 5 => 5 | 80 => 122 | n => n, fun | n => n⟩
theorem Srt.lays156 : Go.Proofs.Lays.n156 Tryz.prog Srt.lays156_ren := {
  mixed := by kernel_rfl
  f156 := Tryz.func139.trans (congrArg some (by kernel_rfl))
  f165 := Tryz.func176.trans (congrArg some (by kernel_rfl))
  f166 := Tryz.func101.trans (congrArg some (by kernel_rfl))
  f169 := Tryz.func104.trans (congrArg some (by kernel_rfl))
  f240 := Tryz.func138.trans (congrArg some (by kernel_rfl))
  f241 := Tryz.func203.trans (congrArg some (by kernel_rfl))
  f276 := Tryz.func175.trans (congrArg some (by kernel_rfl))
  f277 := Tryz.func235.trans (congrArg some (by kernel_rfl))
  t0 := Tryz.underlying0
  a0 := Tryz.isAgg0
  z0 := Tryz.sizeOf0
  v0 := Tryz.zeroValue0
  t3 := Tryz.underlying3
  a3 := Tryz.isAgg3
  z3 := Tryz.sizeOf3
  v3 := Tryz.zeroValue3
  t4 := Tryz.underlying4
  a4 := Tryz.isAgg4
  z4 := Tryz.sizeOf4
  v4 := Tryz.zeroValue4
  t9 := Tryz.underlying9
  a9 := Tryz.isAgg9
  z9 := Tryz.sizeOf9
  v9 := Tryz.zeroValue9
  t20 := Tryz.underlying20
  a20 := Tryz.isAgg20
  z20 := Tryz.sizeOf20
  v20 := Tryz.zeroValue20
  t31 := Tryz.underlying61
  a31 := Tryz.isAgg61
  z31 := Tryz.sizeOf61
  v31 := Tryz.zeroValue61
  t37 := Tryz.underlying114
  a37 := Tryz.isAgg114
  z37 := Tryz.sizeOf114
  v37 := Tryz.zeroValue114
  t70 := Tryz.underlying113
  a70 := Tryz.isAgg113
  z70 := Tryz.sizeOf113
  v70 := Tryz.zeroValue113
  t72 := Tryz.underlying116
  a72 := Tryz.isAgg116
  z72 := Tryz.sizeOf116
  v72 := Tryz.zeroValue116
  t75 := Tryz.underlying118
  a75 := Tryz.isAgg118
  z75 := Tryz.sizeOf118
  v75 := Tryz.zeroValue118
  t76 := Tryz.underlying119
  a76 := Tryz.isAgg119
  z76 := Tryz.sizeOf119
  v76 := Tryz.zeroValue119
  t127 := Tryz.underlying150
  a127 := Tryz.isAgg150
  z127 := Tryz.sizeOf150
  v127 := Tryz.zeroValue150
  t164 := Tryz.underlying173
  a164 := Tryz.isAgg173
  z164 := Tryz.sizeOf173
  v164 := Tryz.zeroValue173 }
theorem Srt.Builder_Extra_156 : Builder.Extra Tryz.prog Srt.lays156_ren := {
  sizeBuilder := by kernel_rfl
  liesBuilder := by kernel_rfl
  t5 := Tryz.underlying5
  a5 := Tryz.isAgg5
  z5 := Tryz.sizeOf5
  v5 := Tryz.zeroValue5
  infoByte := by kernel_rfl
  cellsByte := by kernel_rfl
  sizeByte := by kernel_rfl
  neB5 := by decide }
open Go.RowKit in
/-- No element: the empty string; the world is as it was. (Whatever the slice's address and capacity: a nil slice too.) (LAID: no walk: one application.) -/
theorem Srt.strings_Join_none (a : Option Addr) (c : Nat) (sep : ByteArray) (w : World) :
    Calls Tryz.prog 139 #[.slice a 0 c, .string sep] w fun e w' => e = .returned (.string ⟨#[]⟩) ∧ w' = w := Any.strings_Join_none Srt.lays156 Srt.Builder_Extra_156 a c sep w
open Go.RowKit in
/-- strings.Join: "Join concatenates the elements of its first argument to create a single string. The separator string sep is placed between elements in the resulting string.": HOWEVER MANY ELEMENTS. Below the heap's end the world is as it was. (LAID: no walk: one application.) -/
theorem Srt.strings_Join (bk o c : Nat) (xs : List ByteArray) (sep : ByteArray) (w : World) (hcells : ∀ (j : Nat) x, xs[j]? = some x → w.cell? ⟨bk, o + j, none⟩ = some (.string x)) (hbk : bk < w.heap.size) (hN : xs.length ≤ 140737488355328) (hcap : xs.length ≤ c) (hlen : (Lib.join (xs.map (·.data.toList)) sep.data.toList).length ≤ 140737488355328) :
    Calls Tryz.prog 139 #[.slice (some ⟨bk, o, none⟩) xs.length c, .string sep] w fun e w' => e = .returned (.string ⟨(Lib.join (xs.map (·.data.toList)) sep.data.toList).toArray⟩) ∧ Below w.heap.size w w' := Any.strings_Join Srt.lays156 Srt.Builder_Extra_156 bk o c xs sep w hcells hbk hN hcap hlen
def Srt.lays104_ren : Go.Shelf.Ren := ⟨fun | 104 => 97 | 211 => 134 | 207 => 168 | n => n, fun | 9 => 9 | 4 => 4 | 24 => 74 | 3 => 3 | n => n, fun | n => n⟩
theorem Srt.lays104 : Go.Proofs.Lays.n104 Tryz.prog Srt.lays104_ren := {
  mixed := by kernel_rfl
  f104 := Tryz.func97.trans (congrArg some (by kernel_rfl))
  f207 := Tryz.func168.trans (congrArg some (by kernel_rfl))
  f211 := Tryz.func134.trans (congrArg some (by kernel_rfl))
  t3 := Tryz.underlying3
  a3 := Tryz.isAgg3
  z3 := Tryz.sizeOf3
  v3 := Tryz.zeroValue3
  t4 := Tryz.underlying4
  a4 := Tryz.isAgg4
  z4 := Tryz.sizeOf4
  v4 := Tryz.zeroValue4
  t9 := Tryz.underlying9
  a9 := Tryz.isAgg9
  z9 := Tryz.sizeOf9
  v9 := Tryz.zeroValue9
  t24 := Tryz.underlying74
  a24 := Tryz.isAgg74
  z24 := Tryz.sizeOf74
  v24 := Tryz.zeroValue74 }
open Go.RowKit in
/-- strings.CutSuffix: "CutSuffix returns s without the provided ending suffix string and reports whether it found the suffix. If s doesn't end with suffix, CutSuffix returns s, false. If suffix is the empty string, CutSuffix returns s, true.": IT RETURNS '(Lib.trimSuffix s p, Lib.hasSuffix s p)'; the world is as it was. (LAID: no walk: one application.) -/
theorem Srt.strings_CutSuffix (s p : ByteArray) (w : World) (hs : s.size ≤ 9223372036854775807) :
    Calls Tryz.prog 97 #[.string s, .string p] w fun e w' => e = .returned (.tuple #[.string ⟨(Lib.trimSuffix s.data.toList p.data.toList).toArray⟩, .bool (Lib.hasSuffix s.data.toList p.data.toList)]) ∧ w' = w := Any.strings_CutSuffix Srt.lays104 s p w hs
def Srt.lays172_ren : Go.Shelf.Ren := ⟨fun | 172 => 172 | 244 => 195 | 245 => 196 | 247 => 221 | 279 => 222 | 280 => 223 | 281 => 224 | 282 => 225 | 287 => 250 | 316 => 251 | 171 => 140 | 205 => 252 | 321 => 272 | 322 => 273 | 243 => 177 | 246 => 204 | 283 => 236 | 284 => 237 | 285 => 238 | 286 => 239 | 129 => 163 | 317 => 266 | 318 => 267 | 319 => 268 | 320 => 269 | 337 => 289 | 338 => 164 | n => n, fun | 9 => 9 | 3 => 3 | 75 => 118 | 76 => 119 | 4 => 4 | 5 => 5 | 167 => 204 | 37 => 114 | 0 => 0 | 85 => 205 | 2 => 2 | 168 => 207 | 53 => 135 | 175 => 226 | 46 => 84 | 210 => 230 | 127 => 150 | 145 => 249 | 143 => 247 | 21 => 21 | 171 => 213 | 173 => 215 | 212 => 243 | 51 => 132 | 20 => 20 | 213 => 244 | 232 => 266 | 233 => 183 | 80 => 122 | n => n, fun | 15 => 4 | 16 => 5 | 17 => 6 | 18 => 7 | 19 => 0 | n => n⟩
theorem Srt.lays172 : Go.Proofs.Lays.n172 Tryz.prog Srt.lays172_ren := {
  mixed := by kernel_rfl
  f129 := Tryz.func163.trans (congrArg some (by kernel_rfl))
  f171 := Tryz.func140.trans (congrArg some (by kernel_rfl))
  f172 := Tryz.func172.trans (congrArg some (by kernel_rfl))
  f205 := Tryz.func252.trans (congrArg some (by kernel_rfl))
  f243 := Tryz.func177.trans (congrArg some (by kernel_rfl))
  f244 := Tryz.func195.trans (congrArg some (by kernel_rfl))
  f245 := Tryz.func196.trans (congrArg some (by kernel_rfl))
  f246 := Tryz.func204.trans (congrArg some (by kernel_rfl))
  f247 := Tryz.func221.trans (congrArg some (by kernel_rfl))
  f279 := Tryz.func222.trans (congrArg some (by kernel_rfl))
  f280 := Tryz.func223.trans (congrArg some (by kernel_rfl))
  f281 := Tryz.func224.trans (congrArg some (by kernel_rfl))
  f282 := Tryz.func225.trans (congrArg some (by kernel_rfl))
  f283 := Tryz.func236.trans (congrArg some (by kernel_rfl))
  f284 := Tryz.func237.trans (congrArg some (by kernel_rfl))
  f285 := Tryz.func238.trans (congrArg some (by kernel_rfl))
  f286 := Tryz.func239.trans (congrArg some (by kernel_rfl))
  f287 := Tryz.func250.trans (congrArg some (by kernel_rfl))
  f316 := Tryz.func251.trans (congrArg some (by kernel_rfl))
  f317 := Tryz.func266.trans (congrArg some (by kernel_rfl))
  f318 := Tryz.func267.trans (congrArg some (by kernel_rfl))
  f319 := Tryz.func268.trans (congrArg some (by kernel_rfl))
  f320 := Tryz.func269.trans (congrArg some (by kernel_rfl))
  f321 := Tryz.func272.trans (congrArg some (by kernel_rfl))
  f322 := Tryz.func273.trans (congrArg some (by kernel_rfl))
  f337 := Tryz.func289.trans (congrArg some (by kernel_rfl))
  f338 := Tryz.func164.trans (congrArg some (by kernel_rfl))
  t0 := Tryz.underlying0
  a0 := Tryz.isAgg0
  z0 := Tryz.sizeOf0
  v0 := Tryz.zeroValue0
  t2 := Tryz.underlying2
  a2 := Tryz.isAgg2
  z2 := Tryz.sizeOf2
  v2 := Tryz.zeroValue2
  t3 := Tryz.underlying3
  a3 := Tryz.isAgg3
  z3 := Tryz.sizeOf3
  v3 := Tryz.zeroValue3
  t4 := Tryz.underlying4
  a4 := Tryz.isAgg4
  z4 := Tryz.sizeOf4
  v4 := Tryz.zeroValue4
  t5 := Tryz.underlying5
  a5 := Tryz.isAgg5
  z5 := Tryz.sizeOf5
  v5 := Tryz.zeroValue5
  t9 := Tryz.underlying9
  a9 := Tryz.isAgg9
  z9 := Tryz.sizeOf9
  v9 := Tryz.zeroValue9
  t20 := Tryz.underlying20
  a20 := Tryz.isAgg20
  z20 := Tryz.sizeOf20
  v20 := Tryz.zeroValue20
  t21 := Tryz.underlying21
  a21 := Tryz.isAgg21
  z21 := Tryz.sizeOf21
  v21 := Tryz.zeroValue21
  t37 := Tryz.underlying114
  a37 := Tryz.isAgg114
  z37 := Tryz.sizeOf114
  v37 := Tryz.zeroValue114
  t46 := Tryz.underlying84
  a46 := Tryz.isAgg84
  z46 := Tryz.sizeOf84
  v46 := Tryz.zeroValue84
  t51 := Tryz.underlying132
  a51 := Tryz.isAgg132
  z51 := Tryz.sizeOf132
  v51 := Tryz.zeroValue132
  t53 := Tryz.underlying135
  a53 := Tryz.isAgg135
  z53 := Tryz.sizeOf135
  v53 := Tryz.zeroValue135
  t75 := Tryz.underlying118
  a75 := Tryz.isAgg118
  z75 := Tryz.sizeOf118
  v75 := Tryz.zeroValue118
  t76 := Tryz.underlying119
  a76 := Tryz.isAgg119
  z76 := Tryz.sizeOf119
  v76 := Tryz.zeroValue119
  t85 := Tryz.underlying205
  a85 := Tryz.isAgg205
  z85 := Tryz.sizeOf205
  v85 := Tryz.zeroValue205
  t127 := Tryz.underlying150
  a127 := Tryz.isAgg150
  z127 := Tryz.sizeOf150
  v127 := Tryz.zeroValue150
  t143 := Tryz.underlying247
  a143 := Tryz.isAgg247
  z143 := Tryz.sizeOf247
  v143 := Tryz.zeroValue247
  t145 := Tryz.underlying249
  a145 := Tryz.isAgg249
  z145 := Tryz.sizeOf249
  v145 := Tryz.zeroValue249
  t167 := Tryz.underlying204
  a167 := Tryz.isAgg204
  z167 := Tryz.sizeOf204
  v167 := Tryz.zeroValue204
  t168 := Tryz.underlying207
  a168 := Tryz.isAgg207
  z168 := Tryz.sizeOf207
  v168 := Tryz.zeroValue207
  t171 := Tryz.underlying213
  a171 := Tryz.isAgg213
  z171 := Tryz.sizeOf213
  v171 := Tryz.zeroValue213
  t173 := Tryz.underlying215
  a173 := Tryz.isAgg215
  z173 := Tryz.sizeOf215
  v173 := Tryz.zeroValue215
  t175 := Tryz.underlying226
  a175 := Tryz.isAgg226
  z175 := Tryz.sizeOf226
  v175 := Tryz.zeroValue226
  t210 := Tryz.underlying230
  a210 := Tryz.isAgg230
  z210 := Tryz.sizeOf230
  v210 := Tryz.zeroValue230
  t212 := Tryz.underlying243
  a212 := Tryz.isAgg243
  z212 := Tryz.sizeOf243
  v212 := Tryz.zeroValue243
  t213 := Tryz.underlying244
  a213 := Tryz.isAgg244
  z213 := Tryz.sizeOf244
  t232 := Tryz.underlying266
  a232 := Tryz.isAgg266
  z232 := Tryz.sizeOf266
  v232 := Tryz.zeroValue266
  t233 := Tryz.underlying183
  a233 := Tryz.isAgg183
  z233 := Tryz.sizeOf183
  v233 := Tryz.zeroValue183
  g15 := by kernel_rfl
  g16 := by kernel_rfl
  g17 := by kernel_rfl
  g18 := by kernel_rfl
  g19 := by kernel_rfl }
open Go.RowKit in
/-- strconv.Atoi: "Atoi is equivalent to ParseInt(s, 10, 0), converted to type int.": AT A DECIMAL NUMERAL OF AT MOST 18 BYTES: its value, and a nil error. The world behind the call: the one new row that the library's '[]byte(s)' lays. (LAID: no walk: one application.) -/
theorem Srt.strconv_Atoi (s : ByteArray) (n : Int) (hl : s.size ≤ 18) (h : Lib.atoi s.data.toList = some n) (w : World) :
    Calls Tryz.prog 172 #[.string s] w fun e w' => e = .returned (.tuple #[.int .i64 n, .nilIface]) ∧ ∃ t, w' = Lib.bytesWorld w 5 t := Any.strconv_Atoi Srt.lays172 s n hl h w
def Srt.laysM171_ren : Go.Shelf.Ren := ⟨fun | 171 => 140 | 243 => 177 | 246 => 204 | 283 => 236 | 284 => 237 | 285 => 238 | 286 => 239 | 129 => 163 | 317 => 266 | 318 => 267 | 319 => 268 | 320 => 269 | 337 => 289 | 338 => 164 | n => n, fun | 3 => 3 | 9 => 9 | 2 => 2 | 4 => 4 | 171 => 213 | 0 => 0 | 53 => 135 | 37 => 114 | 5 => 5 | 173 => 215 | 212 => 243 | 51 => 132 | 20 => 20 | 213 => 244 | 46 => 84 | 232 => 266 | 233 => 183 | n => n, fun | 17 => 6 | 18 => 7 | 19 => 0 | n => n⟩
theorem Srt.laysM171 : Go.Proofs.LaysM.n171 Tryz.prog Srt.laysM171_ren := {
  mixed := by kernel_rfl
  f129 := Tryz.func163.trans (congrArg some (by kernel_rfl))
  f171 := Tryz.func140.trans (congrArg some (by kernel_rfl))
  f243 := Tryz.func177.trans (congrArg some (by kernel_rfl))
  f246 := Tryz.func204.trans (congrArg some (by kernel_rfl))
  f283 := Tryz.func236.trans (congrArg some (by kernel_rfl))
  f284 := Tryz.func237.trans (congrArg some (by kernel_rfl))
  f285 := Tryz.func238.trans (congrArg some (by kernel_rfl))
  f286 := Tryz.func239.trans (congrArg some (by kernel_rfl))
  f317 := Tryz.func266.trans (congrArg some (by kernel_rfl))
  f318 := Tryz.func267.trans (congrArg some (by kernel_rfl))
  f319 := Tryz.func268.trans (congrArg some (by kernel_rfl))
  f320 := Tryz.func269.trans (congrArg some (by kernel_rfl))
  f337 := Tryz.func289.trans (congrArg some (by kernel_rfl))
  f338 := Tryz.func164.trans (congrArg some (by kernel_rfl))
  t0 := Tryz.underlying0
  a0 := Tryz.isAgg0
  z0 := Tryz.sizeOf0
  v0 := Tryz.zeroValue0
  t2 := Tryz.underlying2
  a2 := Tryz.isAgg2
  z2 := Tryz.sizeOf2
  v2 := Tryz.zeroValue2
  t3 := Tryz.underlying3
  a3 := Tryz.isAgg3
  z3 := Tryz.sizeOf3
  v3 := Tryz.zeroValue3
  t4 := Tryz.underlying4
  a4 := Tryz.isAgg4
  z4 := Tryz.sizeOf4
  v4 := Tryz.zeroValue4
  t5 := Tryz.underlying5
  a5 := Tryz.isAgg5
  z5 := Tryz.sizeOf5
  v5 := Tryz.zeroValue5
  t9 := Tryz.underlying9
  a9 := Tryz.isAgg9
  z9 := Tryz.sizeOf9
  v9 := Tryz.zeroValue9
  t20 := Tryz.underlying20
  a20 := Tryz.isAgg20
  z20 := Tryz.sizeOf20
  v20 := Tryz.zeroValue20
  t37 := Tryz.underlying114
  a37 := Tryz.isAgg114
  z37 := Tryz.sizeOf114
  v37 := Tryz.zeroValue114
  t46 := Tryz.underlying84
  a46 := Tryz.isAgg84
  z46 := Tryz.sizeOf84
  v46 := Tryz.zeroValue84
  t51 := Tryz.underlying132
  a51 := Tryz.isAgg132
  z51 := Tryz.sizeOf132
  v51 := Tryz.zeroValue132
  t53 := Tryz.underlying135
  a53 := Tryz.isAgg135
  z53 := Tryz.sizeOf135
  v53 := Tryz.zeroValue135
  t171 := Tryz.underlying213
  a171 := Tryz.isAgg213
  z171 := Tryz.sizeOf213
  v171 := Tryz.zeroValue213
  t173 := Tryz.underlying215
  a173 := Tryz.isAgg215
  z173 := Tryz.sizeOf215
  v173 := Tryz.zeroValue215
  t212 := Tryz.underlying243
  a212 := Tryz.isAgg243
  z212 := Tryz.sizeOf243
  v212 := Tryz.zeroValue243
  t213 := Tryz.underlying244
  a213 := Tryz.isAgg244
  z213 := Tryz.sizeOf244
  t232 := Tryz.underlying266
  a232 := Tryz.isAgg266
  z232 := Tryz.sizeOf266
  v232 := Tryz.zeroValue266
  t233 := Tryz.underlying183
  a233 := Tryz.isAgg183
  z233 := Tryz.sizeOf183
  v233 := Tryz.zeroValue183
  g17 := by kernel_rfl
  g18 := by kernel_rfl
  g19 := by kernel_rfl
  i0 := by kernel_rfl
  i2 := by kernel_rfl
  i3 := by kernel_rfl
  i4 := by kernel_rfl
  i5 := by kernel_rfl
  i9 := by kernel_rfl
  i20 := by kernel_rfl
  i37 := by kernel_rfl
  i46 := by kernel_rfl
  i51 := by kernel_rfl
  i53 := by kernel_rfl
  i171 := by kernel_rfl
  i173 := by kernel_rfl
  i212 := by kernel_rfl
  i232 := by kernel_rfl
  i233 := by kernel_rfl
  m17 := by kernel_rfl
  m18 := by kernel_rfl
  m19 := by kernel_rfl }
open Go.RowKit Go.Sort Go.Lib in
/-- strconv.Itoa: "Itoa is equivalent to FormatInt(int64(i), 10).": i's DECIMAL NUMERAL ('Lib.itoa': a '-' where i is negative, then the digits), FOR EVERY int. The world behind the call: the world before it, new blocks behind the heap (the library's 'var a [24]byte'), draws. (LAID: no walk: one application.) -/
theorem Srt.strconv_Itoa (n : Int) (h0 : -9223372036854775808 ≤ n) (h1 : n ≤ 9223372036854775807) (w : World) (htab : Lib.TabIs Tryz.prog w "internal/strconv.uint64pow10" .u64 Lib.pow10Tab) :
    Calls Tryz.prog 140 #[.int .i64 n] w fun e w' => e = .returned (.string ⟨(Lib.itoa n).toArray⟩) ∧ ∃ k os, w' = grow (w.drewN k) os := Any.strconv_Itoa Srt.laysM171 n h0 h1 w htab
def Srt.laysC172_ren : Go.Shelf.Ren := ⟨fun | 172 => 172 | 244 => 195 | 245 => 196 | 247 => 221 | 279 => 222 | 280 => 223 | 281 => 224 | 282 => 225 | 287 => 250 | 316 => 251 | 171 => 140 | 205 => 252 | 321 => 272 | 322 => 273 | 243 => 177 | 246 => 204 | 283 => 236 | 284 => 237 | 285 => 238 | 286 => 239 | 129 => 163 | 317 => 266 | 318 => 267 | 319 => 268 | 320 => 269 | 337 => 289 | 338 => 164 | n => n, fun | 9 => 9 | 3 => 3 | 75 => 118 | 76 => 119 | 4 => 4 | 5 => 5 | 167 => 204 | 37 => 114 | 0 => 0 | 85 => 205 | 2 => 2 | 168 => 207 | 53 => 135 | 175 => 226 | 46 => 84 | 210 => 230 | 127 => 150 | 145 => 249 | 143 => 247 | 21 => 21 | 171 => 213 | 173 => 215 | 212 => 243 | 51 => 132 | 20 => 20 | 213 => 244 | 232 => 266 | 233 => 183 | 80 => 122 | n => n, fun | 15 => 4 | 16 => 5 | 17 => 6 | 18 => 7 | 19 => 0 | n => n⟩
theorem Srt.laysC172 : Go.Proofs.LaysC.n172 Tryz.prog Srt.laysC172_ren := {
  mixed := by kernel_rfl
  f129 := Tryz.func163.trans (congrArg some (by kernel_rfl))
  f171 := Tryz.func140.trans (congrArg some (by kernel_rfl))
  f172 := Tryz.func172.trans (congrArg some (by kernel_rfl))
  f205 := Tryz.func252.trans (congrArg some (by kernel_rfl))
  f243 := Tryz.func177.trans (congrArg some (by kernel_rfl))
  f244 := Tryz.func195.trans (congrArg some (by kernel_rfl))
  f245 := Tryz.func196.trans (congrArg some (by kernel_rfl))
  f246 := Tryz.func204.trans (congrArg some (by kernel_rfl))
  f247 := Tryz.func221.trans (congrArg some (by kernel_rfl))
  f279 := Tryz.func222.trans (congrArg some (by kernel_rfl))
  f280 := Tryz.func223.trans (congrArg some (by kernel_rfl))
  f281 := Tryz.func224.trans (congrArg some (by kernel_rfl))
  f282 := Tryz.func225.trans (congrArg some (by kernel_rfl))
  f283 := Tryz.func236.trans (congrArg some (by kernel_rfl))
  f284 := Tryz.func237.trans (congrArg some (by kernel_rfl))
  f285 := Tryz.func238.trans (congrArg some (by kernel_rfl))
  f286 := Tryz.func239.trans (congrArg some (by kernel_rfl))
  f287 := Tryz.func250.trans (congrArg some (by kernel_rfl))
  f316 := Tryz.func251.trans (congrArg some (by kernel_rfl))
  f317 := Tryz.func266.trans (congrArg some (by kernel_rfl))
  f318 := Tryz.func267.trans (congrArg some (by kernel_rfl))
  f319 := Tryz.func268.trans (congrArg some (by kernel_rfl))
  f320 := Tryz.func269.trans (congrArg some (by kernel_rfl))
  f321 := Tryz.func272.trans (congrArg some (by kernel_rfl))
  f322 := Tryz.func273.trans (congrArg some (by kernel_rfl))
  f337 := Tryz.func289.trans (congrArg some (by kernel_rfl))
  f338 := Tryz.func164.trans (congrArg some (by kernel_rfl))
  t0 := Tryz.underlying0
  a0 := Tryz.isAgg0
  z0 := Tryz.sizeOf0
  v0 := Tryz.zeroValue0
  t2 := Tryz.underlying2
  a2 := Tryz.isAgg2
  z2 := Tryz.sizeOf2
  v2 := Tryz.zeroValue2
  t3 := Tryz.underlying3
  a3 := Tryz.isAgg3
  z3 := Tryz.sizeOf3
  v3 := Tryz.zeroValue3
  t4 := Tryz.underlying4
  a4 := Tryz.isAgg4
  z4 := Tryz.sizeOf4
  v4 := Tryz.zeroValue4
  t5 := Tryz.underlying5
  a5 := Tryz.isAgg5
  z5 := Tryz.sizeOf5
  v5 := Tryz.zeroValue5
  t9 := Tryz.underlying9
  a9 := Tryz.isAgg9
  z9 := Tryz.sizeOf9
  v9 := Tryz.zeroValue9
  t20 := Tryz.underlying20
  a20 := Tryz.isAgg20
  z20 := Tryz.sizeOf20
  v20 := Tryz.zeroValue20
  t21 := Tryz.underlying21
  a21 := Tryz.isAgg21
  z21 := Tryz.sizeOf21
  v21 := Tryz.zeroValue21
  t37 := Tryz.underlying114
  a37 := Tryz.isAgg114
  z37 := Tryz.sizeOf114
  v37 := Tryz.zeroValue114
  t46 := Tryz.underlying84
  a46 := Tryz.isAgg84
  z46 := Tryz.sizeOf84
  v46 := Tryz.zeroValue84
  t51 := Tryz.underlying132
  a51 := Tryz.isAgg132
  z51 := Tryz.sizeOf132
  v51 := Tryz.zeroValue132
  t53 := Tryz.underlying135
  a53 := Tryz.isAgg135
  z53 := Tryz.sizeOf135
  v53 := Tryz.zeroValue135
  t75 := Tryz.underlying118
  a75 := Tryz.isAgg118
  z75 := Tryz.sizeOf118
  v75 := Tryz.zeroValue118
  t76 := Tryz.underlying119
  a76 := Tryz.isAgg119
  z76 := Tryz.sizeOf119
  v76 := Tryz.zeroValue119
  t85 := Tryz.underlying205
  a85 := Tryz.isAgg205
  z85 := Tryz.sizeOf205
  v85 := Tryz.zeroValue205
  t127 := Tryz.underlying150
  a127 := Tryz.isAgg150
  z127 := Tryz.sizeOf150
  v127 := Tryz.zeroValue150
  t143 := Tryz.underlying247
  a143 := Tryz.isAgg247
  z143 := Tryz.sizeOf247
  v143 := Tryz.zeroValue247
  t145 := Tryz.underlying249
  a145 := Tryz.isAgg249
  z145 := Tryz.sizeOf249
  v145 := Tryz.zeroValue249
  t167 := Tryz.underlying204
  a167 := Tryz.isAgg204
  z167 := Tryz.sizeOf204
  v167 := Tryz.zeroValue204
  t168 := Tryz.underlying207
  a168 := Tryz.isAgg207
  z168 := Tryz.sizeOf207
  v168 := Tryz.zeroValue207
  t171 := Tryz.underlying213
  a171 := Tryz.isAgg213
  z171 := Tryz.sizeOf213
  v171 := Tryz.zeroValue213
  t173 := Tryz.underlying215
  a173 := Tryz.isAgg215
  z173 := Tryz.sizeOf215
  v173 := Tryz.zeroValue215
  t175 := Tryz.underlying226
  a175 := Tryz.isAgg226
  z175 := Tryz.sizeOf226
  v175 := Tryz.zeroValue226
  t210 := Tryz.underlying230
  a210 := Tryz.isAgg230
  z210 := Tryz.sizeOf230
  v210 := Tryz.zeroValue230
  t212 := Tryz.underlying243
  a212 := Tryz.isAgg243
  z212 := Tryz.sizeOf243
  v212 := Tryz.zeroValue243
  t213 := Tryz.underlying244
  a213 := Tryz.isAgg244
  z213 := Tryz.sizeOf244
  t232 := Tryz.underlying266
  a232 := Tryz.isAgg266
  z232 := Tryz.sizeOf266
  v232 := Tryz.zeroValue266
  t233 := Tryz.underlying183
  a233 := Tryz.isAgg183
  z233 := Tryz.sizeOf183
  v233 := Tryz.zeroValue183
  g15 := by kernel_rfl
  g16 := by kernel_rfl
  g17 := by kernel_rfl
  g18 := by kernel_rfl
  g19 := by kernel_rfl
  t80 := Tryz.underlying122
  a80 := Tryz.isAgg122
  z80 := Tryz.sizeOf122
  v80 := Tryz.zeroValue122
  i0 := by kernel_rfl
  i2 := by kernel_rfl
  i3 := by kernel_rfl
  i4 := by kernel_rfl
  i5 := by kernel_rfl
  i9 := by kernel_rfl
  i20 := by kernel_rfl
  i21 := by kernel_rfl
  i37 := by kernel_rfl
  i46 := by kernel_rfl
  i51 := by kernel_rfl
  i53 := by kernel_rfl
  i75 := by kernel_rfl
  i76 := by kernel_rfl
  i80 := by kernel_rfl
  i85 := by kernel_rfl
  i127 := by kernel_rfl
  i143 := by kernel_rfl
  i145 := by kernel_rfl
  i167 := by kernel_rfl
  i168 := by kernel_rfl
  i171 := by kernel_rfl
  i173 := by kernel_rfl
  i175 := by kernel_rfl
  i210 := by kernel_rfl
  i212 := by kernel_rfl
  i232 := by kernel_rfl
  i233 := by kernel_rfl
  m15 := by kernel_rfl
  m16 := by kernel_rfl
  m17 := by kernel_rfl
  m18 := by kernel_rfl
  m19 := by kernel_rfl
  c0 := by kernel_rfl
  c2 := by kernel_rfl
  c3 := by kernel_rfl
  c4 := by kernel_rfl
  c5 := by kernel_rfl
  c9 := by kernel_rfl
  c20 := by kernel_rfl
  c21 := by kernel_rfl
  c37 := by kernel_rfl
  c46 := by kernel_rfl
  c51 := by kernel_rfl
  c53 := by kernel_rfl
  c75 := by kernel_rfl
  c76 := by kernel_rfl
  c80 := by kernel_rfl
  c85 := by kernel_rfl
  c127 := by kernel_rfl
  c143 := by kernel_rfl
  c145 := by kernel_rfl
  c167 := by kernel_rfl
  c168 := by kernel_rfl
  c171 := by kernel_rfl
  c173 := by kernel_rfl
  c175 := by kernel_rfl
  c210 := by kernel_rfl
  c212 := by kernel_rfl
  c213 := by kernel_rfl
  c232 := by kernel_rfl
  c233 := by kernel_rfl }
open Go.RowKit in
/-- strconv.Atoi, AT EVERY STRING OF AT MOST 18 BYTES THAT IS NO DECIMAL NUMERAL (the empty one too): 0, AND AN ERROR THAT IS NOT nil: a *NumError in a new block N: {Func: "Atoi", Num: s's bytes, Err: what the variable ErrSyntax holds}. Of what was there nothing has turned. (LAID: no walk: one application.) -/
theorem Srt.strconv_Atoi_err (s : ByteArray) (hl : s.size ≤ 18) (h : Lib.atoi s.data.toList = none) (ev : Value) (w : World) (hv : w.cell? ⟨4, 0, none⟩ = some ev) (hev : ev = .nilIface ∨ ∃ te pe, ev = .iface te pe) :
    Calls Tryz.prog 172 #[.string s] w fun e w' => ∃ N, e = .returned (.tuple #[.int .i64 0, .iface 207 (.pointer (some ⟨N, 0, none⟩))]) ∧ w.heap.size ≤ N ∧ w'.heap[N]? = some (.cells #[.string ⟨#[65, 116, 111, 105]⟩, .string s, ev] 230 (0, 0)) ∧ Below w.heap.size w w' := Any.strconv_Atoi_err Srt.laysC172 s hl h ev w hv hev
def Srt.lays146_ren : Go.Shelf.Ren := ⟨fun | 146 => 98 | 221 => 135 | 268 => 169 | 138 => 170 | 143 => 171 | 195 => 191 | 197 => 192 | 218 => 193 | 219 => 194 | 260 => 216 | 217 => 217 | 225 => 218 | 224 => 219 | 267 => 220 | 266 => 248 | 314 => 249 | n => n, fun | 9 => 9 | 31 => 61 | 3 => 3 | 4 => 4 | 0 => 0 | 105 => 188 | 21 => 21 | 5 => 5 | 46 => 84 | 119 => 221 | 139 => 224 | 138 => 223 | 146 => 133 | 51 => 132 | n => n, fun | 1 => 1 | 3 => 2 | 4 => 3 | n => n⟩
theorem Srt.lays146 : Go.Proofs.Lays.n146 Tryz.prog Srt.lays146_ren := {
  mixed := by kernel_rfl
  f138 := Tryz.func170.trans (congrArg some (by kernel_rfl))
  f143 := Tryz.func171.trans (congrArg some (by kernel_rfl))
  f146 := Tryz.func98.trans (congrArg some (by kernel_rfl))
  f195 := Tryz.func191.trans (congrArg some (by kernel_rfl))
  f197 := Tryz.func192.trans (congrArg some (by kernel_rfl))
  f217 := Tryz.func217.trans (congrArg some (by kernel_rfl))
  f218 := Tryz.func193.trans (congrArg some (by kernel_rfl))
  f219 := Tryz.func194.trans (congrArg some (by kernel_rfl))
  f221 := Tryz.func135.trans (congrArg some (by kernel_rfl))
  f224 := Tryz.func219.trans (congrArg some (by kernel_rfl))
  f225 := Tryz.func218.trans (congrArg some (by kernel_rfl))
  f260 := Tryz.func216.trans (congrArg some (by kernel_rfl))
  f266 := Tryz.func248.trans (congrArg some (by kernel_rfl))
  f267 := Tryz.func220.trans (congrArg some (by kernel_rfl))
  f268 := Tryz.func169.trans (congrArg some (by kernel_rfl))
  f314 := Tryz.func249.trans (congrArg some (by kernel_rfl))
  t0 := Tryz.underlying0
  a0 := Tryz.isAgg0
  z0 := Tryz.sizeOf0
  v0 := Tryz.zeroValue0
  t3 := Tryz.underlying3
  a3 := Tryz.isAgg3
  z3 := Tryz.sizeOf3
  v3 := Tryz.zeroValue3
  t4 := Tryz.underlying4
  a4 := Tryz.isAgg4
  z4 := Tryz.sizeOf4
  v4 := Tryz.zeroValue4
  t5 := Tryz.underlying5
  a5 := Tryz.isAgg5
  z5 := Tryz.sizeOf5
  v5 := Tryz.zeroValue5
  t9 := Tryz.underlying9
  a9 := Tryz.isAgg9
  z9 := Tryz.sizeOf9
  v9 := Tryz.zeroValue9
  t21 := Tryz.underlying21
  a21 := Tryz.isAgg21
  z21 := Tryz.sizeOf21
  v21 := Tryz.zeroValue21
  t31 := Tryz.underlying61
  a31 := Tryz.isAgg61
  z31 := Tryz.sizeOf61
  v31 := Tryz.zeroValue61
  t46 := Tryz.underlying84
  a46 := Tryz.isAgg84
  z46 := Tryz.sizeOf84
  v46 := Tryz.zeroValue84
  t51 := Tryz.underlying132
  a51 := Tryz.isAgg132
  z51 := Tryz.sizeOf132
  v51 := Tryz.zeroValue132
  t105 := Tryz.underlying188
  a105 := Tryz.isAgg188
  z105 := Tryz.sizeOf188
  v105 := Tryz.zeroValue188
  t119 := Tryz.underlying221
  a119 := Tryz.isAgg221
  z119 := Tryz.sizeOf221
  t138 := Tryz.underlying223
  a138 := Tryz.isAgg223
  z138 := Tryz.sizeOf223
  v138 := Tryz.zeroValue223
  t139 := Tryz.underlying224
  a139 := Tryz.isAgg224
  z139 := Tryz.sizeOf224
  v139 := Tryz.zeroValue224
  t146 := Tryz.underlying133
  a146 := Tryz.isAgg133
  z146 := Tryz.sizeOf133
  v146 := Tryz.zeroValue133
  g1 := by kernel_rfl
  g3 := by kernel_rfl
  g4 := by kernel_rfl }
open Go.RowKit Go.Lib in
/-- strings.Split. (LAID: no walk: one application.) -/
theorem Srt.strings_Split (s sep : ByteArray) (m : Int) (w : World) (hs : s.size < 4294967281) (hm : w.cell? ⟨1, 0, none⟩ = some (.int .i64 m)) (h1 : 1 ≤ sep.size) :
    Calls Tryz.prog 98 #[.string s, .string sep] w fun e w' =>
      e = .returned (.slice (some ⟨w.heap.size, 0, none⟩) (Lib.countB s sep + 1) (Lib.countB s sep + 1)) ∧ w' = w.alloc (.cells ((Lib.splitB sep 0 (Lib.countB s sep) s).map Value.string).toArray 9) := Any.strings_Split Srt.lays146 (by kernel_rfl) s sep m w hs hm h1
def Srt.laysM146_ren : Go.Shelf.Ren := ⟨fun | 146 => 98 | 221 => 135 | 268 => 169 | 138 => 170 | 143 => 171 | 195 => 191 | 197 => 192 | 218 => 193 | 219 => 194 | 260 => 216 | 217 => 217 | 225 => 218 | 224 => 219 | 267 => 220 | 266 => 248 | 314 => 249 | n => n, fun | 9 => 9 | 31 => 61 | 3 => 3 | 4 => 4 | 0 => 0 | 105 => 188 | 21 => 21 | 5 => 5 | 46 => 84 | 119 => 221 | 139 => 224 | 138 => 223 | 146 => 133 | 51 => 132 | n => n, fun | 1 => 1 | 3 => 2 | 4 => 3 | n => n⟩
theorem Srt.laysM146 : Go.Proofs.LaysM.n146 Tryz.prog Srt.laysM146_ren := {
  mixed := by kernel_rfl
  f138 := Tryz.func170.trans (congrArg some (by kernel_rfl))
  f143 := Tryz.func171.trans (congrArg some (by kernel_rfl))
  f146 := Tryz.func98.trans (congrArg some (by kernel_rfl))
  f195 := Tryz.func191.trans (congrArg some (by kernel_rfl))
  f197 := Tryz.func192.trans (congrArg some (by kernel_rfl))
  f217 := Tryz.func217.trans (congrArg some (by kernel_rfl))
  f218 := Tryz.func193.trans (congrArg some (by kernel_rfl))
  f219 := Tryz.func194.trans (congrArg some (by kernel_rfl))
  f221 := Tryz.func135.trans (congrArg some (by kernel_rfl))
  f224 := Tryz.func219.trans (congrArg some (by kernel_rfl))
  f225 := Tryz.func218.trans (congrArg some (by kernel_rfl))
  f260 := Tryz.func216.trans (congrArg some (by kernel_rfl))
  f266 := Tryz.func248.trans (congrArg some (by kernel_rfl))
  f267 := Tryz.func220.trans (congrArg some (by kernel_rfl))
  f268 := Tryz.func169.trans (congrArg some (by kernel_rfl))
  f314 := Tryz.func249.trans (congrArg some (by kernel_rfl))
  t0 := Tryz.underlying0
  a0 := Tryz.isAgg0
  z0 := Tryz.sizeOf0
  v0 := Tryz.zeroValue0
  t3 := Tryz.underlying3
  a3 := Tryz.isAgg3
  z3 := Tryz.sizeOf3
  v3 := Tryz.zeroValue3
  t4 := Tryz.underlying4
  a4 := Tryz.isAgg4
  z4 := Tryz.sizeOf4
  v4 := Tryz.zeroValue4
  t5 := Tryz.underlying5
  a5 := Tryz.isAgg5
  z5 := Tryz.sizeOf5
  v5 := Tryz.zeroValue5
  t9 := Tryz.underlying9
  a9 := Tryz.isAgg9
  z9 := Tryz.sizeOf9
  v9 := Tryz.zeroValue9
  t21 := Tryz.underlying21
  a21 := Tryz.isAgg21
  z21 := Tryz.sizeOf21
  v21 := Tryz.zeroValue21
  t31 := Tryz.underlying61
  a31 := Tryz.isAgg61
  z31 := Tryz.sizeOf61
  v31 := Tryz.zeroValue61
  t46 := Tryz.underlying84
  a46 := Tryz.isAgg84
  z46 := Tryz.sizeOf84
  v46 := Tryz.zeroValue84
  t51 := Tryz.underlying132
  a51 := Tryz.isAgg132
  z51 := Tryz.sizeOf132
  v51 := Tryz.zeroValue132
  t105 := Tryz.underlying188
  a105 := Tryz.isAgg188
  z105 := Tryz.sizeOf188
  v105 := Tryz.zeroValue188
  t119 := Tryz.underlying221
  a119 := Tryz.isAgg221
  z119 := Tryz.sizeOf221
  t138 := Tryz.underlying223
  a138 := Tryz.isAgg223
  z138 := Tryz.sizeOf223
  v138 := Tryz.zeroValue223
  t139 := Tryz.underlying224
  a139 := Tryz.isAgg224
  z139 := Tryz.sizeOf224
  v139 := Tryz.zeroValue224
  t146 := Tryz.underlying133
  a146 := Tryz.isAgg133
  z146 := Tryz.sizeOf133
  v146 := Tryz.zeroValue133
  g1 := by kernel_rfl
  g3 := by kernel_rfl
  g4 := by kernel_rfl
  i0 := by kernel_rfl
  i3 := by kernel_rfl
  i4 := by kernel_rfl
  i5 := by kernel_rfl
  i9 := by kernel_rfl
  i21 := by kernel_rfl
  i31 := by kernel_rfl
  i46 := by kernel_rfl
  i51 := by kernel_rfl
  i105 := by kernel_rfl
  i138 := by kernel_rfl
  i139 := by kernel_rfl
  i146 := by kernel_rfl
  m1 := by kernel_rfl
  s1_3 := fun w h => Go.Proofs.cell_of_shapedOpen_int (zero := #[.int .i64 0]) (t := 3) h (of_decide_eq_true (by kernel_rfl)) (by kernel_rfl) rfl (by kernel_rfl) (by kernel_rfl) Tryz.underlying3
  m3 := by kernel_rfl
  m4 := by kernel_rfl }
end Go.Proofs.YtaeledhbkdakcaaGreatDoor
end

section
/- The library's functions on texts in our own words (numerals, cutting, joining); numbers and lines, both sides. -/
namespace Go.Proofs.YtaeledhbkdakcaaGreatDoor
open Go.GX Go.RowKit
open Go.Lib (decDigits)
set_option maxRecDepth 100000

/-! ### What package-level variables hold -/

/-- The table of powers of ten. -/
def GP (w : World) : Prop := Go.Lib.TabIs Tryz.prog w "internal/strconv.uint64pow10" .u64 Go.Lib.pow10Tab
/-- .. the value of ErrSyntax, MaxLen. -/
structure GV (w : World) : Prop where
  pow : GP w
  syn : ∃ ev, w.cell? ⟨Srt.laysC172_ren.g 15, 0, none⟩ = some ev ∧ (ev = .nilIface ∨ ∃ te pe, ev = .iface te pe)
  mx : ∃ m, w.cell? ⟨Srt.lays146_ren.g 1, 0, none⟩ = some (.int .i64 m)

theorem var_ext {P : Program} {w w' : World} {n : String} {cs : Array Value} (h : w.var? P n = some cs) (hE : Ext w w') : w'.var? P n = some cs := by
  unfold World.var? at h ⊢
  cases hg : P.globalNamed n with
  | none => rw [hg] at h; exact h
  | some g =>
    rw [hg] at h
    simp only [Option.bind_some] at h ⊢
    cases hh : w.heap[g]? with
    | none => rw [hh] at h; cases h
    | some o =>
      rw [hE.same (Array.getElem?_eq_some_iff.1 hh).1, hh]
      rw [hh] at h; exact h
theorem GP.ext {w w' : World} (h : GP w) (hE : Ext w w') : GP w' := var_ext h hE
theorem cell_ext {w w' : World} {a : Addr} {v : Value} (h : w.cell? a = some v) (hE : Ext w w') : w'.cell? a = some v := by
  rw [World.cell?_of_block (hE.same (cell_lt h))]; exact h
theorem GV.ext {w w' : World} (h : GV w) (hE : Ext w w') : GV w' :=
  ⟨h.pow.ext hE, let ⟨ev, h1, h2⟩ := h.syn; ⟨ev, cell_ext h1 hE, h2⟩, let ⟨m, h1⟩ := h.mx; ⟨m, cell_ext h1 hE⟩⟩

/-! ### The library -/

theorem Itoa_ok {w : World} (g : GP w) {n : Nat} (hn : (n : Int) ≤ 9223372036854775807) :
    Calls Tryz.prog F.strconv_Itoa #[.int .i64 (n : Int)] w (Ret [.at .str] fun (r : ByteArray) w' => r = mkS (decDigits n) ∧ Ext w w') := by
  refine (Srt.strconv_Itoa (n : Int) (by omega) hn w g).mono ?_
  rintro e w' ⟨rfl, k, os, rfl⟩
  refine ⟨?_, ⟨rfl, rfl, rfl, ?_, ?_⟩⟩
  · have : Go.Lib.itoa (n : Int) = decDigits n := by unfold Go.Lib.itoa; rw [if_neg (by omega)]; rfl
    rw [this]; rfl
  · show w.heap.size ≤ (w.heap ++ os).size
    rw [Array.size_append]; omega
  · intro j hj
    show (w.heap ++ os)[j]? = w.heap[j]?
    rw [Array.getElem?_append_left hj]

theorem Atoi_ok {w : World} (g : GV w) {l : List UInt8} (hl : l.length ≤ 18) :
    Calls Tryz.prog F.strconv_Atoi #[.string (mkS l)] w (Ret [.at (.int .i64), .at .val] fun (x : Int) (e : Value) w' => Ext w w' ∧ ((Go.Lib.atoi l = some x ∧ e = .nilIface) ∨ (Go.Lib.atoi l = none ∧ ∃ t v, e = .iface t v))) := by
  cases h : Go.Lib.atoi l with
  | some n =>
    refine (Srt.strconv_Atoi (mkS l) n (by rw [mkS_size]; exact hl) (by rw [mkS_data]; exact h) w).mono ?_
    rintro e w' ⟨rfl, t, rfl⟩
    exact ⟨Go.Lib.bytesWorld_below _ _ _, .inl ⟨rfl, rfl⟩⟩
  | none =>
    obtain ⟨ev, h1, h2⟩ := g.syn
    refine (Srt.strconv_Atoi_err (mkS l) (by rw [mkS_size]; exact hl) (by rw [mkS_data]; exact h) ev w h1 h2).mono ?_
    rintro e w' ⟨N, rfl, _, _, hE⟩
    exact ⟨hE, .inr ⟨rfl, _, _, rfl⟩⟩

theorem und_err0 : (match Tryz.prog.underlying T.t_error with | some (.interface _) => true | _ => false) = true := by kernel_rfl
theorem und_err : ∃ ms, Tryz.prog.underlying T.t_error = some (.interface ms) := by
  have h := und_err0
  generalize Tryz.prog.underlying T.t_error = d at h
  match d, h with
  | some (.interface ms), _ => exact ⟨ms, rfl⟩

/-- A value of type error held against nil. -/
theorem AEQ_err {e : Value} {x : Operand} {K : Bool → Prop} (h : (e = .nilIface ∧ K false) ∨ ((∃ t v, e = .iface t v) ∧ K true)) :
    AEQ Tryz.prog (do eqGuard .neq T.t_error x (.const .nilIface) e .nilIface; binOp .neq T.t_error e .nilIface) K := by
  obtain ⟨ms, hu⟩ := und_err
  exact AEQ_nil hu h

theorem Split_ok {w : World} (g : GV w) {l : List UInt8} {c : UInt8} (hl : l.length < 4294967281) :
    Calls Tryz.prog F.strings_Split #[.string (mkS l), .string (mkS [c])] w (Ret [.at .sl] fun (r : Sl) w' => Ext w w' ∧ R w' r ((splitB c l).map mkS)) := by
  obtain ⟨m, hm⟩ := g.mx
  refine (Srt.strings_Split (mkS l) (mkS [c]) m w (by rw [mkS_size]; exact hl) hm (by rw [mkS_size]; simp)).mono ?_
  rintro e w' ⟨rfl, rfl⟩
  have hL : (Go.Lib.splitB (mkS [c]) 0 (Go.Lib.countB (mkS l) (mkS [c])) (mkS l)) = (splitB c l).map mkS := by
    have h1 : _ = Go.Lib.splitK [c] 0 (Go.Lib.count l [c]) l := Go.Lib.splitB_data (mkS [c]) 0 (Go.Lib.countB (mkS l) (mkS [c])) (mkS l)
    have h2 : Go.Lib.splitK [c] 0 (Go.Lib.count l [c]) l = splitB c l := split_eq c l
    rw [h2] at h1
    rw [← h1, List.map_map]
    refine (List.map_congr_left fun x _ => ?_).trans (List.map_id _) |>.symm
    exact mkS_of x
  have hlen : Go.Lib.countB (mkS l) (mkS [c]) + 1 = ((splitB c l).map mkS).length := by
    rw [← hL]
    exact (Go.Lib.splitB_all (mkS [c]) (by rw [mkS_size]; simp) 0 _ (mkS l) rfl).symm
  rw [hL, hlen]
  refine ⟨?_, ?_⟩
  · refine ⟨rfl, rfl, rfl, ?_, ?_⟩
    · show w.heap.size ≤ (w.heap.push _).size
      rw [Array.size_push]; omega
    · intro j hj
      show (w.heap.push _)[j]? = w.heap[j]?
      rw [Array.getElem?_push_lt hj]; simp [hj]
  · have hn : ((splitB c l).map mkS).length ≤ l.length + 1 := by rw [List.length_map]; exact splitB_len c l
    refine ⟨rfl, ⟨Nat.le_refl _, by show _ ≤ _; exact Nat.le_trans hn (by omega)⟩, fun i x hx => ⟨⟨w.heap.size, 0, none⟩, [.string x], rfl, trivial, rfl, fun j v hj => ?_⟩⟩
    have hj0 : j = 0 := by
      have := (List.getElem?_eq_some_iff.1 hj).1
      simpa using this
    subst hj0
    have hv : v = .string x := by simpa using hj.symm
    subst hv
    show (w.alloc _).cell? (Addr.add _ (i * 1 + 0)) = _
    rw [Nat.mul_one, Nat.add_zero]
    exact cell_pushed w _ _ (by rw [List.getElem?_map, hx]; rfl)

end Go.Proofs.YtaeledhbkdakcaaGreatDoor
end

section
/- Numbers and lines of words: both sides. -/
namespace Go.Proofs.YtaeledhbkdakcaaGreatDoor
open Go.GX Go.RowKit
open Go.Lib (decDigits)
set_option maxRecDepth 100000

theorem readNumber_ok {w : World} (g : GV w) {l : List UInt8} (hl : l.length ≤ 1099511627776) :
    Calls Tryz.prog F.i_readNumber #[.string (mkS l)] w (Ret [.at (.int .i64), .at .bool] fun (x : Int) (ok : Bool) w' => Ext w w' ∧ ((ok = true ∧ NumOf l x) ∨ (ok = false ∧ x = 0 ∧ ∀ y, ¬ NumOf l y))) := by
  refine C_i_readNumber ?_
  unfold V_i_readNumber
  have no : ∀ {w' : World}, Ext w w' → (∀ y, ¬ NumOf l y) → Ext w w' ∧ ((false = true ∧ NumOf l 0) ∨ (false = false ∧ (0 : Int) = 0 ∧ ∀ y, ¬ NumOf l y)) := fun hE h => ⟨hE, .inr ⟨rfl, rfl, h⟩⟩
  have num : ∀ {y}, NumOf l y → 1 ≤ l.length ∧ l.length ≤ 6 ∧ Go.Lib.atoi l = some y := by
    rintro y ⟨n, h1, rfl, rfl⟩
    exact ⟨List.length_pos_iff.2 (decDigits_ne n), decDigits_few.1 h1, atoi_digits n⟩
  rw [mkS_size]
  refine cond_dec (fun h => no (Ext.refl _) fun y hy => by have := num hy; omega) (fun h1 => ?_)
  refine cond_dec (fun h => no (Ext.refl _) fun y hy => by have := num hy; omega) (fun h6 => ?_)
  refine call (Atoi_ok g (l := l) (by omega)) ?_
  rintro x e w1 ⟨hE1, ha⟩
  change Int at x
  refine AEQ_err ?_
  rcases ha with ⟨ha, rfl⟩ | ⟨ha, he⟩
  · refine .inl ⟨rfl, cond_f rfl ?_⟩
    refine cond_dec (fun hneg => no hE1 fun y hy => ?_) (fun hpos => ?_)
    · have h2 := (num hy).2.2
      rw [ha] at h2
      have h3 := Option.some.inj h2
      have h4 := hy.range
      omega
    obtain ⟨n, rfl⟩ : ∃ n : Nat, x = n := ⟨x.toNat, by omega⟩
    have hn : (n : Int) ≤ 9223372036854775807 := by
      obtain ⟨b0, r, rfl, hc⟩ := Go.Lib.atoi_cases ha
      have key : ∀ (m : List UInt8) (k : Nat), m.length ≤ 6 → Go.Lib.decFrom 0 m = some k → k < 10000000 := fun m k hm hk => by
        have h1 := Go.Lib.decFrom_lt _ _ _ hk
        have h2 : (10 : Nat) ^ m.length ≤ 10 ^ 6 := Nat.pow_le_pow_right (by decide) hm
        have e : (10 : Nat) ^ 6 = 1000000 := by decide
        omega
      simp only [List.length_cons] at h6
      rcases hc with ⟨_, m, _, h1, h2⟩ | ⟨_, m, _, h1, h2⟩ | ⟨_, _, m, h1, h2⟩
      · omega
      · have := key r m (by omega) h1; omega
      · have := key (b0 :: r) m (by simp only [List.length_cons]; omega) h1; omega
    refine call (Itoa_ok (g.ext hE1).pow hn) ?_
    rintro _ w2 ⟨rfl, hE2⟩
    refine cond_sne (fun hne => no (hE1.trans hE2) fun y hy => ?_) (fun heq => ?_)
    · have h2 := (num hy).2.2
      rw [ha] at h2
      have h3 := Option.some.inj h2
      obtain ⟨m, _, h4, rfl⟩ := hy
      have : n = m := by omega
      subst this
      exact hne h4
    · exact ⟨hE1.trans hE2, .inl ⟨rfl, n, decDigits_few.2 (by rw [heq]; omega), heq, rfl⟩⟩
  · refine .inr ⟨he, cond_t rfl (no hE1 fun y hy => ?_)⟩
    have := (num hy).2.2
    rw [ha] at this; cases this

/-- What a list of words reads as. -/
def StarsAns (w : World) (base : Nat) (ws : List (List UInt8)) (r : Sl) (ok : Bool) : Prop :=
  (ok = true ∧ ∃ ns, StarsOf ws ns ∧ OwnL w base T.t_int r ns) ∨ (ok = false ∧ ∀ ns, ¬ StarsOf ws ns)

theorem stars_take {ws : List (List UInt8)} {ns : List Int} (h : StarsOf ws ns) {i : Nat} (hi : i < ws.length) : NumOf ws[i] (ns.getD i 0) ∨ (ws[i] = [42] ∧ ns.getD i 0 = -1) := by
  obtain ⟨rfl, h2⟩ := h
  have hi' : i < ns.length := by simpa using hi
  have e : ns.getD i 0 = ns[i] := by rw [List.getD_eq_getElem?_getD, List.getElem?_eq_getElem hi']; rfl
  rw [e, List.getElem_map]
  have := h2 ns[i] (List.getElem_mem hi')
  by_cases hn : ns[i] < 0
  · exact .inr ⟨numS_neg hn, by omega⟩
  · exact .inl ⟨ns[i].toNat, by omega, (numS_pos (by omega)).symm, by omega⟩

theorem stars_one {l : List UInt8} {x : Int} (h : NumOf l x ∨ (l = [42] ∧ x = -1)) : numS x = l ∧ -1 ≤ x ∧ x < 1000000 := by
  rcases h with ⟨n, h1, rfl, rfl⟩ | ⟨rfl, rfl⟩
  · exact ⟨numS_nat n, by omega, by omega⟩
  · exact ⟨rfl, by omega, by omega⟩

theorem starNumbers_ok {w : World} (g : GV w) {s : Sl} {ws : List (List UInt8)} (h : R w s (ws.map mkS)) (hl : ws.length ≤ 10000000) (hw : ∀ x ∈ ws, x.length ≤ 1099511627776) :
    Calls Tryz.prog F.i_starNumbers #[s.v] w (Ret [.at .sl, .at .bool] fun (r : Sl) (ok : Bool) w' => Ext w w' ∧ StarsAns w' w.heap.size ws r ok) := by
  refine C_i_starNumbers ?_
  unfold V_i_starNumbers
  rw [h.len, List.length_map]
  refine ⟨IN2 ws.length fun i (out : Sl) w' => Ext w w' ∧ ∃ ns, StarsOf (ws.take i) ns ∧ OwnL w' w.heap.size T.t_int out ns, MN2 ws.length, IN2_zero ⟨Ext.refl _, [], ⟨rfl, by simp⟩, OwnL.nil _ _ _⟩, ?_⟩
  rintro out _ w1 ⟨i, rfl, hi, hE1, ns, hst, hO1⟩
  intros
  have hz1 := hE1.size_le
  have hnl : ns.length = i := by
    have := congrArg List.length hst.1
    simpa [Nat.min_eq_left hi] using this
  refine cond_dec (fun hlt => ?_) (fun hge => ?_)
  rotate_left
  · have : i = ws.length := by omega
    subst this
    rw [List.take_length] at hst
    exact ⟨hE1, .inl ⟨rfl, ns, hst, hO1⟩⟩
  have hi' : i < ws.length := by omega
  have htk : ws.take (i + 1) = ws.take i ++ [ws[i]] := List.take_succ_eq_append_getElem hi'
  refine (h.ext hE1).ixStr hi' fun q hc => LD_str hc ?_
  refine call (readNumber_ok (g.ext hE1) (hw _ (List.getElem_mem hi'))) ?_
  rintro x ok w2 ⟨hE2, hx⟩
  have hE02 := hE1.trans hE2
  -- one number more
  have push : ∀ (y : Int) {K : Sl → World → Prop}, (NumOf ws[i] y ∨ (ws[i] = [42] ∧ y = -1)) → (∀ r w', (Ext w w' ∧ ∃ ns, StarsOf (ws.take (i + 1)) ns ∧ OwnL w' w.heap.size T.t_int r ns) → K r w') →
      RUN Tryz.prog (.at .sl) (Instr.buildSlice T.t_sl_int 1 #[(0, .int .i64 y)]) w2 fun z w3 => RUN Tryz.prog (.at .sl) (bsem .append #[T.t_sl_int, T.t_sl_int] T.t_sl_int #[out.v, z.v]) w3 K := by
    intro y K hy hK
    have hy' := stars_one hy
    refine RUN_lit1 (α := Int) slt_int y rfl (by decide) fun z w3 hE3 hO3 => ?_
    have hz3 := hE3.size_le
    have hz2 := hE2.size_le
    have hOb := (hO1.ext hE2).ext hE3
    refine RUN_append (α := Int) slt_int hOb (by omega) (hO3.rep (by intro a ha; rw [List.mem_singleton.1 ha]; show I64 _; unfold I64; omega)).any (by simp; omega) (by simp [maxLen]; omega) fun r w4 hO4 hs4 => ?_
    refine hK r w4 ⟨hs4.ext0 (hE02.trans hE3) fun k hk => (hOb.blk k hk).1, ns ++ [y], ⟨?_, ?_⟩, hO4⟩
    · rw [htk, List.map_append, hst.1]; simp [hy'.1]
    · intro a ha
      rcases List.mem_append.1 ha with ha | ha
      · exact hst.2 a ha
      · rw [List.mem_singleton.1 ha]; exact hy'.2
  rw [mk_lit [42]]
  refine cond_seq (fun heq => ?_) (fun hne => ?_)
  · refine push (-1) (.inr ⟨heq, rfl⟩) fun r w4 hk => ?_
    exact IN2_next (by omega) hi' hk
  · refine cond_not (fun hf => ⟨hE02, .inr ⟨rfl, fun ms hms => ?_⟩⟩) (fun ht => ?_)
    · rcases stars_take hms hi' with h1 | h1
      · rcases hx with ⟨hx, _⟩ | ⟨_, _, hx⟩
        · rw [hx] at hf; cases hf
        · exact hx _ h1
      · exact hne h1.1
    · rcases hx with ⟨_, hx⟩ | ⟨hx, _⟩
      · refine push x (.inl hx) fun r w4 hk => ?_
        exact IN2_next (by omega) hi' hk
      · rw [hx] at ht; cases ht

theorem maNumbers_ok {w : World} {s : Sl} {ws : List (List UInt8)} (h : R w s (ws.map mkS)) (hl : ws.length ≤ 10000000) (hw : ∀ x ∈ ws, x.length ≤ 1099511627776) :
    Calls Tryz.prog F.s_maNumbers #[s.v] w (Ret [.at .sl, .at .bool] fun (r : Sl) (ok : Bool) w' => Ext w w' ∧ StarsAns w' w.heap.size ws r ok) := by
  refine C_s_maNumbers ?_
  unfold V_s_maNumbers
  rw [h.len, List.length_map]
  refine ⟨IN2 ws.length fun i (out : Sl) w' => Ext w w' ∧ ∃ ns, StarsOf (ws.take i) ns ∧ OwnL w' w.heap.size T.t_int out ns, MN2 ws.length, IN2_zero ⟨Ext.refl _, [], ⟨rfl, by simp⟩, OwnL.nil _ _ _⟩, ?_⟩
  rintro out _ w1 ⟨i, rfl, hi, hE1, ns, hst, hO1⟩
  intros
  have hz1 := hE1.size_le
  have hnl : ns.length = i := by
    have := congrArg List.length hst.1
    simpa [Nat.min_eq_left hi] using this
  refine cond_dec (fun hlt => ?_) (fun hge => ?_)
  rotate_left
  · have : i = ws.length := by omega
    subst this
    rw [List.take_length] at hst
    exact ⟨hE1, .inl ⟨rfl, ns, hst, hO1⟩⟩
  have hi' : i < ws.length := by omega
  have htk : ws.take (i + 1) = ws.take i ++ [ws[i]] := List.take_succ_eq_append_getElem hi'
  refine (h.ext hE1).ixStr hi' fun q hc => LD_str hc ?_
  refine call (l1Read_ok (hw _ (List.getElem_mem hi'))) ?_
  rintro x w1 ⟨rfl, hx⟩
  change Int at x
  have push : (NumOf ws[i] x ∨ (ws[i] = [42] ∧ x = -1)) → V_s_maNumbers_k4 (IN2 ws.length fun i (out : Sl) w' => Ext w w' ∧ ∃ ns, StarsOf (ws.take i) ns ∧ OwnL w' w.heap.size T.t_int out ns) (MN2 ws.length) (i : Int) w1 out x w1 := by
    intro hy
    have hy' := stars_one hy
    unfold V_s_maNumbers_k4
    refine RUN_lit1 (α := Int) slt_int x rfl (by decide) fun z w3 hE3 hO3 => ?_
    have hz3 := hE3.size_le
    have hOb := hO1.ext hE3
    refine RUN_append (α := Int) slt_int hOb (by omega) (hO3.rep (by intro a ha; rw [List.mem_singleton.1 ha]; show I64 _; unfold I64; omega)).any (by simp; omega) (by simp [maxLen]; omega) fun r w4 hO4 hs4 => ?_
    refine IN2_next (by omega) hi' ⟨hs4.ext0 (hE1.trans hE3) fun k hk => (hOb.blk k hk).1, ns ++ [x], ⟨?_, ?_⟩, hO4⟩
    · rw [htk, List.map_append, hst.1]; simp [hy'.1]
    · intro a ha
      rcases List.mem_append.1 ha with ha | ha
      · exact hst.2 a ha
      · rw [List.mem_singleton.1 ha]; exact hy'.2
  rw [mk_lit [42]]
  refine cond_dec (fun hneg => ?_) (fun hpos => ?_)
  · refine cond_sne (fun hne => ⟨hE1, .inr ⟨rfl, fun ms hms => ?_⟩⟩) (fun heq => push (.inr ⟨heq, ?_⟩))
    · rcases stars_take hms hi' with h1 | h1
      · rcases hx with hx | ⟨_, hx⟩
        · have := hx.range; omega
        · exact hx _ h1
      · exact hne h1.1
    · rcases hx with hx | hx
      · have := hx.range; omega
      · exact hx.1
  · rcases hx with hx | hx
    · exact push (.inl hx)
    · omega

/-! ### Lines written -/

theorem wordsLine_ok {w : World} (g : GP w) {wd : List UInt8} {s : Sl} {ns : List Int} (h : R w s ns) (hn : ∀ x ∈ ns, -1 ≤ x ∧ x < 1000000) (hl : ns.length ≤ 10000000) (hwd : wd.length ≤ 10000000) :
    Calls Tryz.prog F.i_wordsLine #[.string (mkS wd), s.v] w (Ret [.at .str] fun (r : ByteArray) w' => r = mkS (lineS wd ns) ∧ Ext w w') := by
  refine C_i_wordsLine ?_
  unfold V_i_wordsLine
  rw [h.len]
  refine ⟨IN2 ns.length fun i (out : ByteArray) w' => Ext w w' ∧ out = mkS (lineS wd (ns.take i)), MN2 ns.length, IN2_zero ⟨Ext.refl _, by simp [lineS]⟩, ?_⟩
  rintro _ _ w1 ⟨i, rfl, hi, hE1, rfl⟩
  intros
  have hln := lineS_len wd (l := ns.take i) fun x hx => (hn x (List.mem_of_mem_take hx)).2
  rw [List.length_take] at hln
  refine cond_dec (fun hlt => ?_) (fun hge => ?_)
  rotate_left
  · have : i = ns.length := by omega
    subst this
    rw [List.take_length]
    exact ⟨rfl, hE1⟩
  have hi' : i < ns.length := by omega
  have htk : ns.take (i + 1) = ns.take i ++ [ns[i]] := List.take_succ_eq_append_getElem hi'
  have hx := hn ns[i] (List.getElem_mem hi')
  have hx6 := numS_len hx.2
  refine (h.ext hE1).ixI hi' fun q hq hc => LD_int hc ?_
  rw [mk_lit [32, 42], mk_lit [32]]
  refine cond_eq (fun heq => ?_) (fun hne => ?_)
  · refine ⟨by rw [mkS_size, mkS_size]; simp; omega, IN2_next (by omega) hi' ⟨hE1, ?_⟩⟩
    rw [mkS_app, htk, lineS_snoc, heq]; rfl
  · obtain ⟨n, hnn⟩ : ∃ n : Nat, ns[i] = n := ⟨ns[i].toNat, by omega⟩
    rw [hnn] at hx6 ⊢
    rw [numS_nat] at hx6
    refine call (Itoa_ok (g.ext hE1) (by omega)) ?_
    rintro _ w2 ⟨rfl, hE2⟩
    refine ⟨by rw [mkS_size, mkS_size]; simp; omega, ?_⟩
    rw [mkS_app]
    refine ⟨by rw [mkS_size, mkS_size]; simp; omega, IN2_next (by omega) hi' ⟨hE1.trans hE2, ?_⟩⟩
    rw [mkS_app, htk, lineS_snoc, hnn, numS_nat]; rfl

theorem maLine_ok {w : World} {wd : List UInt8} {s : Sl} {ns : List Int} (h : R w s ns) (hn : ∀ x ∈ ns, -1 ≤ x ∧ x < 1000000) (hl : ns.length ≤ 10000000) (hwd : wd.length ≤ 10000000) :
    Calls Tryz.prog F.s_maLine #[.string (mkS wd), s.v] w (Ret [.at .str] fun (r : ByteArray) w' => r = mkS (lineS wd ns) ∧ Ext w w') := by
  refine C_s_maLine ?_
  unfold V_s_maLine
  rw [h.len]
  refine ⟨IN2 ns.length fun i (out : ByteArray) w' => Ext w w' ∧ out = mkS (lineS wd (ns.take i)), MN2 ns.length, IN2_zero ⟨Ext.refl _, by simp [lineS]⟩, ?_⟩
  rintro _ _ w1 ⟨i, rfl, hi, hE1, rfl⟩
  intros
  have hln := lineS_len wd (l := ns.take i) fun x hx => (hn x (List.mem_of_mem_take hx)).2
  rw [List.length_take] at hln
  refine cond_dec (fun hlt => ?_) (fun hge => ?_)
  rotate_left
  · have : i = ns.length := by omega
    subst this
    rw [List.take_length]
    exact ⟨rfl, hE1⟩
  have hi' : i < ns.length := by omega
  have htk : ns.take (i + 1) = ns.take i ++ [ns[i]] := List.take_succ_eq_append_getElem hi'
  have hx := hn ns[i] (List.getElem_mem hi')
  have hx6 := numS_len hx.2
  refine (h.ext hE1).ixI hi' fun q hq hc => LD_int hc ?_
  rw [mk_lit [32, 42], mk_lit [32]]
  refine cond_dec (fun hneg => ?_) (fun hpos => ?_)
  · refine ⟨by rw [mkS_size, mkS_size]; simp; omega, IN2_next (by omega) hi' ⟨hE1, ?_⟩⟩
    rw [mkS_app, htk, lineS_snoc, numS_neg hneg]
  · obtain ⟨n, hnn⟩ : ∃ n : Nat, ns[i] = n := ⟨ns[i].toNat, by omega⟩
    rw [hnn] at hx6 ⊢
    rw [numS_nat] at hx6
    refine call (l1Num_ok n (by omega) w1) ?_
    rintro _ w2 ⟨rfl, hE2⟩
    refine ⟨by rw [mkS_size, mkS_size]; simp; omega, ?_⟩
    rw [mkS_app]
    refine ⟨by rw [mkS_size, mkS_size]; simp; omega, IN2_next (by omega) hi' ⟨hE1.trans hE2, ?_⟩⟩
    rw [mkS_app, htk, lineS_snoc, hnn, numS_nat]; rfl

/-! ### Joining, ended lines -/

theorem Join_ok {w : World} {base : Nat} {s : Sl} {L : List (List UInt8)} {sep : List UInt8} (h : OwnL w base T.t_string s (L.map mkS)) (hl : (sep.intercalate L).length ≤ 140737488355328) (hL : L.length ≤ 140737488355328) :
    Calls Tryz.prog F.strings_Join #[s.v, .string (mkS sep)] w (Ret [.at .str] fun (r : ByteArray) w' => r = mkS (sep.intercalate L) ∧ Ext w w') := by
  rcases h.2.2 with ⟨hv, h0⟩ | ⟨g, cap, cur, hv, hb, hg, hle, hmx, hsz, htake⟩
  · have hnil : L = [] := by
      have := h.1
      rw [List.length_map] at this
      exact List.length_eq_zero_iff.1 (by omega)
    subst hnil
    have hlen : s.len = 0 := h0
    have hsv : s.v = .slice s.a 0 s.cap := by rw [← hlen]
    rw [hsv]
    refine (Srt.strings_Join_none s.a s.cap (mkS sep) w).mono ?_
    rintro e w' ⟨rfl, rfl⟩
    exact ⟨rfl, Ext.refl _⟩
  · have hsv : s.v = .slice (some ⟨g, 0, none⟩) (L.map mkS).length cap := by rw [← h.1]; exact hv
    rw [hsv]
    have hlist : (L.map mkS).map (fun x => x.data.toList) = L := by
      rw [List.map_map]
      exact (List.map_congr_left fun x _ => mkS_data x).trans (List.map_id _)
    have hflat : ∀ l : List ByteArray, l.flatMap Flat.cells = l.map Value.string := fun l => by
      induction l with
      | nil => rfl
      | cons x l ih => rw [List.flatMap_cons, ih]; rfl
    refine (Srt.strings_Join g 0 cap (L.map mkS) (mkS sep) w ?_ (Array.getElem?_eq_some_iff.1 hg).1 (by rw [List.length_map]; exact hL) (by rw [← h.1]; exact hle) (by rw [hlist, mkS_data]; exact hl)).mono ?_
    · intro j x hx
      rw [Nat.zero_add]
      have hj : j < (L.map mkS).length := (List.getElem?_eq_some_iff.1 hx).1
      have h1 : cur.toList[j]? = some (.string x) := by
        have h2 : (cur.toList.take (s.len * Rep.sz ByteArray))[j]? = some (.string x) := by
          rw [htake, hflat, List.getElem?_map, hx]; rfl
        rw [List.getElem?_take] at h2
        split at h2
        · exact h2
        · cases h2
      simp only [World.cell?, hg]
      simpa using h1
    · rintro e w' ⟨rfl, hE⟩
      rw [hlist, mkS_data]
      exact ⟨rfl, hE⟩

theorem CutSuffix_ok {w : World} {l p : List UInt8} (hl : l.length ≤ 9223372036854775807) :
    Calls Tryz.prog F.strings_CutSuffix #[.string (mkS l), .string (mkS p)] w (Ret [.at .str, .at .bool] fun (r : ByteArray) (ok : Bool) w' => w' = w ∧ ((ok = true ∧ ∃ x, l = x ++ p ∧ r = mkS x) ∨ (ok = false ∧ ∀ x, l ≠ x ++ p))) := by
  refine (Srt.strings_CutSuffix (mkS l) (mkS p) w hl).mono ?_
  rintro e w' ⟨rfl, rfl⟩
  refine ⟨rfl, ?_⟩
  rw [mkS_data, mkS_data]
  cases h : Go.Lib.hasSuffix l p with
  | true =>
    obtain ⟨x, hx⟩ := List.isSuffixOf_iff_suffix.1 h
    refine .inl ⟨rfl, x, hx.symm, ?_⟩
    unfold Go.Lib.trimSuffix
    rw [if_pos h, ← hx]
    have : (x ++ p).take ((x ++ p).length - p.length) = x := by simp
    rw [this]; rfl
  | false =>
    refine .inr ⟨rfl, fun x hx => ?_⟩
    have : Go.Lib.hasSuffix l p = true := List.isSuffixOf_iff_suffix.2 ⟨x, hx.symm⟩
    rw [h] at this; cases this

theorem endedLines_ok {w : World} (g : GV w) {l : List UInt8} (hl : l.length < 4294967281) :
    Calls Tryz.prog F.i_endedLines #[.string (mkS l)] w (Ret [.at .sl, .at .bool] fun (r : Sl) (ok : Bool) w' => Ext w w' ∧ ((ok = true ∧ ∃ x, l = x ++ [10] ∧ R w' r ((splitB 10 x).map mkS)) ∨ (ok = false ∧ ∀ x, l ≠ x ++ [10]))) := by
  refine C_i_endedLines ?_
  unfold V_i_endedLines
  rw [mk_lit [10]]
  refine call (CutSuffix_ok (by omega)) ?_
  rintro r ok _ ⟨rfl, hr⟩
  refine cond_not (fun hf => ?_) (fun ht => ?_)
  · rcases hr with ⟨hr, _⟩ | ⟨_, hr⟩
    · rw [hr] at hf; cases hf
    · exact ⟨Ext.refl _, .inr ⟨rfl, hr⟩⟩
  · rcases hr with ⟨_, x, hx, rfl⟩ | ⟨hr, _⟩
    · refine call (Split_ok g (l := x) (c := 10) (by rw [hx] at hl; simp at hl; omega)) ?_
      rintro r w2 ⟨hE, hR⟩
      exact ⟨hE, .inl ⟨rfl, x, hx, hR⟩⟩
    · rw [hr] at ht; cases ht

end Go.Proofs.YtaeledhbkdakcaaGreatDoor
end

section
/- Sets of labels as numbers, in plain words: no program in sight. -/
namespace Go.Proofs.YtaeledhbkdakcaaGreatDoor
open Go.GX

theorem bits64 : IntKind.i64.bits = 64 := rfl

theorem ofInt_nat (a : Nat) (h : a < 4611686018427387904) : (BitVec.ofInt 64 (a : Int)).toNat = a := by
  rw [BitVec.toNat_ofInt]
  omega

theorem and_nat {a b : Nat} (ha : a < 4611686018427387904) (hb : b < 4611686018427387904) : bitAnd .i64 (a : Int) (b : Int) = ((a &&& b : Nat) : Int) := by
  unfold bitAnd
  rw [bits64, BitVec.toNat_and, ofInt_nat a ha, ofInt_nat b hb]
  have := Nat.and_le_left (n := a) (m := b)
  rw [wrap_of (by omega) (by omega)]

theorem or_lt {a b : Nat} (ha : a < 4611686018427387904) (hb : b < 4611686018427387904) : a ||| b < 4611686018427387904 := Nat.or_lt_two_pow (n := 62) ha hb

theorem or_nat {a b : Nat} (ha : a < 4611686018427387904) (hb : b < 4611686018427387904) : bitOr .i64 (a : Int) (b : Int) = ((a ||| b : Nat) : Int) := by
  unfold bitOr
  rw [bits64, BitVec.toNat_or, ofInt_nat a ha, ofInt_nat b hb]
  have := or_lt ha hb
  rw [wrap_of (by omega) (by omega)]

theorem shl_one {a : Nat} (h : a ≤ 61) : shlI .i64 1 (a : Int) = ((2 ^ a : Nat) : Int) := by
  unfold shlI
  have h1 : 2 ^ a ≤ 2 ^ 61 := Nat.pow_le_pow_right (by decide) h
  have h2 : (2 : Nat) ^ 61 = 2305843009213693952 := by decide
  have e : min (a : Int).toNat IntKind.i64.bits = a := by rw [bits64]; omega
  rw [e, Int.one_mul]
  have e2 : (2 : Int) ^ a = ((2 ^ a : Nat) : Int) := by push_cast; rfl
  rw [e2]
  generalize 2 ^ a = m at h1
  rw [h2] at h1
  rw [wrap_of (by omega) (by omega)]

/-- The set of the numbers below another one that a test tells. -/
def maskOf : Nat → (Nat → Bool) → Nat
  | 0, _ => 0
  | n + 1, f => maskOf n f ||| (if f n then 2 ^ n else 0)

theorem maskOf_succ (n : Nat) (f : Nat → Bool) : maskOf (n + 1) f = maskOf n f ||| (if f n then 2 ^ n else 0) := rfl

theorem testBit_maskOf : ∀ (n : Nat) (f : Nat → Bool) (a : Nat), (maskOf n f).testBit a = (decide (a < n) && f a)
  | 0, f, a => by simp [maskOf]
  | n + 1, f, a => by
    unfold maskOf
    rw [Nat.testBit_or, testBit_maskOf n f a]
    by_cases hf : f n = true
    · rw [if_pos hf, Nat.testBit_two_pow]
      by_cases ha : a = n
      · subst ha; simp [hf]
      · have : ¬ n = a := fun h => ha h.symm
        have h2 : (a < n + 1) ↔ a < n := by omega
        simp [this, h2]
    · rw [if_neg hf, Nat.zero_testBit]
      by_cases ha : a = n
      · subst ha; simp [hf]
      · have h2 : (a < n + 1) ↔ a < n := by omega
        simp [h2]

theorem maskOf_lt (n : Nat) (f : Nat → Bool) : maskOf n f < 2 ^ n := by
  apply Nat.lt_pow_two_of_testBit
  intro i hi
  rw [testBit_maskOf]
  have : ¬ i < n := by omega
  simp [this]

theorem maskOf_add (n : Nat) (f : Nat → Bool) : maskOf (n + 1) f = maskOf n f + (if f n then 2 ^ n else 0) := by
  rw [maskOf_succ]
  by_cases hf : f n = true
  · rw [if_pos hf, Nat.or_comm, Nat.add_comm]
    have := Nat.two_pow_add_eq_or_of_lt (maskOf_lt n f) 1
    rw [Nat.mul_one] at this
    rw [this]
  · rw [if_neg hf, Nat.or_zero, Nat.add_zero]

theorem mask_ext {n m m' : Nat} (h : m < 2 ^ n) (h' : m' < 2 ^ n) (he : ∀ a < n, m.testBit a = m'.testBit a) : m = m' := by
  apply Nat.eq_of_testBit_eq
  intro i
  by_cases hi : i < n
  · exact he i hi
  · have hp : 2 ^ n ≤ 2 ^ i := Nat.pow_le_pow_right (by decide) (by omega)
    rw [Nat.testBit_lt_two_pow (by omega), Nat.testBit_lt_two_pow (by omega)]

theorem maskOf_congr {n : Nat} {f g : Nat → Bool} (h : ∀ a < n, f a = g a) : maskOf n f = maskOf n g := by
  apply mask_ext (maskOf_lt n f) (maskOf_lt n g)
  intro a ha
  rw [testBit_maskOf, testBit_maskOf, h a ha]

/-- The labels of a set. -/
def labsOf (m : Nat) : List Int := ((List.range 8).filter fun a => m.testBit a).map fun (a : Nat) => (a : Int)

theorem mem_labsOf {m : Nat} {x : Int} : x ∈ labsOf m ↔ ∃ a : Nat, x = a ∧ a < 8 ∧ m.testBit a = true := by
  unfold labsOf
  rw [List.mem_map]
  constructor
  · rintro ⟨a, ha, rfl⟩
    rw [List.mem_filter, List.mem_range] at ha
    exact ⟨a, rfl, ha.1, ha.2⟩
  · rintro ⟨a, rfl, h1, h2⟩
    exact ⟨a, by rw [List.mem_filter, List.mem_range]; exact ⟨h1, h2⟩, rfl⟩

/-- All choices from lists, in order. -/
def prodL : List (List Int) → List (List Int)
  | [] => [[]]
  | l :: ls => l.flatMap fun a => (prodL ls).map (a :: ·)

inductive Two2 {α β : Type} (R : α → β → Prop) : List α → List β → Prop
  | nil : Two2 R [] []
  | cons {x : α} {y : β} {l : List α} {m : List β} : R x y → Two2 R l m → Two2 R (x :: l) (y :: m)

theorem Two2.length {α β : Type} {R : α → β → Prop} {l : List α} {m : List β} (h : Two2 R l m) : l.length = m.length := by
  induction h with
  | nil => rfl
  | cons _ _ ih => simp [ih]

theorem mem_prodL : ∀ {ls : List (List Int)} {c : List Int}, c ∈ prodL ls ↔ Two2 (fun x l => x ∈ l) c ls
  | [], c => by
    simp only [prodL, List.mem_singleton]
    constructor
    · rintro rfl; exact .nil
    · intro h; cases h; rfl
  | l :: ls, c => by
    simp only [prodL, List.mem_flatMap, List.mem_map]
    constructor
    · rintro ⟨a, ha, d, hd, rfl⟩
      exact .cons ha (mem_prodL.1 hd)
    · intro h
      cases h with
      | cons ha hd => exact ⟨_, ha, _, mem_prodL.2 hd, rfl⟩

/-- Choices from lists in another order. -/
theorem forall₂_perm {α β : Type} {R : α → β → Prop} {m m' : List β} (h : m.Perm m') : ∀ {c : List α}, Two2 R c m → ∃ c', Two2 R c' m' ∧ c.Perm c' := by
  induction h with
  | nil => intro c hc; exact ⟨c, hc, .refl _⟩
  | cons x _ ih =>
    intro c hc
    cases hc with
    | cons h1 h2 =>
      obtain ⟨d, hd, hp⟩ := ih h2
      exact ⟨_, .cons h1 hd, hp.cons _⟩
  | swap x y l =>
    intro c hc
    cases hc with
    | cons h1 h2 =>
      cases h2 with
      | cons h3 h4 => exact ⟨_, .cons h3 (.cons h1 h4), .swap _ _ _⟩
  | trans _ _ ih1 ih2 =>
    intro c hc
    obtain ⟨d, hd, hp⟩ := ih1 hc
    obtain ⟨e, he, hq⟩ := ih2 hd
    exact ⟨e, he, hp.trans hq⟩

end Go.Proofs.YtaeledhbkdakcaaGreatDoor
end

section
/- Sets of labels by predicates; labels of a set, up to twelve. -/
namespace Go.Proofs.YtaeledhbkdakcaaGreatDoor
open Go.GX Go.RowKit
set_option maxRecDepth 100000

noncomputable def maskP (n : Nat) (P : Nat → Prop) : Nat := by
  classical exact maskOf n fun a => decide (P a)
/-! ### The labels of a set -/

def labsN (m a : Nat) : List Int := ((List.range a).filter fun a => m.testBit a).map fun (a : Nat) => (a : Int)
def labs (m : Nat) : List Int := labsN m 12
end Go.Proofs.YtaeledhbkdakcaaGreatDoor
end

section
/- When a network is a network: both sides' tests, and the laws' tests of nodes and ports. -/
namespace Go.Proofs.YtaeledhbkdakcaaGreatDoor
open Go.GX Go.RowKit
set_option maxRecDepth 100000

abbrev Ends := List (List (Int × Int))

/-- The far end of port i of node v. -/
def port (E : Ends) (v i : Nat) : Option (Int × Int) := (E[v]?).bind (·[i]?)

theorem port_get {E : Ends} {v i : Nat} (hv : v < E.length) (hi : i < E[v].length) : port E v i = some E[v][i] := by
  simp [port, hv, hi]

theorem port_some {E : Ends} {v i : Nat} {e : Int × Int} (h : port E v i = some e) : ∃ (hv : v < E.length) (hi : i < E[v].length), E[v][i] = e := by
  unfold port at h
  by_cases hv : v < E.length
  · by_cases hi : i < E[v].length
    · simp [hv, hi] at h; exact ⟨hv, hi, h⟩
    · simp [hv, hi] at h
  · simp [hv] at h

/-- The far end leads back. -/
def Back (E : Ends) (v i : Nat) (e : Int × Int) : Prop := ∃ a b : Nat, e = ((a : Int), (b : Int)) ∧ port E a b = some ((v : Int), (i : Int))

def RowOk (E : Ends) (v : Nat) : Prop := (∀ r, E[v]? = some r → r.length ≤ 6) ∧ ∀ i e, port E v i = some e → Back E v i e

structure Good (n : Net) : Prop where
  size : 1 ≤ n.ends.length ∧ n.ends.length ≤ 40
  ids : IdsOk n.ids n.ends.length
  inputs : n.inputs.length = n.ends.length ∧ AllIn n.inputs 0 9
  rows : ∀ v < n.ends.length, RowOk n.ends v

theorem Good.deg {n : Net} (h : Good n) {v : Nat} (hv : v < n.ends.length) : n.ends[v].length ≤ 6 := (h.rows v hv).1 _ (by simp [hv])
theorem Good.back {n : Net} (h : Good n) {v i : Nat} (hv : v < n.ends.length) (hi : i < n.ends[v].length) : Back n.ends v i n.ends[v][i] := (h.rows v hv).2 i _ (port_get hv hi)

/-- Port numbers as whole numbers. -/
def portZ (E : Ends) (v i : Int) : Option (Int × Int) := if 0 ≤ v ∧ 0 ≤ i then port E v.toNat i.toNat else none

/-- Two answers of a test: the answer, and whether it was asked rightly. -/
def Ans2 (g p : Prop) (x ok : Bool) : Prop := (x = true ↔ g ∧ p) ∧ (ok = true ↔ g)

theorem Ans2.eq {g p : Prop} {x ok x' ok' : Bool} (h : Ans2 g p x ok) (h' : Ans2 g p x' ok') : x = x' ∧ ok = ok' :=
  ⟨Bool.eq_iff_iff.2 (h.1.trans h'.1.symm), Bool.eq_iff_iff.2 (h.2.trans h'.2.symm)⟩

theorem Ans2.no {g p : Prop} (h : ¬ g) : Ans2 g p false false := ⟨by simp [h], by simp [h]⟩
theorem Ans2.mk {g p : Prop} {x : Bool} (h : g) (hx : x = true ↔ p) : Ans2 g p x true := ⟨by simp [h, hx], by simp [h]⟩

end Go.Proofs.YtaeledhbkdakcaaGreatDoor
end

section
/- What a node's neighbours bear: both sides' walks over ports; the tests IsDefective and IsWeak. -/
namespace Go.Proofs.YtaeledhbkdakcaaGreatDoor
open Go.GX Go.RowKit
set_option maxRecDepth 100000

def rowOf (E : Ends) (v : Nat) : List (Int × Int) := E.getD v []
theorem rowOf_get {E : Ends} {v : Nat} (h : v < E.length) : rowOf E v = E[v] := by simp [rowOf, h]

/-- What lies at the far ends of a node's ports. -/
def nearOf (E : Ends) (l : List Int) (v : Nat) : List Int := (rowOf E v).map fun e => l.getD e.1.toNat 0
/-- The nodes at the far ends of a node's ports. -/
def adjOf (E : Ends) (v : Nat) : List Int := (rowOf E v).map (·.1)

theorem Good.far {n : Net} (hg : Good n) {v i : Nat} (hv : v < n.ends.length) (hi : i < n.ends[v].length) : ∃ x y : Nat, n.ends[v][i] = ((x : Int), (y : Int)) ∧ x < n.ends.length ∧ port n.ends x y = some ((v : Int), (i : Int)) := by
  obtain ⟨x, y, hxy, hb⟩ := hg.back hv hi
  obtain ⟨hx, _⟩ := port_some hb
  exact ⟨x, y, hxy, hx, hb⟩

theorem map_take_succ {α β : Type} {l : List α} {i : Nat} (hi : i < l.length) (f : α → β) : (l.take (i + 1)).map f = (l.take i).map f ++ [f l[i]] := by
  rw [List.take_succ_eq_append_getElem hi, List.map_append]; rfl

theorem adj_len {n : Net} (_ : Good n) {v : Nat} (hv : v < n.ends.length) : (adjOf n.ends v).length = n.ends[v].length := by
  unfold adjOf; rw [rowOf_get hv]; simp

theorem near_adj (E : Ends) (l : List Int) (v : Nat) : nearOf E l v = (adjOf E v).map fun u => l.getD u.toNat 0 := by
  unfold nearOf adjOf; rw [List.map_map]; rfl

/-! ### Colours -/

structure ColoursOk (n : Net) (l : List Int) : Prop where
  good : Good n
  len : l.length = n.ends.length
  all : AllIn l 0 1000000000000

/-! ### IsDefective -/

/-! ### IsWeak -/

end Go.Proofs.YtaeledhbkdakcaaGreatDoor
end

section
/- Distances in a network, and the search that finds them, in plain words: no program in sight. -/
namespace Go.Proofs.YtaeledhbkdakcaaGreatDoor

/-- A walk of k steps from v to x. -/
def Reach (E : Ends) (v : Nat) : Nat → Nat → Prop
  | 0, x => x = v
  | k + 1, x => ∃ y, Reach E v k y ∧ (x : Int) ∈ adjOf E y

/-- The list of all distances from v: -1 where no walk leads. -/
structure Dists (E : Ends) (v : Nat) (D : List Int) : Prop where
  len : D.length = E.length
  low : ∀ u, -1 ≤ D.getD u (-1)
  sound : ∀ u d : Nat, D.getD u (-1) = d → Reach E v d u
  least : ∀ k x, Reach E v k x → 0 ≤ D.getD x (-1) ∧ D.getD x (-1) ≤ k

theorem Dists.eq {E : Ends} {v : Nat} {D D' : List Int} (h : Dists E v D) (h' : Dists E v D') : D = D' := by
  have key : ∀ {A B : List Int}, Dists E v A → Dists E v B → ∀ u, 0 ≤ A.getD u (-1) → 0 ≤ B.getD u (-1) ∧ B.getD u (-1) ≤ A.getD u (-1) := by
    intro A B hA hB u hu
    obtain ⟨d, hd⟩ := Int.eq_ofNat_of_zero_le hu
    have := hB.least d u (hA.sound u d hd)
    rw [hd]
    exact this
  apply List.ext_getElem (by rw [h.len, h'.len])
  intro i h1 h2
  have e1 : D.getD i (-1) = D[i] := by simp [h1]
  have e2 : D'.getD i (-1) = D'[i] := by simp [h2]
  rw [← e1, ← e2]
  have l1 := h.low i
  have l2 := h'.low i
  by_cases hu : 0 ≤ D.getD i (-1)
  · have k1 := key h h' i hu
    have k2 := key h' h i k1.1
    omega
  · by_cases hu' : 0 ≤ D'.getD i (-1)
    · have k2 := key h' h i hu'
      omega
    · omega

/-- The distance of the queue's i-th node. -/
def dv (D W : List Int) (i : Nat) : Int := D.getD (W.getD i 0).toNat (-1)

/-- The search's state: the nodes found so far, in order; their distances; how many have been looked at. -/
structure Bfs (E : Ends) (v : Nat) (W D : List Int) (k : Nat) : Prop where
  len : D.length = E.length
  le : k ≤ W.length
  nodes : ∀ x ∈ W, ∃ u : Nat, x = u ∧ u < E.length
  nodup : W.Nodup
  mem : ∀ u : Nat, u < E.length → ((u : Int) ∈ W ↔ 0 ≤ D.getD u (-1))
  root : (v : Int) ∈ W
  zero : D.getD v (-1) = 0
  low : ∀ u, -1 ≤ D.getD u (-1)
  sound : ∀ u d : Nat, D.getD u (-1) = d → Reach E v d u
  mono : ∀ i j, i ≤ j → j < W.length → dv D W i ≤ dv D W j
  cap : k < W.length → ∀ j < W.length, dv D W j ≤ dv D W k + 1
  done : ∀ i < k, ∀ u : Nat, (u : Int) ∈ adjOf E (W.getD i 0).toNat → 0 ≤ D.getD u (-1) ∧ D.getD u (-1) ≤ dv D W i + 1
  small : ∀ u, D.getD u (-1) < W.length

theorem getD_set {D : List Int} {y : Nat} (hy : y < D.length) (x : Int) (u : Nat) : (D.set y x).getD u (-1) = if u = y then x else D.getD u (-1) := by
  by_cases h : u = y
  · subst h; simp [hy]
  · simp [h, List.getElem?_set_ne (Ne.symm h)]

section
variable {E : Ends} {v k : Nat} {W D : List Int}

theorem Bfs.node (h : Bfs E v W D k) {i : Nat} (hi : i < W.length) : ∃ u : Nat, W[i] = u ∧ W.getD i 0 = u ∧ u < E.length ∧ 0 ≤ D.getD u (-1) ∧ dv D W i = D.getD u (-1) := by
  obtain ⟨u, hu, hul⟩ := h.nodes W[i] (List.getElem_mem hi)
  have hg : W.getD i 0 = u := by simp [hi, hu]
  refine ⟨u, hu, hg, hul, (h.mem u hul).1 (by rw [← hu]; exact List.getElem_mem hi), ?_⟩
  unfold dv
  rw [hg]
  simp

/-- A neighbour that is found now. -/
theorem Bfs.add (h : Bfs E v W D k) (hk : k < W.length) {y : Nat} (hy : y < E.length) (ha : (y : Int) ∈ adjOf E (W.getD k 0).toNat) (hn : D.getD y (-1) < 0) :
    Bfs E v (W ++ [(y : Int)]) (D.set y (dv D W k + 1)) k := by
  have hyD : y < D.length := by rw [h.len]; exact hy
  have hg := getD_set hyD (dv D W k + 1)
  obtain ⟨c, _, hck, hcl, hc0, hcd⟩ := h.node hk
  have hdk : 0 ≤ dv D W k := by omega
  have hold : ∀ i, i < W.length → (W ++ [(y : Int)]).getD i 0 = W.getD i 0 := by
    intro i hi
    simp [List.getElem?_append_left hi]
  have hnew : (W ++ [(y : Int)]).getD W.length 0 = y := by simp
  have hdo : ∀ i, i < W.length → dv (D.set y (dv D W k + 1)) (W ++ [(y : Int)]) i = dv D W i := by
    intro i hi
    obtain ⟨u, _, hu, _, hu0, hud⟩ := h.node hi
    show (D.set y (dv D W k + 1)).getD ((W ++ [(y : Int)]).getD i 0).toNat (-1) = D.getD (W.getD i 0).toNat (-1)
    rw [hold i hi, hu, hg]
    simp only [Int.toNat_natCast]
    rw [if_neg (fun he => by subst he; omega)]
  have hdn : dv (D.set y (dv D W k + 1)) (W ++ [(y : Int)]) W.length = dv D W k + 1 := by
    show (D.set y (dv D W k + 1)).getD ((W ++ [(y : Int)]).getD W.length 0).toNat (-1) = _
    rw [hnew, hg]; simp
  have hyW : (y : Int) ∉ W := fun hm => by have := (h.mem y hy).1 hm; omega
  refine ⟨by simp [h.len], by have := h.le; simp; omega, ?_, ?_, ?_, by simp [h.root], ?_, ?_, ?_, ?_, ?_, ?_, ?_⟩
  · intro x hx
    rcases List.mem_append.1 hx with h1 | h1
    · exact h.nodes x h1
    · exact ⟨y, by simpa using h1, hy⟩
  · rw [List.nodup_append]
    refine ⟨h.nodup, by simp, fun a ha b hb hab => ?_⟩
    rw [List.mem_singleton.1 hb] at hab
    subst hab
    exact hyW ha
  · intro u hu
    rw [hg, List.mem_append, h.mem u hu]
    by_cases he : u = y
    · subst he; simp; omega
    · simp [he]
      omega
  · rw [hg]
    have := h.zero
    rw [if_neg (fun he => by subst he; omega)]
    exact h.zero
  · intro u
    rw [hg]
    split
    · omega
    · exact h.low u
  · intro u d hd
    rw [hg] at hd
    split at hd
    · rename_i he
      subst he
      obtain ⟨e, he⟩ := Int.eq_ofNat_of_zero_le hdk
      obtain rfl : d = e + 1 := by omega
      refine ⟨c, h.sound c e (by rw [← hcd]; exact he), ?_⟩
      rw [hck] at ha
      simpa using ha
    · exact h.sound u d hd
  · intro i j hij hj
    simp at hj
    rcases Nat.lt_or_eq_of_le (Nat.le_of_lt_succ hj) with h1 | h1
    · rw [hdo i (by omega), hdo j h1]; exact h.mono i j hij h1
    · subst h1
      rw [hdn]
      rcases Nat.lt_or_eq_of_le hij with h2 | h2
      · rw [hdo i h2]; exact h.cap hk i h2
      · subst h2; rw [hdn]; exact Int.le_refl _
  · intro _ j hj
    simp at hj
    rw [hdo k hk]
    rcases Nat.lt_or_eq_of_le (Nat.le_of_lt_succ hj) with h1 | h1
    · rw [hdo j h1]; exact h.cap hk j h1
    · subst h1; rw [hdn]; exact Int.le_refl _
  · intro i hi u hu
    rw [hold i (by omega)] at hu
    have := h.done i hi u hu
    rw [hdo i (by omega), hg]
    rw [if_neg (fun he => by subst he; omega)]
    exact this
  · intro u
    rw [hg]
    have h1 := h.small u
    have h2 := h.small c
    simp only [List.length_append, List.length_singleton]
    push_cast
    split <;> omega

/-- All neighbours have been looked at. -/
theorem Bfs.next (h : Bfs E v W D k) (hk : k < W.length) (ha : ∀ u : Nat, (u : Int) ∈ adjOf E (W.getD k 0).toNat → 0 ≤ D.getD u (-1) ∧ D.getD u (-1) ≤ dv D W k + 1) : Bfs E v W D (k + 1) :=
  { h with
    le := hk
    cap := fun hk' j hj => by
      have h1 := h.cap hk j hj
      have h2 := h.mono k (k + 1) (by omega) hk'
      omega
    done := fun i hi u hu => by
      rcases Nat.lt_or_eq_of_le (Nat.le_of_lt_succ hi) with h1 | h1
      · exact h.done i h1 u hu
      · subst h1; exact ha u hu }

theorem adj_lt {y x : Nat} (h : (x : Int) ∈ adjOf E y) : y < E.length := by
  by_cases hy : y < E.length
  · exact hy
  · unfold adjOf rowOf at h
    simp [hy] at h

theorem Bfs.end (h : Bfs E v W D W.length) : Dists E v D := by
  refine ⟨h.len, h.low, h.sound, ?_⟩
  intro j
  induction j with
  | zero =>
    intro x hx
    have hx' : x = v := hx
    subst hx'
    rw [h.zero]
    exact ⟨by omega, by omega⟩
  | succ j ih =>
    rintro x ⟨y, hy, hx⟩
    have hyl := adj_lt hx
    obtain ⟨h0, h1⟩ := ih y hy
    obtain ⟨i, hi, hiy⟩ := List.mem_iff_getElem.1 ((h.mem y hyl).2 h0)
    obtain ⟨u, hu, hug, _, _, hd⟩ := h.node hi
    obtain rfl : u = y := by rw [hiy] at hu; omega
    have := h.done i hi x (by rw [hug]; simpa using hx)
    rw [hd] at this
    refine ⟨this.1, ?_⟩
    have h2 := this.2
    push_cast
    omega

theorem nodup_length : ∀ (n : Nat) (l : List Nat), l.Nodup → (∀ x ∈ l, x < n) → l.length ≤ n
  | 0, l, _, h => by
    cases l with
    | nil => simp
    | cons x r => exact absurd (h x (by simp)) (by omega)
  | n + 1, l, hd, h => by
    have h1 := nodup_length n (l.erase n) (hd.erase n) (fun x hx => by
      have hm := (hd.mem_erase_iff).1 hx
      have := h x hm.2
      omega)
    have h2 : l.length ≤ (l.erase n).length + 1 := by
      rw [List.length_erase]
      split <;> omega
    omega

theorem Bfs.size (h : Bfs E v W D k) : W.length ≤ E.length := by
  have := nodup_length E.length (W.map Int.toNat) (by
    rw [List.nodup_iff_pairwise_ne, List.pairwise_map]
    refine (List.nodup_iff_pairwise_ne.1 h.nodup).imp_of_mem ?_
    intro a b ha hb hab he
    obtain ⟨x, rfl, _⟩ := h.nodes a ha
    obtain ⟨y, rfl, _⟩ := h.nodes b hb
    simp at he
    exact hab (by omega)) (by
    intro x hx
    obtain ⟨a, ha, rfl⟩ := List.mem_map.1 hx
    obtain ⟨u, rfl, hu⟩ := h.nodes a ha
    simpa using hu)
  simpa using this
end

end Go.Proofs.YtaeledhbkdakcaaGreatDoor
end

section
/- Plain facts on walks: shortening, components, periods, flexible labels. No program in sight. -/
namespace Go.Proofs.YtaeledhbkdakcaaGreatDoor
set_option maxRecDepth 100000

/-- A walk of some length. -/
def Wk (E : Nat → Nat → Prop) : Nat → Nat → Nat → Prop
  | 0, a, b => a = b
  | k + 1, a, b => ∃ c, Wk E k a c ∧ E c b

section
variable {E : Nat → Nat → Prop} {a b c r u v j k n : Nat}

theorem Wk.cat (h : Wk E j a b) : ∀ {k c}, Wk E k b c → Wk E (j + k) a c
  | 0, _, h2 => by cases h2; exact h
  | k + 1, _, ⟨d, h2, h3⟩ => ⟨d, Wk.cat h h2, h3⟩
theorem Wk.one (h : E a b) : Wk E 1 a b := ⟨a, rfl, h⟩
theorem Wk.cons (h : E a b) (h2 : Wk E k b c) : Wk E (k + 1) a c := by
  have := (Wk.one h).cat h2
  rwa [Nat.add_comm] at this
theorem Wk.cut : ∀ {k c}, Wk E (j + k) a c → ∃ b, Wk E j a b ∧ Wk E k b c
  | 0, _, h => ⟨_, h, rfl⟩
  | k + 1, c, ⟨d, h2, h3⟩ => by
    obtain ⟨b, h4, h5⟩ := Wk.cut (k := k) h2
    exact ⟨b, h4, d, h5, h3⟩
theorem Wk.lt (hE : ∀ x y, E x y → y < n) : ∀ {k b}, Wk E k a b → 1 ≤ k → b < n
  | _ + 1, _, ⟨_, _, h⟩, _ => hE _ _ h
/-- The labels of a walk. -/
theorem Wk.path : ∀ {k b}, Wk E k a b → ∃ v : Nat → Nat, v 0 = a ∧ v k = b ∧ ∀ i, i < k → E (v i) (v (i + 1))
  | 0, _, h => by cases h; exact ⟨fun _ => a, rfl, rfl, fun i hi => by omega⟩
  | k + 1, b, ⟨c, h, he⟩ => by
    obtain ⟨v, h0, hk, hs⟩ := Wk.path h
    refine ⟨fun i => if i = k + 1 then b else v i, ?_, ?_, fun i hi => ?_⟩
    · simp only [if_neg (show (0 : Nat) ≠ k + 1 by omega)]; exact h0
    · simp
    · by_cases hi2 : i = k
      · subst hi2
        simp only [if_neg (show i ≠ i + 1 by omega), if_true]
        rw [hk]; exact he
      · simp only [if_neg (show i ≠ k + 1 by omega), if_neg (show i + 1 ≠ k + 1 by omega)]
        exact hs i (by omega)
/-- Labels that walks lead to and from. -/
def Comp (E : Nat → Nat → Prop) (r b : Nat) : Prop := (∃ k, Wk E k r b) ∧ ∃ k, Wk E k b r
theorem Comp.refl : Comp E r r := ⟨⟨0, rfl⟩, ⟨0, rfl⟩⟩
theorem Comp.symm (h : Comp E a b) : Comp E b a := ⟨h.2, h.1⟩
theorem Comp.trans (h : Comp E a b) (h2 : Comp E b c) : Comp E a c := by
  obtain ⟨⟨j, p⟩, k, q⟩ := h
  obtain ⟨⟨j', p'⟩, k', q'⟩ := h2
  exact ⟨⟨_, p.cat p'⟩, _, q'.cat q⟩

/-- A divisor of the lengths of closed walks. -/
def PerDiv (E : Nat → Nat → Prop) (r g : Nat) : Prop := ∀ k, Wk E k r r → g ∣ k
def Flex (E : Nat → Nat → Prop) (a : Nat) : Prop := (∃ k, 0 < k ∧ Wk E k a a) ∧ ∀ g, PerDiv E a g → g = 1

end

noncomputable def flexL (E : Nat → Nat → Prop) (n : Nat) : List Int := by
  classical exact ((List.range n).filter (fun a => decide (Flex E a))).map fun a : Nat => (a : Int)

/-! ### Components by their roots -/

noncomputable def compL (E : Nat → Nat → Prop) (n r : Nat) : List Int := by
  classical exact ((List.range n).filter (fun a => decide (Comp E r a))).map fun a : Nat => (a : Int)
/-- The roots of the components with closed walks, of the labels below a number. -/
structure Roots (E : Nat → Nat → Prop) (a : Nat) (rs : List Nat) : Prop where
  lt : ∀ r ∈ rs, r < a
  cyc : ∀ r ∈ rs, ∃ k, 0 < k ∧ Wk E k r r
  apart : rs.Pairwise fun r q => ¬ Comp E r q
  cover : ∀ b, b < a → (∃ k, 0 < k ∧ Wk E k b b) → ∃ r ∈ rs, Comp E r b

theorem Roots.nil (E : Nat → Nat → Prop) : Roots E 0 [] := ⟨by simp, by simp, List.Pairwise.nil, fun b hb => by omega⟩
theorem Roots.skip {E : Nat → Nat → Prop} {a : Nat} {rs : List Nat} (h : Roots E a rs) (hs : (∃ k, 0 < k ∧ Wk E k a a) → ∃ r ∈ rs, Comp E r a) : Roots E (a + 1) rs :=
  ⟨fun r hr => by have := h.lt r hr; omega, h.cyc, h.apart, fun b hb hc => by
    rcases Nat.lt_or_eq_of_le (Nat.le_of_lt_succ hb) with h1 | rfl
    · exact h.cover b h1 hc
    · exact hs hc⟩
theorem Roots.add {E : Nat → Nat → Prop} {a : Nat} {rs : List Nat} (h : Roots E a rs) (hc : ∃ k, 0 < k ∧ Wk E k a a) (hn : ∀ r ∈ rs, ¬ Comp E r a) : Roots E (a + 1) (rs ++ [a]) :=
  ⟨fun r hr => by
    rcases List.mem_append.1 hr with hr | hr
    · have := h.lt r hr; omega
    · rw [List.mem_singleton.1 hr]; omega, fun r hr => by
    rcases List.mem_append.1 hr with hr | hr
    · exact h.cyc r hr
    · rw [List.mem_singleton.1 hr]; exact hc, by
    rw [List.pairwise_append]
    exact ⟨h.apart, List.pairwise_singleton _ _, fun r hr q hq => by rw [List.mem_singleton.1 hq]; exact hn r hr⟩, fun b hb hcb => by
    rcases Nat.lt_or_eq_of_le (Nat.le_of_lt_succ hb) with h1 | rfl
    · obtain ⟨r, hr, hx⟩ := h.cover b h1 hcb
      exact ⟨r, List.mem_append_left _ hr, hx⟩
    · exact ⟨b, by simp, Comp.refl⟩⟩
end Go.Proofs.YtaeledhbkdakcaaGreatDoor
end

section
/- slices.Values at []int: its closure calls yield for each element; turned from the kit's worked text on the library's two iterators over a slice. -/
namespace Go.Proofs.YtaeledhbkdakcaaGreatDoor
open Go Go.RowKit Go.Shelf Go.Proofs

attribute [local go_sem] Oper.semAt_some

/-- What has come when k rounds are over. -/
def upto {α : Type} (f : Nat → α) (k : Nat) : List α := (List.range k).map f
theorem upto_succ {α : Type} (f : Nat → α) (k : Nat) : upto f (k + 1) = upto f k ++ [f k] := by simp [upto, List.range_succ]
theorem upto_length {α : Type} (f : Nat → α) (k : Nat) : (upto f k).length = k := by simp [upto]
theorem upto_all (zs : List Int) : upto (fun j => zs[j]?.getD 0) zs.length = zs := by
  apply List.ext_getElem
  · simp [upto]
  · intro i h1 h2
    simp [upto, h2]
theorem upto_take (zs : List Int) {k : Nat} (hk : k ≤ zs.length) : upto (fun j => zs[j]?.getD 0) k = zs.take k := by
  apply List.ext_getElem
  · simp [upto, hk]
  · intro i h1 h2
    have : i < zs.length := by simp [upto] at h1; omega
    simp [upto, this]

theorem add_block (ad : Addr) (k : Nat) : (ad.add k).block = ad.block := by unfold Addr.add; split <;> rfl

set_option maxRecDepth 100000 in
set_option maxHeartbeats 2000000 in
theorem values1_in (Fe : Fence) (n : Nat) (h7 : Fe.fn 299) (hro : Fe.round = none) (hn : 1 ≤ n) (l Bs n₀ len cap : Nat) (ad : Addr) (zs : List Int) (hreach : len * 8 ≤ 140737488351232) (hb : 0 < len → ad.block < n₀) (J Jx : List Int → World → Prop)
    (hY : ∀ pre x W, J pre W → pre.length < len → YieldAt Fe (n - 1) Tryz.prog l #[.int .i64 x] W fun e W' =>
      (e = .returned (.bool true) ∧ J (pre ++ [x]) W' ∧ Below n₀ W W') ∨ (e = .returned (.bool false) ∧ Jx (pre ++ [x]) W'))
    (W : World) (hBs : W.cell? ⟨Bs, 0, none⟩ = some (.slice (some ad) len cap)) (hc : ∀ j, j < len → W.cell? (ad.add j) = some (.int .i64 (zs[j]?.getD 0))) (h0 : J [] W) :
    CallsIn Fe n Tryz.prog 299 #[.func (.yield l) #[] #[], .pointer (some ⟨Bs, 0, none⟩)] W fun e W' => (∃ v, e = .returned v) ∧
      ((∃ ys, ys = upto (fun j => zs[j]?.getD 0) len ∧ J ys W') ∨ (∃ pre, (∃ k, k ≤ len ∧ pre = upto (fun j => zs[j]?.getD 0) k) ∧ Jx pre W')) := by
  refine callsIn_of_wp Tryz.func299 rfl h7 ?_ hro
  simp only [Tryz.ntmps299, List.size_toArray, List.length_cons, List.length_nil, Nat.reduceAdd, Nat.reduceSub, Array.replicate_succ, Array.replicate_zero, List.push_toArray, List.append_toArray, List.nil_append, List.cons_append]
  gi_wp2
  gi_loopw [7] (fun i wr => ∃ k : Nat, k ≤ len ∧ i = .int .i64 k ∧ J (upto (fun j => zs[j]?.getD 0) k) wr ∧ Below n₀ W wr)
    (fun i _ => len - (intOf i).toNat)
  case atStart => exact ⟨0, Nat.zero_le _, rfl, h0, Below.refl _ _⟩
  case round =>
    obtain ⟨k, hk, rfl, hJs, hnx⟩ := hrel
    have hcx : k < len → wr.cell? (ad.add k) = some (.int .i64 (zs[k]?.getD 0)) := fun h => (hnx.cell (p := ad.add k) (by rw [add_block]; exact hb (by omega))).trans (hc k h)
    by_cases hlt : k < len
    · obtain ⟨fn, tmps, assign, body, hy, hR⟩ := hY _ (zs[k]?.getD 0) wr hJs (by rw [upto_length]; exact hlt)
      have hcx' := hcx hlt
      gi_wp2
      refine hR.mono ?_
      rintro e W3 (⟨rfl, hJ3, hk3⟩ | ⟨rfl, hJx3⟩)
      · gi_wp2
        go_roundw
        case rel => exact ⟨k + 1, by omega, by simp, by rw [upto_succ]; exact hJ3, hnx.trans hk3⟩
        case measure => simp [intOf]; omega
      · gi_wp2
        refine bodyPost_ret (results_none rfl _ _ _) rfl ?_
        exact ⟨⟨_, rfl⟩, .inr ⟨_, ⟨k + 1, by omega, (upto_succ _ _).symm⟩, hJx3⟩⟩
    · obtain rfl : k = len := by omega
      gi_wp2
      go_end0
      exact ⟨⟨_, rfl⟩, .inl ⟨_, rfl, hJs⟩⟩

/-- The slice value sv holds the ints zs, in a block below n₀; or it is nil and there are none. -/
def IntsIn (n₀ : Nat) (W : World) (sv : Value) (zs : List Int) : Prop :=
  (∃ cap, sv = .slice none 0 cap ∧ zs = []) ∨ ∃ ad cap, sv = .slice (some ad) zs.length cap ∧ (0 < zs.length → ad.block < n₀) ∧ ∀ j, j < zs.length → W.cell? (ad.add j) = some (.int .i64 (zs[j]?.getD 0))
theorem IntsIn.below {n₀ : Nat} {A B : World} (h : Below n₀ A B) {sv : Value} {zs : List Int} : IntsIn n₀ A sv zs → IntsIn n₀ B sv zs
  | .inl e => .inl e
  | .inr ⟨ad, cap, e, hb, hc⟩ => .inr ⟨ad, cap, e, hb, fun j hj => (h.cell (p := ad.add j) (by rw [add_block]; exact hb (by omega))).trans (hc j hj)⟩

set_option maxRecDepth 100000 in
set_option maxHeartbeats 1000000 in
theorem values1_nil_in (Fe : Fence) (n : Nat) (h7 : Fe.fn 299) (hro : Fe.round = none) (l Bs cap : Nat) (J : List Int → World → Prop) (W : World) (hBs : W.cell? ⟨Bs, 0, none⟩ = some (.slice none 0 cap)) (h0 : J [] W) :
    CallsIn Fe n Tryz.prog 299 #[.func (.yield l) #[] #[], .pointer (some ⟨Bs, 0, none⟩)] W fun e W' => (∃ v, e = .returned v) ∧ J [] W' := by
  refine callsIn_of_wp Tryz.func299 rfl h7 ?_ hro
  simp only [Tryz.ntmps299, List.size_toArray, List.length_cons, List.length_nil, Nat.reduceAdd, Nat.reduceSub, Array.replicate_succ, Array.replicate_zero, List.push_toArray, List.append_toArray, List.nil_append, List.cons_append]
  gi_wp2
  gi_loopw [7] (fun i wr => i = .int .i64 0 ∧ J [] wr) (fun _ _ => 0)
  case atStart => exact ⟨rfl, h0⟩
  case round =>
    obtain ⟨rfl, hJs⟩ := hrel
    gi_wp2
    go_end0
    exact ⟨⟨_, rfl⟩, hJs⟩

theorem values_stops (Fe : Fence) (n : Nat) (h7 : Fe.fn 299) (hro : Fe.round = none) (hn : 1 ≤ n) (Bs n₀ : Nat) (sv : Value) (zs : List Int) (hreach : zs.length * 8 ≤ 140737488351232) (w : World) (hBs : Bs < w.heap.size) (hn₀ : n₀ ≤ w.heap.size)
    (hc : w.cell? ⟨Bs, 0, none⟩ = some sv) (hI : IntsIn n₀ w sv zs) :
    SeqStopsK Fe n Tryz.prog 299 #[.pointer (some ⟨Bs, 0, none⟩)] (fun x : Int => #[Value.int .i64 x]) (Below n₀) (fun ys => ys = zs) (fun pre => pre <+: zs) zs.length w := fun l J Jx W hW _ _ hY h0 => by
  have hc' := (hW.cell (p := ⟨Bs, 0, none⟩) hBs).trans hc
  rcases hI.below (hW.mono hn₀) with ⟨cap, rfl, rfl⟩ | ⟨ad, cap, rfl, hb, hcs⟩
  · exact (values1_nil_in Fe n h7 hro l Bs cap J W hc' h0).mono fun e W' ⟨he, hj⟩ => ⟨he, .inl ⟨_, rfl, hj⟩⟩
  · refine (values1_in Fe n h7 hro hn l Bs n₀ zs.length cap ad zs hreach hb J Jx hY W hc' hcs h0).mono ?_
    rintro e W' ⟨he, ⟨ys, rfl, hj⟩ | ⟨pre, ⟨k, hk, rfl⟩, hj⟩⟩
    · exact ⟨he, .inl ⟨_, upto_all zs, hj⟩⟩
    · exact ⟨he, .inr ⟨_, by rw [upto_take zs hk]; exact List.take_prefix _ _, hj⟩⟩

end Go.Proofs.YtaeledhbkdakcaaGreatDoor
end

section
/- slices.AppendSeq(nil, slices.Values(s)), slices.Collect, slices.Sorted at []int. The walk of the loop is turned from the kit's worked texts (a loop over slices.Values; the shelf's slices.Collect). -/
namespace Go.Proofs.YtaeledhbkdakcaaGreatDoor
open Go Go.RowKit Go.Shelf Go.Proofs

attribute [local go_sem] Oper.semAt_some

theorem boxCell {W : World} {B : Nat} {v : Value} {t : TypeId} (h : W.heap[B]? = some (.cells #[v] t (0, 0))) : W.cell? ⟨B, 0, none⟩ = some v ∧ W.frozen? ⟨B, 0, none⟩ = false := by
  constructor
  · simp [World.cell?, h]
  · simp [World.frozen?, h]

theorem setCell_box {W : World} {B : Nat} {u v : Value} {t : TypeId} (h : W.heap[B]? = some (.cells #[u] t (0, 0))) : (W.setCell ⟨B, 0, none⟩ v).heap[B]? = some (.cells #[v] t (0, 0)) := by
  simp [World.setCell, Array.getElem?_modify, h]

theorem rowNe {W : World} {base : Nat} {e : TypeId} {size : Nat} {v : Value} {k : Nat} {xs : List Value} (h : W.ownsRow base e size v k xs) {j : Nat} {o : Obj} (hj : W.heap[j]? = some o) (hno : ∀ cur, o ≠ .cells cur e (0, 0)) :
    v.ownBlock = none ∨ v.ownBlock ≠ some j := by
  rcases h.2 with ⟨rfl, _⟩ | ⟨g, cap, cur, rfl, _, hg, _⟩
  · exact .inl rfl
  · refine .inr fun e' => ?_
    cases e'
    rw [hg] at hj
    exact hno cur (by cases hj; rfl)

theorem rowAbides {W W' : World} {row : Option Nat} {base : Nat} {e : TypeId} {size : Nat} {v : Value} {k : Nat} {xs : List Value} (h : W.ownsRow base e size v k xs) (hg : W.grownBy W' row)
    (hr : ∀ r, row = some r → ∃ o : Obj, W.heap[r]? = some o ∧ o.isCells = false) : W'.ownsRow base e size v k xs := by
  refine h.kept hg ?_
  cases row with
  | none => cases hv : v.ownBlock <;> simp
  | some r =>
    obtain ⟨o, ho, hc⟩ := hr r rfl
    exact rowNe h ho (fun cur e' => by subst e'; simp [Obj.isCells] at hc)

/-- Between two rounds: the box holds a slice that owns what has come so far, in a block of the call's own. -/
def ApAt (base Bs : Nat) (ss : List Int) (W : World) : Prop :=
  ∃ v, W.heap[Bs]? = some (.cells #[v] 25 (0, 0)) ∧ W.ownsRow base 3 1 v ss.length (ss.map (Value.int .i64))

theorem apAt_own (base Bs : Nat) : Go.Own (ApAt base Bs) := fun ss A B row ⟨v, hv, ho⟩ hg hr => by
  refine ⟨v, ?_, rowAbides ho hg hr⟩
  refine (hg.block Bs (Array.getElem?_eq_some_iff.1 hv).1 (fun e => ?_)).trans hv
  obtain ⟨o, h1, h2⟩ := hr Bs e.symm
  rw [hv] at h1; cases h1; simp [Obj.isCells] at h2

theorem infoI : (Tryz.prog.info? 3).map (fun i => (i.zero, i.size, i.bytes)) = some (some (.int .i64 0), 1, 8) := by kernel_rfl

set_option maxRecDepth 100000 in
set_option maxHeartbeats 4000000 in
theorem appendSeq_in (Fe : Fence) (n : Nat) (hA : Fe.fn 301) (h7 : Fe.fn 299) (hro : Fe.round = none) (hn : 3 ≤ n) (Bs : Nat) (sv : Value) (zs : List Int) (hreach : zs.length * 8 ≤ 140737488351232)
    (w : World) (hBs : Bs < w.heap.size) (hc : w.cell? ⟨Bs, 0, none⟩ = some sv) (hI : IntsIn w.heap.size w sv zs) :
    CallsIn Fe n Tryz.prog 301 #[.slice none 0 0, .func (.func 299) #[] #[.pointer (some ⟨Bs, 0, none⟩)]] w fun e w' =>
      ∃ v, e = .returned v ∧ w'.ownsRow w.heap.size 3 1 v zs.length (zs.map (Value.int .i64)) ∧ Below w.heap.size w w' := by
  have h1 : 1 ≤ n := by omega
  obtain ⟨i0, hi, hz0, hz1, hz2⟩ := info_parts infoI
  refine callsIn_of_wp_marks Tryz.func301 rfl hA ?_ hro
  simp only [Tryz.ntmps301, List.size_toArray, List.length_cons, List.length_nil, Nat.reduceAdd, Nat.reduceSub, Array.replicate_succ, Array.replicate_zero, List.push_toArray, List.append_toArray, List.nil_append, List.cons_append]
  gi_wp2
  have hB0 : Below w.heap.size w (w.alloc (.cells #[.slice none 0 0] 25)) := (Below.refl _ w).alloc (Nat.le_refl _) _
  have hbx : (w.alloc (.cells #[.slice none 0 0] 25)).heap[w.heap.size]? = some (.cells #[.slice none 0 0] 25 (0, 0)) := World.alloc_heap_new w _
  refine wpIn_rangeFunc_ownG hro h1 (gf := 299) (lb := #[.pointer (some ⟨Bs, 0, none⟩)]) rfl h7 (enters_of Tryz.func299 (by kernel_rfl) rfl)
    (values_stops Fe (n - 1) h7 hro (by omega) Bs w.heap.size sv zs hreach _ (by simp; omega) (by simp) ((hB0.cell (p := ⟨Bs, 0, none⟩) hBs).trans hc) (hI.below hB0)) belowK_t (belowK_b (by simp)) (Below.refl _ _) (fun _ => rfl)
    (fun pre W => ApAt w.heap.size w.heap.size pre W ∧ Below w.heap.size w W)
    (fun _ _ _ => False)
    (OwnFrom.and (Own.from (apAt_own _ _) _) (ownFrom_below (Nat.le_refl _) (by simp)))
    (fun _ _ _ _ _ hs _ _ => hs)
    ⟨⟨_, hbx, World.ownsRow_nil _ _ _ _⟩, hB0⟩
    (fun x => { tmps := #[.slice none 0 0, .func (.func 299) #[] #[.pointer (some ⟨Bs, 0, none⟩)], .pointer (some ⟨w.heap.size, 0, none⟩), undef, .slice none 0 0, .int .i64 x, .func (.func 299) #[] #[.pointer (some ⟨Bs, 0, none⟩)], .int .i64 x, undef, undef, undef, undef, undef], defers := [] }) ?assign ?body ?done ?stop
  case assign =>
    intro l x W K hK
    gi_wp2
    exact hK
  case body =>
    rintro l pre x W ⟨⟨v, hv, hown⟩, hB⟩ hlen
    obtain ⟨hc1, hf1⟩ := boxCell hv
    have hbz : w.heap.size < W.heap.size := (Array.getElem?_eq_some_iff.1 hv).1
    gi_wp2_with (first
      | (gi_at_builtin; refine wpListIn_append_own _ rfl _ _ 25 rfl w.heap.size 3 i0 (.int .i64 0) 1 8 Tryz.underlying25 hi hz0 hz1 hz2 rfl (by decide) _ _ _ rfl (hown.alloc _) ⟨W.heap.size, 0, none⟩ 1 1 [.int .i64 x] rfl rfl (cell_one_new _ _ _) (by simp [Value.oneCell']) (by unfold maxLen; omega) (by omega) (by simp; omega) ?_; intro v' w3 hown' hg3q hnil3
         have hg3 : (W.alloc (.cells #[.int .i64 x] 3)).grownBy w3 v.ownBlock := hg3q
         clear hg3q hnil3
         have hv3 : w3.heap[w.heap.size]? = some (.cells #[v] 25 (0, 0)) := (hg3.block w.heap.size (by simp; omega) (by
           rcases rowNe hown hv (fun cur e => by cases e) with e | e
           · rw [e]; simp
           · exact fun e' => e e'.symm)).trans ((Below.heap_alloc _ _ w.heap.size hbz).trans hv)
         obtain ⟨hc3, hf3⟩ := boxCell hv3
         obtain ⟨g', cap', cur', rfl, hbase', hgb', hr1, hr2, hr3, hr4⟩ : ∃ g' cap' cur', v' = .slice (some ⟨g', 0, none⟩) (pre.length + 1) cap' ∧ w.heap.size ≤ g' ∧ w3.heap[g']? = some (.cells cur' 3 (0, 0)) ∧ pre.length + 1 ≤ cap' ∧ cap' ≤ maxLen ∧ cur'.size = cap' * 1 ∧ cur'.toList.take ((pre.length + 1) * 1) = pre.map (Value.int .i64) ++ [.int .i64 x] := by
           rcases hown'.2 with ⟨_, h0⟩ | h'
           · exact absurd h0 (by omega)
           · exact h')
      | gi_in)
    have hne : v.ownBlock ≠ some w.heap.size := by
      rcases rowNe hown hv (fun cur e => by cases e) with e | e
      · rw [e]; simp
      · exact e
    have hW3 : W.grownBy w3 v.ownBlock := ⟨hg3.os, hg3.tape, hg3.output, by have := hg3.size; simp at this; omega, fun k hk hkr => (hg3.block k (by simp; omega) hkr).trans (Below.heap_alloc _ _ k hk)⟩
    have hg4 := grownBy_setCell' w3 w.heap.size (.slice (some ⟨g', 0, none⟩) (pre.length + 1) cap')
    have hBW : Below w.heap.size W w3 := (Below.refl w.heap.size W).grown hW3 (Nat.le_of_lt hbz) (fun k e => (hown.lt k e).1)
    have hB4 : Below w.heap.size w3 (w3.setCell ⟨w.heap.size, 0, none⟩ (.slice (some ⟨g', 0, none⟩) (pre.length + 1) cap')) := (Below.refl w.heap.size w3).setCell (p := ⟨w.heap.size, 0, none⟩) (Nat.le_refl _) _
    refine ⟨⟨by have := hW3.size; have := hg4.size; omega, fun k o hk ho hoc => ?_⟩, hBW.trans hB4, ⟨_, setCell_box hv3, ?_⟩, hB.trans (hBW.trans hB4)⟩
    · have hkl : k < W.heap.size := (Array.getElem?_eq_some_iff.1 ho).1
      have h3 : w3.heap[k]? = some o := (hW3.block k hkl (fun e => by
        rcases hown.2 with ⟨rfl, _⟩ | ⟨g, cap, cur, rfl, _, hgc, _⟩
        · cases e
        · cases e
          rw [hgc] at ho; cases ho; simp [Obj.isCells] at hoc)).trans ho
      exact (hg4.block k (Array.getElem?_eq_some_iff.1 h3).1 (fun e => by cases e; rw [World.size_alloc] at hk; omega)).trans h3
    · have := hown'.kept hg4 (rowNe hown' hv3 (fun cur e => by cases e))
      simpa using this
  case done =>
    rintro D ys W hD rfl ⟨⟨v, hv, hown⟩, hB⟩ hK
    obtain ⟨hc1, hf1⟩ := boxCell hv
    gi_wp2
    refine ⟨by simp, .inl ⟨_, _, rfl, run_takeDeferred hK, ?_⟩⟩
    exact ⟨_, results_tmp rfl _ _ _, v, rfl, rowAbides hown (grownBy_putObj' _ _ _) (fun r e => by cases e; exact ⟨_, hK, rfl⟩), hB.trans (belowK_b (w := w) (Nat.le_refl _) W D _ _ (by simp at hD; omega) hK rfl rfl)⟩
  case stop =>
    rintro D c pre W _ _ h _
    exact h.elim

open Go.GX

theorem intsIn_of {w : World} {s : Sl} {l : List Int} (h : R w s l) : IntsIn w.heap.size w s.v l := by
  obtain ⟨h1, h2, h3⟩ := h
  cases ha : s.a with
  | none =>
    have : l = [] := by
      cases l with
      | nil => rfl
      | cons x r => obtain ⟨a, _, e, _⟩ := h3 0 x rfl; rw [ha] at e; cases e
    subst this
    refine .inl ⟨s.cap, ?_, rfl⟩
    simp only [Sl.v, ha, h1]; rfl
  | some a =>
    have hcell : ∀ j, j < l.length → w.cell? (a.add j) = some (.int .i64 (l[j]?.getD 0)) := fun j hj => by
      obtain ⟨a', cs, e, _, hr, hcs⟩ := h3 j l[j] (List.getElem?_eq_getElem hj)
      rw [ha] at e; cases e
      have := hcs 0 (.int .i64 l[j]) (by rw [hr.1]; rfl)
      simp only [List.getElem?_eq_getElem hj, Option.getD_some]
      simpa [Rep.sz] using this
    refine .inr ⟨a, s.cap, ?_, fun h0 => ?_, hcell⟩
    · simp only [Sl.v, ha, h1]
    · have := hcell 0 h0
      exact cell_lt this

/-- slices.AppendSeq(nil, slices.Values(s)): the box of slices.Values holds s. -/
theorem appendSeq_ok {w : World} {b : Nat} {s : Sl} {l : List Int} (hc : w.cell? ⟨b, 0, none⟩ = some s.v) (h : R w s l) (hl : l.length ≤ 1048576) :
    Calls Tryz.prog F.slices_AppendSeq_sl_int_int #[.slice none 0 0, .func (.func F.slices_Values_sl_int_int_1) #[] #[.pointer (some ⟨b, 0, none⟩)]] w (Ret [.at .sl] fun (r : Sl) w' => Ext w w' ∧ OwnL w' w.heap.size T.t_int r l) := by
  refine (callsIn_wide.1 (appendSeq_in Fence.wide 3 trivial trivial rfl (Nat.le_refl _) b s.v l (by omega) w (cell_lt hc) hc (intsIn_of h))).mono ?_
  rintro e w' ⟨v, rfl, ho, hB⟩
  have hv : ∃ r : Sl, v = r.v ∧ r.len = l.length := by
    rcases ho.2 with ⟨rfl, h0⟩ | ⟨g, cap, cur, rfl, _⟩
    · exact ⟨⟨none, 0, 0⟩, rfl, h0.symm⟩
    · exact ⟨⟨some ⟨g, 0, none⟩, l.length, cap⟩, rfl, rfl⟩
  obtain ⟨r, rfl, hrl⟩ := hv
  refine show Ext w w' ∧ OwnL w' w.heap.size T.t_int r l from ⟨hB, hrl, ?_⟩
  rw [flatI]
  unfold GX.Own
  rw [hrl]
  exact ho

theorem collect_ok {w : World} {b : Nat} {s : Sl} {l : List Int} (hc : w.cell? ⟨b, 0, none⟩ = some s.v) (h : R w s l) (hl : l.length ≤ 1048576) :
    Calls Tryz.prog F.slices_Collect_int #[.func (.func F.slices_Values_sl_int_int_1) #[] #[.pointer (some ⟨b, 0, none⟩)]] w (Ret [.at .sl] fun (r : Sl) w' => Ext w w' ∧ OwnL w' w.heap.size T.t_int r l) := by
  refine C_slices_Collect_int ?_
  unfold V_slices_Collect_int
  refine call (appendSeq_ok hc h hl) ?_
  intro r w1 hr
  exact hr

/-- slices.Sorted(slices.Values(s)). -/
theorem sorted_ok {w : World} {b : Nat} {s : Sl} {l : List Int} (hc : w.cell? ⟨b, 0, none⟩ = some s.v) (h : R w s l) (hl : l.length ≤ 1048576) :
    Calls Tryz.prog F.slices_Sorted_int #[.func (.func F.slices_Values_sl_int_int_1) #[] #[.pointer (some ⟨b, 0, none⟩)]] w (Ret [.at .sl] fun (r : Sl) w' => Ext w w' ∧ OwnL w' w.heap.size T.t_int r (sortI l)) := by
  refine C_slices_Sorted_int ?_
  unfold V_slices_Sorted_int
  refine call (collect_ok hc h hl) ?_
  rintro r w1 ⟨hE, hO⟩
  refine call (sort_ok hO hl) ?_
  rintro w2 ⟨hO2, hS⟩
  exact ⟨hS.ext0 hE (fun k e => (hO.2.lt k e).1), hO2⟩

theorem values_ok {w : World} {s : Sl} {Q : Value → World → Prop}
    (h : ∀ w', Ext w w' → w'.cell? ⟨w.heap.size, 0, none⟩ = some s.v → Q (.func (.func F.slices_Values_sl_int_int_1) #[] #[.pointer (some ⟨w.heap.size, 0, none⟩)]) w') :
    Calls Tryz.prog F.slices_Values_sl_int_int #[s.v] w (Ret [.at .val] Q) := by
  refine C_slices_Values_sl_int_int ?_
  unfold V_slices_Values_sl_int_int
  have hE := ext_push w (.cells #[s.v] T.t_sl_int)
  exact h _ hE (boxCell (t := T.t_sl_int) (by simp)).1

end Go.Proofs.YtaeledhbkdakcaaGreatDoor
end

section
/- Edges: both sides' lists of them, and searching in lists of numbers, ends and edges. -/
namespace Go.Proofs.YtaeledhbkdakcaaGreatDoor
open Go.GX Go.RowKit
set_option maxRecDepth 100000

abbrev Edge := Int × Int × Int × Int

/-- The port of an edge that bears it: the lesser of its two ends. -/
def isFirst (v i : Nat) (e : Int × Int) : Bool := decide ((v : Int) < e.1) || ((v : Int) == e.1 && decide ((i : Int) ≤ e.2))

def portE (E : Ends) (v i : Nat) : List Edge := match port E v i with
  | some e => if isFirst v i e then [((v : Int), (i : Int), e.1, e.2)] else []
  | none => []
def rowE (E : Ends) (v : Nat) : Nat → List Edge
  | 0 => []
  | i + 1 => rowE E v i ++ portE E v i
def edgesTo (E : Ends) : Nat → List Edge
  | 0 => []
  | v + 1 => edgesTo E v ++ rowE E v (rowOf E v).length
def edgesOf (E : Ends) : List Edge := edgesTo E E.length

/-! ### Searching -/

def Found {α : Type} (l : List α) (p : α → Bool) (i : Int) : Prop := match l.findIdx? p with | some k => i = k | none => i = -1

theorem found_ge {α : Type} {l : List α} {p : α → Bool} {i : Int} (h : Found l p i) : decide (i ≥ 0) = l.any p := by
  unfold Found at h
  cases hf : l.findIdx? p with
  | none =>
    rw [hf] at h
    simp only at h
    subst h
    have h1 := List.findIdx?_eq_none_iff.1 hf
    have : l.any p = false := by
      rw [List.any_eq_false]; intro x hx; simp [h1 x hx]
    rw [this]; rfl
  | some k =>
    rw [hf] at h
    simp only at h
    subst h
    obtain ⟨hk, hp, _⟩ := List.findIdx?_eq_some_iff_getElem.1 hf
    have : l.any p = true := List.any_eq_true.2 ⟨l[k], List.getElem_mem hk, hp⟩
    rw [this]
    simp

theorem found_at {α : Type} {l : List α} {p : α → Bool} {i : Nat} (hi : i < l.length) (ha : ∀ x ∈ l.take i, p x = false) (ht : p l[i] = true) : Found l p i := by
  have : l.findIdx? p = some i := by
    rw [List.findIdx?_eq_some_iff_getElem]
    refine ⟨hi, ht, fun j hj => ?_⟩
    have := ha l[j] (by rw [List.mem_take_iff_getElem]; exact ⟨j, by omega, rfl⟩)
    simp [this]
  unfold Found
  rw [this]

theorem found_no {α : Type} {l : List α} {p : α → Bool} (ha : ∀ x ∈ l, p x = false) : Found l p (-1) := by
  have : l.findIdx? p = none := List.findIdx?_eq_none_iff.2 ha
  unfold Found
  rw [this]

theorem none_succ {α : Type} {l : List α} {p : α → Bool} {i : Nat} (hi : i < l.length) (ha : ∀ x ∈ l.take i, p x = false) (hf : p l[i] = false) : ∀ x ∈ l.take (i + 1), p x = false := by
  intro y hy
  rw [List.take_succ_eq_append_getElem hi] at hy
  rcases List.mem_append.1 hy with h1 | h1
  · exact ha y h1
  · rw [List.mem_singleton.1 h1]; exact hf

theorem index_ok {w : World} {s : Sl} {l : List Int} (h : R w s l) (x : Int) :
    Calls Tryz.prog F.slices_Index_sl_int_int #[s.v, .int .i64 x] w (Ret [.at (.int .i64)] fun (i : Int) w' => Found l (fun y => x == y) i ∧ w = w') := by
  refine C_slices_Index_sl_int_int ?_
  unfold V_slices_Index_sl_int_int
  rw [h.len]
  refine ⟨IN l.length fun i w' => w = w' ∧ ∀ y ∈ l.take i, (x == y) = false, MN l.length, IN_zero ⟨rfl, by simp⟩, ?_⟩
  rintro _ w1 ⟨i, rfl, hi', rfl, ha⟩
  intros
  refine cond_dec (fun hlt => ?_) (fun hge => ⟨?_, rfl⟩)
  · have hlt' : i < l.length := by omega
    refine h.ixI hlt' fun q _ hc => LD_int hc ?_
    exact cond_b (fun ht => ⟨found_at hlt' ha ht, rfl⟩) (fun hf => IN_next h.le hlt' ⟨rfl, none_succ hlt' ha hf⟩)
  · have : i = l.length := by omega
    subst this
    exact found_no (by simpa using ha)

theorem contains_ok {w : World} {s : Sl} {l : List Int} (h : R w s l) (x : Int) :
    Calls Tryz.prog F.slices_Contains_sl_int_int #[s.v, .int .i64 x] w (Ret [.at .bool] fun (b : Bool) w' => b = l.contains x ∧ w = w') := by
  refine C_slices_Contains_sl_int_int ?_
  unfold V_slices_Contains_sl_int_int
  refine call (index_ok h x) ?_
  rintro i _ ⟨hi, rfl⟩
  refine ⟨?_, rfl⟩
  rw [found_ge hi, ← List.any_beq]

end Go.Proofs.YtaeledhbkdakcaaGreatDoor
end

section
/- Proper colourings: both sides' tests. -/
namespace Go.Proofs.YtaeledhbkdakcaaGreatDoor
open Go.GX Go.RowKit
set_option maxRecDepth 100000

/-- Two nodes with an edge between them, the lesser first, that bear the same. -/
def Clash (E : Ends) (l : List Int) : Prop := ∃ v u : Nat, v ≤ u ∧ v < E.length ∧ u < E.length ∧ (u : Int) ∈ adjOf E v ∧ l.getD v 0 = l.getD u 0

def Proper (n : Net) (l : List Int) : Prop := l.length = n.ends.length ∧ AllIn l 0 1000000000000 ∧ ¬ Clash n.ends l

end Go.Proofs.YtaeledhbkdakcaaGreatDoor
end

section
/- Matchings: both sides' tests, and the law IsMatching. -/
namespace Go.Proofs.YtaeledhbkdakcaaGreatDoor
open Go.GX Go.RowKit
set_option maxRecDepth 100000

/-- Node v and its mate agree. -/
def MAt (E : Ends) (m : List Int) (v : Nat) : Prop :=
  ∀ x, m[v]? = some x → x = -1 ∨ ∃ e, portZ E v x = some e ∧ e.1 ≠ v ∧ ∃ u : Nat, e.1 = u ∧ m[u]? = some e.2

def MatchOk (E : Ends) (m : List Int) : Prop := m.length = E.length ∧ ∀ v < m.length, MAt E m v

end Go.Proofs.YtaeledhbkdakcaaGreatDoor
end

section
/- Sets of nodes and matchings: both sides' tests of independence, covers, maximality; sizes of matchings. -/
namespace Go.Proofs.YtaeledhbkdakcaaGreatDoor
open Go.GX Go.RowKit
set_option maxRecDepth 100000

structure SetOk (n : Net) (l : List Int) : Prop where
  good : Good n
  rising : Rising l 0 (n.ends.length - 1)

theorem SetOk.node {n : Net} {l : List Int} (h : SetOk n l) : ∀ x ∈ l, ∃ u : Nat, x = u ∧ u < n.ends.length := by
  intro x hx
  have := h.rising.1 x hx
  exact ⟨x.toNat, by omega, by omega⟩

/-! ### Independent sets -/

/-- No neighbour of v lies in the set. -/
def Apart (E : Ends) (l : List Int) (v : Nat) : Prop := ∀ x ∈ adjOf E v, x ∉ l

/-! ### Covers -/

end Go.Proofs.YtaeledhbkdakcaaGreatDoor
end

section
/- Maximal matchings and maximal independent sets; sizes of matchings. -/
namespace Go.Proofs.YtaeledhbkdakcaaGreatDoor
open Go.GX Go.RowKit
set_option maxRecDepth 100000

/-! ### Matchings that are asked rightly, and their size -/

structure MatchAsked (n : Net) (m : List Int) : Prop where
  good : Good n
  is : MatchOk n.ends m

/-- An answer that is a number, and whether it was asked rightly. -/
def AnsI (g : Prop) (k : Int) (x : Int) (ok : Bool) : Prop := (ok = true ↔ g) ∧ (g → x = k) ∧ (¬ g → x = 0)

theorem AnsI.eq {g : Prop} {k x x' : Int} {ok ok' : Bool} (h : AnsI g k x ok) (h' : AnsI g k x' ok') : x = x' ∧ ok = ok' := by
  refine ⟨?_, Bool.eq_iff_iff.2 (h.1.trans h'.1.symm)⟩
  by_cases hg : g
  · rw [h.2.1 hg, h'.2.1 hg]
  · rw [h.2.2 hg, h'.2.2 hg]

theorem AnsI.no {g : Prop} {k : Int} (h : ¬ g) : AnsI g k 0 false := ⟨by simp [h], fun h1 => absurd h1 h, fun _ => rfl⟩
theorem AnsI.mk {g : Prop} {k x : Int} (h : g) (hx : x = k) : AnsI g k x true := ⟨by simp [h], fun _ => hx, fun h1 => absurd h h1⟩

/-! ### Maximal matchings -/

/-- An edge that could be added: two nodes, both free. -/
def FreeEdge (l : List Int) (q : Edge) : Prop := q.1 ≠ q.2.2.1 ∧ l.getD q.1.toNat 0 < 0 ∧ l.getD q.2.2.1.toNat 0 < 0
instance (l : List Int) (q : Edge) : Decidable (FreeEdge l q) := by unfold FreeEdge; exact inferInstance
def Maximal (n : Net) (l : List Int) : Prop := ∀ q ∈ edgesOf n.ends, ¬ FreeEdge l q

/-! ### Maximal independent sets -/

end Go.Proofs.YtaeledhbkdakcaaGreatDoor
end

section
/- Slices that may be written, whatever they hold: the marks that a law leaves in its arguments and answers. No program is named here. -/
namespace Go.GX
open Go.RowKit

/-- Each cell of the slice may be written. -/
def Wr (w : World) (s : Sl) (sz : Nat) : Prop := ∀ j, j < s.len * sz → ∃ a, s.a = some a ∧ (∃ old, w.cell? (a.add j) = some old) ∧ w.frozen? (a.add j) = false

/-- No cell goes, none is frozen. -/
def Shp (w w' : World) : Prop := (∀ a old, w.cell? a = some old → ∃ new, w'.cell? a = some new) ∧ ∀ a, w.frozen? a = false → (∃ old, w.cell? a = some old) → w'.frozen? a = false

theorem Shp.refl (w : World) : Shp w w := ⟨fun _ old h => ⟨old, h⟩, fun _ h _ => h⟩
theorem Shp.trans {a b c : World} (h : Shp a b) (k : Shp b c) : Shp a c :=
  ⟨fun p old hp => by obtain ⟨n, hn⟩ := h.1 p old hp; exact k.1 p n hn, fun p hf ⟨old, hp⟩ => k.2 p (h.2 p hf ⟨old, hp⟩) (h.1 p old hp)⟩
theorem Shp.setCell (w : World) (p : Addr) (v : Value) : Shp w (w.setCell p v) :=
  ⟨fun a old h => by
    by_cases hp : p = a
    · subst hp; exact ⟨v, World.cell?_setCell_same w p v h⟩
    · exact ⟨old, by rw [World.cell?_setCell_other w p a v hp]; exact h⟩, fun a h _ => by rw [World.frozen?_setCell]; exact h⟩
theorem Shp.ext {w w' : World} (h : Ext w w') : Shp w w' :=
  ⟨fun a old ho => ⟨old, h.cell ho⟩, fun a hf ⟨old, ho⟩ => by
    have hb : w'.heap[a.block]? = w.heap[a.block]? := h.same (cell_lt ho)
    unfold World.frozen? at hf ⊢
    rw [hb]; exact hf⟩

theorem Wr.shp {w w' : World} {s : Sl} {sz : Nat} (h : Wr w s sz) (hs : Shp w w') : Wr w' s sz := fun j hj => by
  obtain ⟨a, ha, ⟨old, hc⟩, hf⟩ := h j hj
  exact ⟨a, ha, hs.1 _ _ hc, hs.2 _ hf ⟨old, hc⟩⟩

theorem OwnL.wr {α : Type} [Flat α] {w : World} {base : Nat} {e : TypeId} {s : Sl} {l : List α} (h : OwnL w base e s l) : Wr w s (Rep.sz α) := fun j hj => by
  rcases h.2.2 with ⟨hv, h0⟩ | ⟨g, cap, cur, hv, hb, hg, hle, _, hsz, htake⟩
  · rw [h0] at hj; simp at hj
  · simp [Sl.v] at hv
    obtain ⟨ha, rfl⟩ := hv
    have hlen := h.2.length
    have hlt : j < (l.flatMap Flat.cells).length := by rw [hlen]; exact hj
    have hown : w.ownsRow base e (Rep.sz α) s.v s.len (l.flatMap Flat.cells) := h.2
    refine ⟨_, ha, ⟨_, World.ownsRow.cells hown (g := g) (by simp [Sl.v, ha, Value.ownBlock]) j _ (List.getElem?_eq_getElem hlt)⟩, ?_⟩
    simp [World.frozen?, add_block, hg]

/-- The block of a slice. -/
def blkOf (s : Sl) (b : Nat) : Prop := ∃ a, s.a = some a ∧ a.block = b

/-- Numbers in a row. -/
def marks (k : Int) (n : Nat) : List Int := (List.range n).map fun (i : Nat) => k + (i : Int)

theorem marks_length (k : Int) (n : Nat) : (marks k n).length = n := by simp [marks]
theorem marks_get (k : Int) (n i : Nat) (h : i < (marks k n).length) : (marks k n)[i] = k + i := by simp [marks]
theorem marks_I64 {k : Int} {n : Nat} (h0 : 0 ≤ k) (h1 : k + n ≤ 9223372036854775807) : ∀ x ∈ marks k n, I64 x := fun x hx => by
  simp [marks] at hx
  obtain ⟨i, hi, rfl⟩ := hx
  unfold I64; omega

theorem marks_step {k : Int} {l : List Int} {i : Nat} (hi : i < l.length) : (marks k i ++ l.drop i).set i (k + i) = marks k (i + 1) ++ l.drop (i + 1) := by
  have h1 : (marks k i).length = i := marks_length _ _
  rw [List.set_append_right _ _ (by omega), h1, Nat.sub_self, List.drop_eq_getElem_cons hi, List.set_cons_zero]
  simp [marks, List.range_succ]

theorem Chg.extR {w0 w w' : World} {lo hi : Nat} (h : Chg w w' (fun b => lo ≤ b ∧ b < hi)) (hE : Ext w0 w) (hl : w0.heap.size ≤ lo) : Ext w0 w' := h.ext0 hE fun k hk => by have := hk.1; omega
/-! ### Lists that are filled from the front -/

/-! ### Boxes and lists of the call's own, apart by their types -/

def oB (s : Sl) (b : Nat) : Prop := s.v.ownBlock = some b

theorem Box.notOwn {w : World} {p : Addr} {t : TypeId} {cs : List Value} {α : Type} [Flat α] {base : Nat} {e : TypeId} {s : Sl} {l : List α} (h : Box w p t cs) (hO : OwnL w base e s l) (hne : t ≠ e) : ¬ oB s p.block := fun he => by
  obtain ⟨c1, e1⟩ := hO.type he
  rw [h.2.2] at e1
  exact hne (Obj.cells.inj (Option.some.inj e1)).2.1

theorem Box.stepT {w w' : World} {p : Addr} {t : TypeId} {cs : List Value} {α : Type} [Flat α] {base : Nat} {e : TypeId} {s : Sl} {l : List α} (h : Box w p t cs) (hO : OwnL w base e s l) (hne : t ≠ e) (hs : Step w w' s.v.ownBlock) : Box w' p t cs :=
  h.of_block (hs.block _ h.lt fun he => h.notOwn hO hne he.symm)

theorem OwnL.stepB {w w' : World} {p : Addr} {t : TypeId} {cs : List Value} {α : Type} [Flat α] {base : Nat} {e : TypeId} {s : Sl} {l : List α} (hO : OwnL w base e s l) (h : Box w p t cs) (hne : t ≠ e) (hs : Step w w' (some p.block)) : OwnL w' base e s l :=
  hO.keep fun k hk => hs.block k (hO.blk k hk).2 fun he => h.notOwn hO hne (by cases he; exact hk)

theorem SlR.stepD {α : Type} [RepP α] {D : Nat → Prop} {w w' : World} {s : Sl} {l : List α} {g : Option Nat} (h : SlR D w s l) (hs : Step w w' g) (hD : ∀ b, D b → g ≠ some b) : SlR D w' s l :=
  (h.below.agr fun b hb => hs.block b hb.2 fun he => hD b hb.1 he.symm).weak (fun _ hb _ => hb.1) RepP.pos

/-! ### Answers that hold only where something holds -/

structure AnsG {α : Type} (g : Prop) (x d y : α) (ok : Bool) : Prop where
  ok : ok = true ↔ g
  val : g → y = x
  non : ¬ g → y = d

theorem AnsG.yes {α : Type} {g : Prop} {x d : α} (h : g) : AnsG g x d x true := ⟨by simp [h], fun _ => rfl, fun hn => absurd h hn⟩
theorem AnsG.no {α : Type} {g : Prop} {x d : α} (h : ¬ g) : AnsG g x d d false := ⟨by simp [h], fun hg => absurd hg h, fun _ => rfl⟩
theorem AnsG.eq {α : Type} {g : Prop} {x d y y' : α} {ok ok' : Bool} (h : AnsG g x d y ok) (h' : AnsG g x d y' ok') : y = y' ∧ ok = ok' := by
  constructor
  · by_cases hg : g
    · rw [h.val hg, h'.val hg]
    · rw [h.non hg, h'.non hg]
  · rw [Bool.eq_iff_iff, h.ok, h'.ok]

end Go.GX
end

section
/- The laws' marks: what they write into copies and answers, and what they look for again. -/
namespace Go.Proofs.YtaeledhbkdakcaaGreatDoor
open Go.GX Go.RowKit
set_option maxRecDepth 100000

theorem markIntS_ok {w : World} {base : Nat} {s : Sl} {l : List Int} (h : OwnL w base T.t_int s l) (k : Int) (h0 : 0 ≤ k) (h1 : k ≤ 1152921504606846976) (hl : l.length ≤ 1048576) :
    Calls Tryz.prog F.l_markIntS #[s.v, .int .i64 k] w (Ret [.at (.int .i64)] fun (r : Int) w' => r = k + l.length ∧ OwnL w' base T.t_int s (marks k l.length) ∧ Step w w' s.v.ownBlock) := by
  refine C_l_markIntS ?_
  unfold V_l_markIntS
  rw [h.1]
  refine ⟨IN2 l.length fun i r w' => r = k + i ∧ OwnL w' base T.t_int s (marks k i ++ l.drop i) ∧ Step w w' s.v.ownBlock, MN2 l.length, IN2_zero ⟨by simp, by simpa [marks] using h, Step.refl _ _⟩, ?_⟩
  rintro _ _ w1 ⟨i, rfl, hi, rfl, hO, hs⟩
  intros
  refine cond_dec (fun hlt => ?_) (fun hge => ?_)
  · have hi' : i < l.length := by omega
    have hml : (marks k i ++ l.drop i).length = l.length := by rw [List.length_append, marks_length, List.length_drop]; omega
    refine IX_own hO (by rw [hml]; exact hi') rfl fun p hp => ?_
    refine ST_own hO (by rw [hml]; exact hi') hp (k + i) rfl fun w2 hO2 hs2 => ?_
    rw [marks_step hi'] at hO2
    rw [wrap_of (n := k + i + 1) (by omega) (by omega)]
    exact IN2_next (by omega) hi' ⟨by omega, hO2, hs.trans hs2⟩
  · have : i = l.length := by omega
    subst this
    exact ⟨rfl, by simpa using hO, hs⟩

theorem heldIntS_ok {w : World} {s : Sl} {n : Nat} (k : Int) (h : R w s (marks k n)) (h0 : 0 ≤ k) (h1 : k ≤ 1152921504606846976) (hl : n ≤ 1048576) :
    Calls Tryz.prog F.l_heldIntS #[s.v, .int .i64 k] w (Ret [.at (.int .i64)] fun (r : Int) w' => r = k + n ∧ w = w') := by
  refine C_l_heldIntS ?_
  unfold V_l_heldIntS
  rw [h.len, marks_length]
  refine ⟨IN2 n fun i r w' => r = k + i ∧ w = w', MN2 n, IN2_zero ⟨by simp, rfl⟩, ?_⟩
  rintro _ _ w1 ⟨i, rfl, hi, rfl, rfl⟩
  intros
  refine cond_dec (fun hlt => ?_) (fun hge => ?_)
  · have hi' : i < (marks k n).length := by rw [marks_length]; omega
    refine h.ixI hi' fun p _ hc => LD_int hc ?_
    rw [marks_get]
    refine cond_ne (fun hne => absurd rfl hne) (fun _ => ?_)
    rw [wrap_of (n := k + i + 1) (by omega) (by omega)]
    exact IN2_next (by omega) (by omega) ⟨by omega, rfl⟩
  · have : i = n := by omega
    subst this
    exact ⟨rfl, rfl⟩

/-- A slice of numbers that may be marked: its blocks lie between two bounds. -/
structure MInt (w : World) (s : Sl) (lo hi : Nat) : Prop where
  wr : Wr w s 1
  len : s.len ≤ 1048576
  blk : ∀ b, blkOf s b → lo ≤ b ∧ b < hi

theorem MInt.shp {w w' : World} {s : Sl} {lo hi : Nat} (h : MInt w s lo hi) (hs : Shp w w') : MInt w' s lo hi := ⟨h.wr.shp hs, h.len, h.blk⟩
theorem MInt.ext {w w' : World} {s : Sl} {lo hi : Nat} (h : MInt w s lo hi) (hE : Ext w w') : MInt w' s lo hi := h.shp (Shp.ext hE)

/-- A slice of slices of numbers that may be marked. -/
structure MIntSS (w : World) (s : Sl) (lo hi : Nat) : Prop where
  ex : ∃ ss : List Sl, OwnL w lo T.t_sl_int s ss ∧ ss.length ≤ 1048576 ∧ ∀ r ∈ ss, MInt w r lo hi ∧ ∀ b, blkOf r b → s.v.ownBlock ≠ some b


/-! ### Answers that are lists -/

/-- An answer of the call's own: its blocks lie from base on. -/
structure OutL (base : Nat) (w : World) (s : Sl) (l : List Int) : Prop where
  own : OwnL w base T.t_int s l
  i64 : ∀ x ∈ l, I64 x
  small : l.length ≤ 1048576

theorem OutL.rep {base : Nat} {w : World} {s : Sl} {l : List Int} (h : OutL base w s l) : R w s l := (h.own.rep h.i64).any
theorem OutL.ext {base : Nat} {w w' : World} {s : Sl} {l : List Int} (h : OutL base w s l) (hE : Ext w w') : OutL base w' s l := ⟨h.own.ext hE, h.i64, h.small⟩
theorem OutL.nil (base : Nat) (w : World) : OutL base w ⟨none, 0, 0⟩ [] := ⟨OwnL.nil _ _ _, by simp, by simp⟩
theorem OutL.low {base b : Nat} {w : World} {s : Sl} {l : List Int} (h : OutL base w s l) (hb : b ≤ base) : OutL b w s l := ⟨h.own.low hb, h.i64, h.small⟩

end Go.Proofs.YtaeledhbkdakcaaGreatDoor
end

section
/- Orders of nodes; sets that are kept in order; GreedyIndependent, both sides. -/
namespace Go.Proofs.YtaeledhbkdakcaaGreatDoor
open Go.GX Go.RowKit
set_option maxRecDepth 100000

theorem slt_bool : SlT Tryz.prog T.t_sl_bool T.t_bool 1 1 (.bool false) := ⟨by kernel_rfl, by kernel_rfl, rfl, by decide⟩

structure PermOk (l : List Int) (k : Nat) : Prop where
  len : l.length = k
  all : AllIn l 0 (k - 1)
  nodup : l.Nodup

theorem PermOk.node {l : List Int} {k : Nat} (h : PermOk l k) : ∀ x ∈ l, ∃ u : Nat, x = u ∧ u < k := fun x hx => by
  have := h.all x hx
  exact ⟨x.toNat, by omega, by omega⟩

/-! ### Lists in order -/

theorem sorted_ext : ∀ {a b : List Int}, a.Pairwise (· < ·) → b.Pairwise (· < ·) → (∀ x, x ∈ a ↔ x ∈ b) → a = b
  | [], [], _, _, _ => rfl
  | [], y :: b, _, _, h => by have := (h y).2 (by simp); cases this
  | x :: a, [], _, _, h => by have := (h x).1 (by simp); cases this
  | x :: a, y :: b, ha, hb, h => by
    obtain ⟨ha1, ha2⟩ := List.pairwise_cons.1 ha
    obtain ⟨hb1, hb2⟩ := List.pairwise_cons.1 hb
    have hxy : x = y := by
      have h1 := (h x).1 (by simp)
      have h2 := (h y).2 (by simp)
      rcases List.mem_cons.1 h1 with h3 | h3
      · exact h3
      · rcases List.mem_cons.1 h2 with h4 | h4
        · exact h4.symm
        · have := hb1 x h3; have := ha1 y h4; omega
    subst hxy
    rw [sorted_ext ha2 hb2 fun z => ?_]
    constructor
    · intro hz
      rcases List.mem_cons.1 ((h z).1 (by simp [hz])) with h3 | h3
      · have := ha1 z hz; omega
      · exact h3
    · intro hz
      rcases List.mem_cons.1 ((h z).2 (by simp [hz])) with h3 | h3
      · have := hb1 z hz; omega
      · exact h3

/-- A slice's last elements. -/
theorem slr_drop {α : Type} [RepP α] {D : Nat → Prop} {w : World} {s : Sl} {l : List α} (h : SlR D w s l) {i : Nat} (hi : i ≤ l.length) {sz : Nat} (hsz : sz = Rep.sz α) {K : Sl → Prop} (hk : ∀ s', SlR D w s' (l.drop i) → K s') : SLC s (some (i : Int)) none sz K := by
  subst hsz
  have h1 := h.1
  have h2 := h.2.1
  refine SLC_from' h2.1 (by omega) fun d hd hc ha => hk d ⟨by simp; omega, by omega, fun j x hx => ?_⟩
  rw [List.getElem?_drop] at hx
  have hlt := (List.getElem?_eq_some_iff.1 hx).1
  obtain ⟨a, cs, e1, e2, e3, e4⟩ := h.2.2 (i + j) x hx
  refine ⟨a.add (i * Rep.sz α), cs, by rw [ha (by omega), e1]; rfl, by rw [add_block]; exact e2, e3, fun t v ht => ?_⟩
  rw [add_add, show i * Rep.sz α + (j * Rep.sz α + t) = (i + j) * Rep.sz α + t by rw [Nat.add_mul]; omega]
  exact e4 t v ht

theorem l1Put_D {D : Nat → Prop} {w : World} {s : Sl} {l : List Int} (h : SlR D w s l) (hl : l.length ≤ 100000) (hsorted : l.Pairwise (· < ·)) {n : Int} (hn : I64 n) :
    Calls Tryz.prog F.s_l1Put #[s.v, .int .i64 n] w (Ret [.at .sl] fun (r : Sl) w' => Ext w w' ∧ ∃ m, SlR (fun b => D b ∨ w.heap.size ≤ b) w' r m ∧ m.Pairwise (· < ·) ∧ (∀ x, x ∈ m ↔ x ∈ l ∨ x = n) ∧ m.length ≤ l.length + 1) := by
  refine C_s_l1Put ?_
  unfold V_s_l1Put
  rw [h.len]
  have hfin : ∀ k : Nat, k ≤ l.length → (∀ x ∈ l.take k, x < n) → (∀ x ∈ l.drop k, n ≤ x) → V_s_l1Put_k1 s n (fun (r : Sl) w' => Ext w w' ∧ ∃ m, SlR (fun b => D b ∨ w.heap.size ≤ b) w' r m ∧ m.Pairwise (· < ·) ∧ (∀ x, x ∈ m ↔ x ∈ l ∨ x = n) ∧ m.length ≤ l.length + 1) (k : Int) w := by
    intro k hk hlo hhi
    unfold V_s_l1Put_k1
    have hput : n ∉ l → V_s_l1Put_k4 s n (fun (r : Sl) w' => Ext w w' ∧ ∃ m, SlR (fun b => D b ∨ w.heap.size ≤ b) w' r m ∧ m.Pairwise (· < ·) ∧ (∀ x, x ∈ m ↔ x ∈ l ∨ x = n) ∧ m.length ≤ l.length + 1) (k : Int) w := by
      intro hnl
      unfold V_s_l1Put_k4
      refine RUN_lit0 (α := Int) slt_int fun r1 w1 hE1 hO1 => ?_
      have h1 := h.ext hE1
      refine h1.take hk rfl fun s1 hs1 => ?_
      have htl : (l.take k).length ≤ 100000 := by simp; omega
      have hdl : (l.drop k).length ≤ 100000 := by simp; omega
      refine RUN_append (α := Int) slt_int hO1 hE1.size_le hs1 (by simp; omega) (by simp [maxLen]; omega) fun r2 w2 hO2 hs2 => ?_
      have hE2 := hs2.ext0 hE1 (fun k hk => (hO1.blk k hk).1)
      refine RUN_lit1 (α := Int) slt_int n rfl (by decide) fun r3 w3 hE3 hO3 => ?_
      have hO2' := hO2.ext hE3
      refine RUN_append (α := Int) slt_int hO2' (hE2.trans hE3).size_le (hO3.rep (by intro z hz; simp at hz; subst hz; exact hn)).any (by simp; omega) (by simp [maxLen]; omega) fun r4 w4 hO4 hs4 => ?_
      have hE4 := hs4.ext0 (hE2.trans hE3) (fun k hk => (hO2'.blk k hk).1)
      refine slr_drop (h.ext hE4) hk rfl fun s5 hs5 => ?_
      refine RUN_append (α := Int) slt_int hO4 hE4.size_le hs5 (by simp; omega) (by simp [maxLen]; omega) fun r6 w6 hO6 hs6 => ?_
      have hE6 := hs6.ext0 hE4 (fun k hk => (hO4.blk k hk).1)
      refine ⟨hE6, _, (hO6.rep ?_).weak (fun b hb _ => .inr hb) RepP.pos, ?_, ?_, ?_⟩
      · intro x hx
        simp only [List.mem_append, List.mem_singleton, List.not_mem_nil, false_or] at hx
        rcases hx with (h7 | h7) | h7
        · exact flat_ok h.any x (List.mem_of_mem_take h7)
        · rw [h7]; exact hn
        · exact flat_ok h.any x (List.mem_of_mem_drop h7)
      · have hp := hsorted
        rw [← List.take_append_drop k l, List.pairwise_append] at hp
        simp only [List.nil_append, List.append_assoc]
        rw [List.pairwise_append]
        refine ⟨hp.1, ?_, ?_⟩
        · simp only [List.singleton_append, List.pairwise_cons]
          refine ⟨fun x hx => ?_, hp.2.1⟩
          have h8 := hhi x hx
          have : x ≠ n := fun he => hnl (he ▸ List.mem_of_mem_drop hx)
          omega
        · intro x hx y hy
          simp only [List.singleton_append, List.mem_cons] at hy
          rcases hy with rfl | hy
          · exact hlo x hx
          · exact hp.2.2 x hx y hy
      · intro x
        simp only [List.mem_append, List.mem_singleton, List.not_mem_nil, false_or]
        constructor
        · rintro ((h7 | h7) | h7)
          · exact .inl (List.mem_of_mem_take h7)
          · exact .inr h7
          · exact .inl (List.mem_of_mem_drop h7)
        · rintro (h7 | h7)
          · rw [← List.take_append_drop k l] at h7
            rcases List.mem_append.1 h7 with h8 | h8
            · exact .inl (.inl h8)
            · exact .inr h8
          · exact .inl (.inr h7)
      · simp; omega
    rw [h.len]
    refine cond_dec (fun hlt => ?_) (fun hge => ?_)
    · have hk' : k < l.length := by omega
      refine h.ixI hk' fun q _ hc => LD_int hc ?_
      refine cond_eq (fun he => ?_) (fun hne => hput fun hm => ?_)
      · refine ⟨Ext.refl _, l, h.weak (fun b hb _ => .inl hb) RepP.pos, hsorted, fun x => ⟨.inl, ?_⟩, by omega⟩
        rintro (h7 | h7)
        · exact h7
        · rw [h7, ← he]; exact List.getElem_mem hk'
      · rw [← List.take_append_drop k l] at hm
        rcases List.mem_append.1 hm with h7 | h7
        · have := hlo n h7; omega
        · rw [List.drop_eq_getElem_cons hk'] at h7
          rcases List.mem_cons.1 h7 with h8 | h8
          · exact hne h8.symm
          · have hp := hsorted
            rw [← List.take_append_drop k l, List.pairwise_append] at hp
            have := hp.2.1
            rw [List.drop_eq_getElem_cons hk', List.pairwise_cons] at this
            have h9 := this.1 n h8
            have h10 := hhi l[k] ((List.drop_eq_getElem_cons hk').symm ▸ List.mem_cons_self)
            omega
    · refine hput fun hm => ?_
      have : k = l.length := by omega
      subst this
      have := hlo n (by simpa using hm)
      omega
  refine ⟨IN l.length fun k w' => w = w' ∧ ∀ x ∈ l.take k, x < n, MN l.length, IN_zero ⟨rfl, by simp⟩, ?_⟩
  rintro _ w1 ⟨k, rfl, hk, rfl, hlo⟩
  intros
  refine cond_dec (fun hlt => ?_) (fun hge => ?_)
  · have hk' : k < l.length := by omega
    refine h.ixI hk' fun q _ hc => LD_int hc ?_
    refine cond_dec (fun h1 => IN_next h.le hk' ⟨rfl, fun x hx => ?_⟩) (fun h1 => hfin k hk hlo fun x hx => ?_)
    · rw [List.take_succ_eq_append_getElem hk'] at hx
      rcases List.mem_append.1 hx with h2 | h2
      · exact hlo x h2
      · rw [List.mem_singleton.1 h2]; exact h1
    · rw [List.drop_eq_getElem_cons hk'] at hx
      have hp := hsorted
      rw [← List.take_append_drop k l, List.pairwise_append] at hp
      have := hp.2.1
      rw [List.drop_eq_getElem_cons hk', List.pairwise_cons] at this
      rcases List.mem_cons.1 hx with rfl | h2
      · omega
      · have := this.1 x h2; omega
  · have : k = l.length := by omega
    subst this
    exact hfin _ (Nat.le_refl _) hlo (by simp)

/-! ### The greedy set -/

instance (E : Ends) (l : List Int) (v : Nat) : Decidable (Apart E l v) := by unfold Apart; exact inferInstance

/-- May a node join? -/
def joins (E : Ends) (S : List Int) (v : Int) : Prop := (adjOf E v.toNat).contains v = false ∧ Apart E S v.toNat
instance (E : Ends) (S : List Int) (v : Int) : Decidable (joins E S v) := by unfold joins; exact inferInstance
structure OrderAsked (n : Net) (l : List Int) : Prop where
  good : Good n
  perm : PermOk l n.ends.length

theorem sortI_I64 {l : List Int} (h : ∀ x ∈ l, I64 x) : ∀ x ∈ sortI l, I64 x := fun x hx => h x ((sortI_perm l).mem_iff.1 hx)
theorem sortI_len (l : List Int) : (sortI l).length = l.length := (sortI_perm l).length_eq

end Go.Proofs.YtaeledhbkdakcaaGreatDoor
end

section
/- Lists of lists of the call's own whose rows lie apart: rows that are written, that grow, that are added. No program is named here. -/
namespace Go.GX
open Go.RowKit

/-- The slice s of the call's own holds the rows ss, which read as the lists L and lie in blocks of their own. -/
structure RowsD {α : Type} [Flat α] (w : World) (base : Nat) (e e' : TypeId) (s : Sl) (L : List (List α)) (ss : List Sl) : Prop where
  own : OwnL w base e' s ss
  len : ss.length = L.length
  row : ∀ (i : Nat) (r : Sl) (l : List α), ss[i]? = some r → L[i]? = some l → OwnL w base e r l
  apart : ∀ (i j : Nat) (r q : Sl), ss[i]? = some r → ss[j]? = some q → i ≠ j → ∀ k, r.v.ownBlock = some k → q.v.ownBlock ≠ some k

section
variable {α : Type} [Flat α] {w w' : World} {base : Nat} {e e' : TypeId} {s : Sl} {L : List (List α)} {ss : List Sl}

theorem RowsD.own2 (h : RowsD w base e e' s L ss) : Own2 w base e e' s L := ⟨ss, h.own, h.len, h.row⟩
theorem RowsD.rep (h : RowsD w base e e' s L ss) (hok : ∀ l ∈ L, ∀ x ∈ l, Flat.ok x) : R w s L := h.own2.rep hok
theorem RowsD.nil (w : World) (base : Nat) (e e' : TypeId) : RowsD w base e e' ⟨none, 0, 0⟩ ([] : List (List α)) [] := ⟨OwnL.nil _ _ _, rfl, fun i r l h => by simp at h, fun i j r q h => by simp at h⟩
theorem RowsD.keep (h : RowsD w base e e' s L ss) (hk : ∀ k, base ≤ k → k < w.heap.size → w'.heap[k]? = w.heap[k]?) : RowsD w' base e e' s L ss :=
  ⟨h.own.keep fun k hb => hk k (h.own.blk k hb).1 (h.own.blk k hb).2, h.len, fun i r l hr hl => (h.row i r l hr hl).keep fun k hb => hk k ((h.row i r l hr hl).blk k hb).1 ((h.row i r l hr hl).blk k hb).2, h.apart⟩
theorem RowsD.ext (h : RowsD w base e e' s L ss) (hE : Ext w w') : RowsD w' base e e' s L ss := h.keep fun _ _ hk => hE.same hk
theorem RowsD.low (h : RowsD w base e e' s L ss) {b : Nat} (hb : b ≤ base) : RowsD w b e e' s L ss := ⟨h.own.low hb, h.len, fun i r l hr hl => (h.row i r l hr hl).low hb, h.apart⟩

theorem RowsD.at (h : RowsD w base e e' s L ss) {i : Nat} (hi : i < L.length) : ∃ r, ss[i]? = some r ∧ OwnL w base e r L[i] := by
  have h1 : i < ss.length := by rw [h.len]; exact hi
  exact ⟨ss[i], by simp [h1], h.row i ss[i] L[i] (by simp [h1]) (by simp [hi])⟩

/-- Looking up a row. -/
theorem RowsD.ix (h : RowsD w base e e' s L ss) {i : Nat} (hi : i < L.length) {K : Addr → Prop} (hk : ∀ p r, ss[i]? = some r → OwnL w base e r L[i] → w.cell? p = some r.v → s.v.ownBlock = some p.block → K p) : IX s i 1 K := by
  obtain ⟨r, hr, hO⟩ := h.at hi
  obtain ⟨a, cs, ha, _, hrep, hc⟩ := (h.own.rep fun _ _ => trivial).2.2 i r hr
  have hcs : cs = [r.v] := hrep
  subst hcs
  have hlen := h.own.1
  have hl2 := h.len
  refine ⟨a, ha, by omega, by omega, hk _ r hr hO (hc 0 _ rfl) ?_⟩
  have hsv : s.v = .slice (some a) s.len s.cap := by simp [Sl.v, ha]
  rw [hsv, add_block]
  rcases h.own.2.2 with ⟨hv, h0⟩ | ⟨g, cap, cur, hv, _⟩
  · omega
  · rw [hsv] at hv
    obtain ⟨h1, _⟩ := Value.slice.inj hv
    cases h1
    rfl

theorem RowsD.block_ne (h : RowsD w base e e' s L ss) (hne : e ≠ e') {i : Nat} {r : Sl} (hr : ss[i]? = some r) {k : Nat} (hk : r.v.ownBlock = some k) : s.v.ownBlock ≠ some k := fun he => by
  have hi : i < L.length := by rw [← h.len]; exact (List.getElem?_eq_some_iff.1 hr).1
  obtain ⟨c1, e1⟩ := (h.row i r L[i] hr (by simp [hi])).type hk
  obtain ⟨c2, e2⟩ := h.own.type he
  rw [e1] at e2
  exact hne (Obj.cells.inj (Option.some.inj e2)).2.1

/-- A row that is written in place. -/
theorem RowsD.chg (h : RowsD w base e e' s L ss) (hne : e ≠ e') {i : Nat} {r : Sl} (hr : ss[i]? = some r) {l' : List α} (hO : OwnL w' base e r l') (hs : Step w w' r.v.ownBlock) : RowsD w' base e e' s (L.set i l') ss := by
  have hi : i < L.length := by rw [← h.len]; exact (List.getElem?_eq_some_iff.1 hr).1
  refine ⟨h.own.keep fun k hk => hs.block k (h.own.blk k hk).2 fun he => h.block_ne hne hr he.symm hk, by simp [h.len], fun j q l hq hl => ?_, h.apart⟩
  by_cases hji : j = i
  · subst hji
    rw [List.getElem?_set_self hi] at hl
    rw [hr] at hq
    cases hl; cases hq
    exact hO
  · rw [List.getElem?_set_ne (Ne.symm hji)] at hl
    have hq' := h.row j q l hq hl
    exact hq'.keep fun k hk => hs.block k (hq'.blk k hk).2 fun he => h.apart i j r q hr hq (Ne.symm hji) k he.symm hk

/-- A row that is replaced: what it became lies in its block or in a new one. -/
theorem RowsD.put (h : RowsD w base e e' s L ss) (hne : e ≠ e') {i : Nat} (hi : i < L.length) {r r' : Sl} (hr : ss[i]? = some r) {w1 : World} {l' : List α} (hO : OwnL w1 base e r' l') (hs : Step w w1 r.v.ownBlock) (hn : NewOr w r r') {p : Addr} (hp : Plc s i 1 p) {K : World → Prop}
    (hk : ∀ w2, RowsD w2 base e e' s (L.set i l') (ss.set i r') → Step w1 w2 s.v.ownBlock → K w2) : ST p 0 [r'.v] w1 K := by
  have hi' : i < ss.length := by rw [h.len]; exact hi
  have hown : OwnL w1 base e' s ss := h.own.keep fun k hk => hs.block k (h.own.blk k hk).2 fun he => h.block_ne hne hr he.symm hk
  have hlt : ∀ (j : Nat) (q : Sl), ss[j]? = some q → ∀ k, q.v.ownBlock = some k → k < w.heap.size := fun j q hq k hk => by
    have hj : j < L.length := by rw [← h.len]; exact (List.getElem?_eq_some_iff.1 hq).1
    exact ((h.row j q L[j] hq (by simp [hj])).blk k hk).2
  have hap : ∀ (j : Nat) (q : Sl), ss[j]? = some q → j ≠ i → ∀ k, r'.v.ownBlock = some k → q.v.ownBlock ≠ some k := fun j q hq hji k hk hqk => by
    rcases hn with hn | hn
    · rw [hn] at hk
      exact h.apart i j r q hr hq (Ne.symm hji) k hk hqk
    · have := hn k hk
      have := hlt j q hq k hqk
      omega
  refine ST_own hown hi' (p := p) hp r' rfl fun w2 hO2 hs2 => hk w2 ⟨hO2, by simp [h.len], fun j q l hq hl => ?_, fun j k q q' hq hq' hjk => ?_⟩ hs2
  · have hst : ∀ {q : Sl} {l : List α}, OwnL w1 base e q l → OwnL w2 base e q l := fun hq => hq.step hown hne hs2
    by_cases hji : j = i
    · subst hji
      rw [List.getElem?_set_self hi] at hl
      rw [List.getElem?_set_self hi'] at hq
      cases hl; cases hq
      exact hst hO
    · rw [List.getElem?_set_ne (Ne.symm hji)] at hl hq
      have hq' := h.row j q l hq hl
      exact hst (hq'.keep fun k hk => hs.block k (hq'.blk k hk).2 fun he => h.apart i j r q hr hq (Ne.symm hji) k he.symm hk)
  · by_cases hji : j = i
    · subst hji
      rw [List.getElem?_set_self hi'] at hq
      rw [List.getElem?_set_ne hjk] at hq'
      cases hq
      exact hap k q' hq' (Ne.symm hjk)
    · rw [List.getElem?_set_ne (Ne.symm hji)] at hq
      by_cases hki : k = i
      · subst hki
        rw [List.getElem?_set_self hi'] at hq'
        cases hq'
        exact fun b hb hb' => hap j q hq hji b hb' hb
      · rw [List.getElem?_set_ne (Ne.symm hki)] at hq'
        exact h.apart j k q q' hq hq' hjk

end

/-- One more row. -/
theorem RUN_append_rowDF {α : Type} [Flat α] {P : Program} {t e e' : TypeId} {bytes : Nat} {z : Value} (hT : SlT P t e' 1 bytes z) (hne : e ≠ e') {w : World} {base b1 : Nat} {s y r : Sl} {L : List (List α)} {ss : List Sl} {l : List α} (h : RowsD w base e e' s L ss) (hbase : base ≤ w.heap.size)
    (hr : OwnL w base e r l) (hnew : ∀ (j : Nat) (q : Sl), ss[j]? = some q → ∀ k, q.v.ownBlock = some k → r.v.ownBlock ≠ some k) (hy : OwnL w b1 e' y [r]) (hlen : (L.length + 1) * bytes ≤ 140737488355328) (hmax : L.length + 1 ≤ maxLen) {K : Sl → World → Prop}
    (hk : ∀ s' w', RowsD w' base e e' s' (L ++ [l]) (ss ++ [r]) → Step w w' s.v.ownBlock → NewOr w s s' → K s' w') : RUN P (.at .sl) (bsem .append #[t, t] t #[s.v, y.v]) w K := by
  have hl2 := h.len
  refine RUN_appendF (α := Sl) hT h.own hbase (hy.rep fun _ _ => trivial).any (by simp [hl2]; exact hlen) (by simp [hl2]; exact hmax) fun s' w' hO hs hN => hk s' w' ⟨hO, by simp [hl2], fun i q m hq hm => ?_, fun i j q q' hq hq' hij => ?_⟩ hs hN
  · by_cases hi : i < ss.length
    · rw [List.getElem?_append_left hi] at hq
      rw [List.getElem?_append_left (by omega)] at hm
      exact (h.row i q m hq hm).step h.own hne hs
    · rw [List.getElem?_append_right (by omega)] at hq
      rw [List.getElem?_append_right (by omega), ← hl2] at hm
      have : i - ss.length = 0 := by
        have := (List.getElem?_eq_some_iff.1 hq).1
        simp at this; omega
      rw [this] at hq hm
      simp at hq hm
      subst hq; subst hm
      exact hr.step h.own hne hs
  · have hcase : ∀ {i : Nat} {q : Sl}, (ss ++ [r])[i]? = some q → (i < ss.length ∧ ss[i]? = some q) ∨ (i = ss.length ∧ q = r) := fun {i q} hq => by
      by_cases hi : i < ss.length
      · rw [List.getElem?_append_left hi] at hq; exact .inl ⟨hi, hq⟩
      · rw [List.getElem?_append_right (by omega)] at hq
        have h1 := (List.getElem?_eq_some_iff.1 hq).1
        simp at h1
        have h2 : i = ss.length := by omega
        subst h2
        simp at hq
        exact .inr ⟨rfl, hq.symm⟩
    rcases hcase hq with ⟨h1, h2⟩ | ⟨h1, rfl⟩ <;> rcases hcase hq' with ⟨h3, h4⟩ | ⟨h3, rfl⟩
    · exact h.apart i j q q' h2 h4 hij
    · exact hnew i q h2
    · exact fun k hk hk' => hnew j q' h4 k hk' hk
    · omega

theorem RUN_append_rowD {α : Type} [Flat α] {P : Program} {t e e' : TypeId} {bytes : Nat} {z : Value} (hT : SlT P t e' 1 bytes z) (hne : e ≠ e') {w : World} {base b1 : Nat} {s y r : Sl} {L : List (List α)} {ss : List Sl} {l : List α} (h : RowsD w base e e' s L ss) (hbase : base ≤ w.heap.size)
    (hr : OwnL w base e r l) (hnew : ∀ (j : Nat) (q : Sl), ss[j]? = some q → ∀ k, q.v.ownBlock = some k → r.v.ownBlock ≠ some k) (hy : OwnL w b1 e' y [r]) (hlen : (L.length + 1) * bytes ≤ 140737488355328) (hmax : L.length + 1 ≤ maxLen) {K : Sl → World → Prop}
    (hk : ∀ s' w', RowsD w' base e e' s' (L ++ [l]) (ss ++ [r]) → Step w w' s.v.ownBlock → K s' w') : RUN P (.at .sl) (bsem .append #[t, t] t #[s.v, y.v]) w K :=
  RUN_append_rowDF hT hne h hbase hr hnew hy hlen hmax fun s' w' h1 h2 _ => hk s' w' h1 h2

/-- One more row, made behind the others. -/
theorem RowsD.fresh {α : Type} [Flat α] {w w' : World} {base b1 : Nat} {e e' : TypeId} {s r : Sl} {L : List (List α)} {ss : List Sl} {l : List α} (h : RowsD w base e e' s L ss) (hr : OwnL w' b1 e r l) (hb : w.heap.size ≤ b1) : ∀ (j : Nat) (q : Sl), ss[j]? = some q → ∀ k, q.v.ownBlock = some k → r.v.ownBlock ≠ some k := fun j q hq k hk hrk => by
  have hj : j < L.length := by rw [← h.len]; exact (List.getElem?_eq_some_iff.1 hq).1
  have h1 := ((h.row j q L[j] hq (by simp [hj])).blk k hk).2
  have h2 := (hr.blk k hrk).1
  omega

end Go.GX
end

section
/- What the laws do with matrices: copy, compare, measure. Turned from our texts on a network's ends. -/
namespace Go.Proofs.YtaeledhbkdakcaaGreatDoor
open Go.GX Go.RowKit
set_option maxRecDepth 100000

/-- A matrix of bounded size. -/
def SmallM (l : List (List Int)) : Prop := l.length ≤ 1048576 ∧ ∀ r ∈ l, r.length ≤ 1048576

theorem slt_rows : SlT Tryz.prog T.t_sl_sl_int T.t_sl_int 1 24 (.slice none 0 0) := ⟨by kernel_rfl, by kernel_rfl, rfl, by decide⟩

theorem flat_okII {w : World} {s : Sl} {l : List (List Int)} (h : R w s l) : ∀ r ∈ l, ∀ x ∈ r, Flat.ok x := fun r hr x hx => by
  obtain ⟨i, hi, rfl⟩ := List.mem_iff_getElem.1 hr
  obtain ⟨_, _, _, _, ⟨s', _, h1⟩, _⟩ := h.2.2 i l[i] (by simp [hi])
  exact flat_ok h1 x hx

theorem eqIntSS_ok {w : World} {a b : Sl} {l m : List (List Int)} (ha : R w a l) (hb : R w b m) :
    Calls Tryz.prog F.l_eqIntSS #[a.v, b.v] w (Ret [.at .bool] fun (x : Bool) w' => x = decide (l = m) ∧ Ext w w') := by
  refine C_l_eqIntSS ?_
  unfold V_l_eqIntSS
  rw [ha.len, hb.len]
  refine cond_ne (fun hne => ⟨?_, Ext.refl _⟩) (fun he => ?_)
  · rw [decide_eq_false]; intro h; subst h; exact hne rfl
  · have hl : l.length = m.length := by omega
    refine ⟨IN l.length fun i w' => Ext w w' ∧ l.take i = m.take i, MN l.length, IN_zero ⟨Ext.refl _, by simp⟩, ?_⟩
    rintro x w1 ⟨i, rfl, hi, hE, ht⟩
    intros
    refine cond_dec (fun hlt => ?_) (fun hge => ⟨?_, hE⟩)
    · have h1 : i < l.length := by omega
      have h2 : i < m.length := by omega
      refine (ha.ext hE).ixL h1 fun p s1 hs1 hc => LD_sl hc ?_
      refine (hb.ext hE).ixL h2 fun p s2 hs2 hc => LD_sl hc ?_
      refine QCALL_bool _ (fun w' hw' => eqIntS_ok (hs1.any.ext hw') (hs2.any.ext hw')) ?_
      intro w2 hE2
      refine cond_not (fun hf => ⟨?_, hE.trans hE2⟩) (fun htr => ?_)
      · rw [decide_eq_false]; intro h; subst h; simp at hf
      · have heq : l[i] = m[i] := of_decide_eq_true htr
        exact IN_next ha.le h1 ⟨hE.trans hE2, by rw [List.take_succ_eq_append_getElem h1, List.take_succ_eq_append_getElem h2, ht, heq]⟩
    · have h3 : i = l.length := by omega
      subst h3
      rw [decide_eq_true]
      have h4 : m.take l.length = m := List.take_of_length_le (by omega)
      rw [h4, List.take_length] at ht
      exact ht

/-! ### Marks in matrices -/

/-- How many numbers lie in the first rows. -/
def pre (L : List (List Int)) (i : Nat) : Nat := ((L.take i).map List.length).sum
theorem pre_succ {L : List (List Int)} {i : Nat} (hi : i < L.length) : pre L (i + 1) = pre L i + L[i].length := by
  unfold pre
  rw [List.take_succ_eq_append_getElem hi, List.map_append, List.sum_append]
  simp
theorem pre_le {L : List (List Int)} (hL : ∀ r ∈ L, r.length ≤ 1048576) : ∀ i, i ≤ L.length → pre L i ≤ 1048576 * i
  | 0, _ => by simp [pre]
  | i + 1, hi => by
    have ih := pre_le hL i (by omega)
    rw [pre_succ (by omega)]
    have := hL _ (List.getElem_mem (show i < L.length by omega))
    omega

def marks2 (k : Int) (L : List (List Int)) : List (List Int) := (List.range L.length).map fun i => marks (k + pre L i) (L.getD i []).length
theorem marks2_len (k : Int) (L : List (List Int)) : (marks2 k L).length = L.length := by simp [marks2]
theorem marks2_get {k : Int} {L : List (List Int)} {i : Nat} (hi : i < L.length) : (marks2 k L)[i]'(by rw [marks2_len]; exact hi) = marks (k + pre L i) L[i].length := by
  simp [marks2, hi]

/-- A matrix of the call's own: its rows lie apart from each other. -/
structure OutM (base : Nat) (w : World) (s : Sl) (L : List (List Int)) : Prop where
  ex : ∃ ss : List Sl, RowsD w base T.t_int T.t_sl_int s L ss
  i64 : ∀ r ∈ L, ∀ x ∈ r, I64 x
  rows : L.length ≤ 1048576
  small : ∀ r ∈ L, r.length ≤ 1048576

theorem OutM.own2 {base : Nat} {w : World} {s : Sl} {L : List (List Int)} (h : OutM base w s L) : Own2 w base T.t_int T.t_sl_int s L := by
  obtain ⟨ss, h1, h2, h3, _⟩ := h.ex
  exact ⟨ss, h1, h2, h3⟩
theorem OutM.rep {base : Nat} {w : World} {s : Sl} {L : List (List Int)} (h : OutM base w s L) : R w s L := h.own2.rep h.i64
theorem OutM.keep {base : Nat} {w w' : World} {s : Sl} {L : List (List Int)} (h : OutM base w s L) (hk : ∀ k, base ≤ k → k < w.heap.size → w'.heap[k]? = w.heap[k]?) : OutM base w' s L := by
  obtain ⟨ss, h1, h2, h3, h4⟩ := h.ex
  exact ⟨⟨ss, h1.keep fun k hb => hk k (h1.blk k hb).1 (h1.blk k hb).2, h2, fun i r l hr hl => (h3 i r l hr hl).keep fun k hb => hk k ((h3 i r l hr hl).blk k hb).1 ((h3 i r l hr hl).blk k hb).2, h4⟩, h.i64, h.rows, h.small⟩
theorem OutM.ext {base : Nat} {w w' : World} {s : Sl} {L : List (List Int)} (h : OutM base w s L) (hE : Ext w w') : OutM base w' s L := h.keep fun _ _ hk => hE.same hk
theorem OutM.nil (base : Nat) (w : World) : OutM base w ⟨none, 0, 0⟩ [] := ⟨⟨[], OwnL.nil _ _ _, rfl, fun i r l h => by simp at h, fun i j r q h => by simp at h⟩, by simp, by simp, by simp⟩
theorem OutM.low {base b : Nat} {w : World} {s : Sl} {L : List (List Int)} (h : OutM base w s L) (hb : b ≤ base) : OutM b w s L := by
  obtain ⟨ss, h1, h2, h3, h4⟩ := h.ex
  exact ⟨⟨ss, h1.low hb, h2, fun i r l hr hl => (h3 i r l hr hl).low hb, h4⟩, h.i64, h.rows, h.small⟩

theorem rows_apart {w w' : World} {base base' : Nat} {r q : Sl} {l m : List Int} (h : OwnL w base T.t_int r l) (_ : OwnL w base' T.t_int q m) (hd : ∀ k, r.v.ownBlock = some k → q.v.ownBlock ≠ some k) (hs : Step w w' q.v.ownBlock) : OwnL w' base T.t_int r l :=
  h.keep fun k hk => hs.block k (h.blk k hk).2 fun he => hd k hk he.symm

/-- The blocks of a matrix's rows. -/
def RB (ss : List Sl) (b : Nat) : Prop := ∃ r ∈ ss, r.v.ownBlock = some b

theorem markIntSS_rows {base : Nat} {w : World} {s : Sl} {L : List (List Int)} {ss : List Sl} (hM : RowsD w base T.t_int T.t_sl_int s L ss) (hrows : L.length ≤ 1048576) (hsmall : ∀ r ∈ L, r.length ≤ 1048576) (k : Int) (h0 : 0 ≤ k) (h1 : k ≤ 1125899906842624000) :
    Calls Tryz.prog F.l_markIntSS #[s.v, .int .i64 k] w (Ret [.at (.int .i64)] fun (r : Int) w' => r = k + pre L L.length ∧ RowsD w' base T.t_int T.t_sl_int s (marks2 k L) ss ∧ Chg w w' (RB ss)) := by
  refine C_l_markIntSS ?_
  unfold V_l_markIntSS
  obtain ⟨hO, hlen, hR, hD⟩ := hM
  rw [hO.1]
  have hpl := fun i hi => pre_le hsmall i hi
  refine ⟨IN2 ss.length fun i r w' => r = k + pre L i ∧ OwnL w' base T.t_sl_int s ss ∧ (∀ (j : Nat) (q : Sl) (l : List Int), ss[j]? = some q → (if j < i then marks2 k L else L)[j]? = some l → OwnL w' base T.t_int q l) ∧ Chg w w' (RB ss), MN2 ss.length,
    IN2_zero ⟨by simp [pre], hO, by simpa using hR, Chg.refl _ _⟩, ?_⟩
  rintro _ _ w1 ⟨i, rfl, hi, rfl, hO1, hR1, hC1⟩
  intros
  refine cond_dec (fun hlt => ?_) (fun hge => ?_)
  · have hi' : i < ss.length := by omega
    have hiL : i < L.length := by omega
    refine (hO1.rep fun _ _ => trivial).ix (n := 1) rfl (by omega) (by omega) fun p cs hrep hc => ?_
    simp only [Int.toNat_natCast] at hrep
    have hcs : cs = [ss[i].v] := hrep
    subst hcs
    refine LD_sl (hc 0 _ rfl) ?_
    have hOi := hR1 i ss[i] L[i] (by simp [hi']) (by simp [hiL])
    have hp := hpl i (by omega)
    refine call (markIntS_ok hOi (k + pre L i) (by omega) (by omega) (hsmall _ (List.getElem_mem hiL))) ?_
    rintro r w2 ⟨rfl, hO2, hs2⟩
    refine IN2_next (by omega) hi' ⟨by rw [pre_succ hiL]; omega, hO1.keep fun b hb => hs2.block b (hO1.blk b hb).2 fun he => ?_, fun j q l hq hl => ?_, hC1.trans (.of_step hs2 fun b hb => ⟨ss[i], List.getElem_mem hi', hb⟩)⟩
    · obtain ⟨c1, e1⟩ := hO1.type hb
      obtain ⟨c2, e2⟩ := hOi.type he.symm
      rw [e1] at e2
      exact absurd (Obj.cells.inj (Option.some.inj e2)).2.1 (by decide)
    · by_cases hji : j = i
      · subst hji
        rw [if_pos (by omega), List.getElem?_eq_getElem (by rw [marks2_len]; exact hiL), marks2_get hiL] at hl
        rw [List.getElem?_eq_getElem hi'] at hq
        cases hq
        cases hl
        exact hO2
      · have hl' : (if j < i then marks2 k L else L)[j]? = some l := by
          by_cases hj : j < i
          · rw [if_pos (by omega)] at hl; rw [if_pos hj]; exact hl
          · rw [if_neg (by omega)] at hl; rw [if_neg hj]; exact hl
        exact rows_apart (hR1 j q l hq hl') hOi (hD j i q ss[i] hq (by simp [hi']) hji) hs2
  · have : i = ss.length := by omega
    subst this
    exact ⟨by rw [hlen], ⟨hO1, by rw [marks2_len]; exact hlen, fun j q l hq hl => hR1 j q l hq (by rw [if_pos (List.getElem?_eq_some_iff.1 hq).1]; exact hl), hD⟩, hC1⟩

theorem marks2_I64 {k : Int} {L : List (List Int)} (h0 : 0 ≤ k) (h1 : k ≤ 1125899906842624000) (hrows : L.length ≤ 1048576) (hsmall : ∀ r ∈ L, r.length ≤ 1048576) : ∀ r ∈ marks2 k L, ∀ x ∈ r, I64 x := fun r hr x hx => by
  obtain ⟨j, hj, rfl⟩ := List.mem_iff_getElem.1 hr
  have hjL : j < L.length := by rwa [marks2_len] at hj
  rw [marks2_get hjL] at hx
  have := pre_le hsmall j (by omega)
  have := hsmall _ (List.getElem_mem hjL)
  exact marks_I64 (by omega) (by omega) x hx

/-! ### Two matrices that lie apart -/

/-- The blocks of a matrix. -/
def MB (s : Sl) (ss : List Sl) (b : Nat) : Prop := s.v.ownBlock = some b ∨ RB ss b

theorem _root_.Go.GX.RowsD.blk {w : World} {base : Nat} {s : Sl} {L : List (List Int)} {ss : List Sl} (h : RowsD w base T.t_int T.t_sl_int s L ss) {b : Nat} (hb : MB s ss b) : base ≤ b ∧ b < w.heap.size := by
  rcases hb with hb | ⟨r, hr, hb⟩
  · exact h.own.blk b hb
  · obtain ⟨i, hi, rfl⟩ := List.mem_iff_getElem.1 hr
    have hl := h.len
    exact (h.row i ss[i] (L[i]'(by omega)) (by simp [hi]) (by simp)).blk b hb

theorem _root_.Go.GX.RowsD.keepB {w w' : World} {base : Nat} {s : Sl} {L : List (List Int)} {ss : List Sl} (h : RowsD w base T.t_int T.t_sl_int s L ss) (hk : ∀ b, MB s ss b → w'.heap[b]? = w.heap[b]?) : RowsD w' base T.t_int T.t_sl_int s L ss :=
  ⟨h.own.keep fun b hb => hk b (.inl hb), h.len, fun i r l hr hl => (h.row i r l hr hl).keep fun b hb => hk b (.inr ⟨r, List.mem_of_getElem? hr, hb⟩), h.apart⟩

theorem _root_.Go.GX.RowsD.away {w w' : World} {base : Nat} {s : Sl} {L : List (List Int)} {ss : List Sl} (h : RowsD w base T.t_int T.t_sl_int s L ss) {D : Nat → Prop} (hC : Chg w w' D) (hd : ∀ b, MB s ss b → ¬ D b) : RowsD w' base T.t_int T.t_sl_int s L ss :=
  h.keepB fun b hb => hC.block b (h.blk hb).2 (hd b hb)

structure Out2M (base : Nat) (w : World) (s : Sl) (L : List (List Int)) (s' : Sl) (L' : List (List Int)) : Prop where
  ex : ∃ ss ss' : List Sl, RowsD w base T.t_int T.t_sl_int s L ss ∧ RowsD w base T.t_int T.t_sl_int s' L' ss' ∧ ∀ b, MB s ss b → ¬ MB s' ss' b
  i64 : ∀ r ∈ L, ∀ x ∈ r, I64 x
  rows : L.length ≤ 1048576
  small : ∀ r ∈ L, r.length ≤ 1048576
  i64' : ∀ r ∈ L', ∀ x ∈ r, I64 x
  rows' : L'.length ≤ 1048576
  small' : ∀ r ∈ L', r.length ≤ 1048576

theorem Out2M.keep {base : Nat} {w w' : World} {s s' : Sl} {L L' : List (List Int)} (h : Out2M base w s L s' L') (hk : ∀ k, base ≤ k → k < w.heap.size → w'.heap[k]? = w.heap[k]?) : Out2M base w' s L s' L' := by
  obtain ⟨ss, ss', h1, h2, h3⟩ := h.ex
  exact ⟨⟨ss, ss', h1.keepB fun b hb => hk b (h1.blk hb).1 (h1.blk hb).2, h2.keepB fun b hb => hk b (h2.blk hb).1 (h2.blk hb).2, h3⟩, h.i64, h.rows, h.small, h.i64', h.rows', h.small'⟩
theorem Out2M.ext {base : Nat} {w w' : World} {s s' : Sl} {L L' : List (List Int)} (h : Out2M base w s L s' L') (hE : Ext w w') : Out2M base w' s L s' L' := h.keep fun _ _ hk => hE.same hk
theorem Out2M.nil (base : Nat) (w : World) : Out2M base w ⟨none, 0, 0⟩ [] ⟨none, 0, 0⟩ [] :=
  ⟨⟨[], [], RowsD.nil _ _ _ _, RowsD.nil _ _ _ _, fun b hb => (by
    rcases hb with hb | ⟨r, hr, _⟩
    · cases hb
    · cases hr)⟩, by simp, by simp, by simp, by simp, by simp, by simp⟩
theorem Out2M.low {base b : Nat} {w : World} {s s' : Sl} {L L' : List (List Int)} (h : Out2M base w s L s' L') (hb : b ≤ base) : Out2M b w s L s' L' := by
  obtain ⟨ss, ss', h1, h2, h3⟩ := h.ex
  exact ⟨⟨ss, ss', ⟨h1.own.low hb, h1.len, fun i r l hr hl => (h1.row i r l hr hl).low hb, h1.apart⟩, ⟨h2.own.low hb, h2.len, fun i r l hr hl => (h2.row i r l hr hl).low hb, h2.apart⟩, h3⟩, h.i64, h.rows, h.small, h.i64', h.rows', h.small'⟩
theorem Out2M.rep {base : Nat} {w : World} {s s' : Sl} {L L' : List (List Int)} (h : Out2M base w s L s' L') : R w s L := by
  obtain ⟨ss, ss', h1, _, _⟩ := h.ex
  exact h1.rep h.i64
theorem heldIntSS_ok {w : World} {s : Sl} {L : List (List Int)} (k : Int) (h : R w s (marks2 k L)) (h0 : 0 ≤ k) (h1 : k ≤ 1125899906842624000) (hl : L.length ≤ 1048576) (hll : ∀ r ∈ L, r.length ≤ 1048576) :
    Calls Tryz.prog F.l_heldIntSS #[s.v, .int .i64 k] w (Ret [.at (.int .i64)] fun (r : Int) w' => r = k + pre L L.length ∧ w = w') := by
  refine C_l_heldIntSS ?_
  unfold V_l_heldIntSS
  rw [h.len, marks2_len]
  have hpl := fun i hi => pre_le hll i hi
  refine ⟨IN2 L.length fun i r w' => r = k + pre L i ∧ w = w', MN2 L.length, IN2_zero ⟨by simp [pre], rfl⟩, ?_⟩
  rintro _ _ w1 ⟨i, rfl, hi, rfl, rfl⟩
  intros
  refine cond_dec (fun hlt => ?_) (fun hge => ?_)
  · have hiL : i < L.length := by omega
    refine h.ixL (by rw [marks2_len]; exact hiL) fun p r hr hc => LD_sl hc ?_
    rw [marks2_get hiL] at hr
    have hp := hpl i (by omega)
    have hrl := hll _ (List.getElem_mem hiL)
    refine call (heldIntS_ok (k + pre L i) hr.any (by omega) (by omega) hrl) ?_
    rintro r _ ⟨rfl, rfl⟩
    refine cond_df (by omega) ?_
    exact IN2_next (by omega) hiL ⟨by rw [pre_succ hiL]; omega, rfl⟩
  · have : i = L.length := by omega
    subst this
    exact ⟨rfl, rfl⟩

theorem MIntSS.chg {w w' : World} {s : Sl} {lo hi : Nat} (h : MIntSS w s lo hi) (hS : Shp w w') {l2 h2 : Nat} (hC : Chg w w' (fun b => l2 ≤ b ∧ b < h2)) (hlo : h2 ≤ lo) : MIntSS w' s lo hi := by
  obtain ⟨ss, h1, h3, h4⟩ := h.ex
  exact ⟨ss, h1.chg hC fun b hb hD => by have := (h1.blk b hb).1; have := hD.2; omega, h3, fun r hr => ⟨(h4 r hr).1.shp hS, (h4 r hr).2⟩⟩

theorem MIntSS.ext {w w' : World} {s : Sl} {lo hi : Nat} (h : MIntSS w s lo hi) (hE : Ext w w') : MIntSS w' s lo hi := by
  obtain ⟨ss, h1, h3, h4⟩ := h.ex
  exact ⟨ss, h1.ext hE, h3, fun r hr => ⟨(h4 r hr).1.ext hE, (h4 r hr).2⟩⟩

end Go.Proofs.YtaeledhbkdakcaaGreatDoor
end

section
/- Configurations: lists of labels in order, both sides. -/
namespace Go.Proofs.YtaeledhbkdakcaaGreatDoor
open Go.GX Go.RowKit
set_option maxRecDepth 100000

/-! ### Lists in the dictionary's order -/

def cmpL : List Int → List Int → Int
  | [], [] => 0
  | [], _ :: _ => -1
  | _ :: _, [] => 1
  | x :: a, y :: b => if x < y then -1 else if y < x then 1 else cmpL a b

theorem cmpL_zero : ∀ {a b : List Int}, cmpL a b = 0 ↔ a = b
  | [], [] => by simp [cmpL]
  | [], _ :: _ => by simp [cmpL]
  | _ :: _, [] => by simp [cmpL]
  | x :: a, y :: b => by
    rw [cmpL, List.cons.injEq, ← cmpL_zero (a := a) (b := b)]
    by_cases h1 : x < y
    · rw [if_pos h1]
      constructor
      · intro h; omega
      · intro h; omega
    · by_cases h2 : y < x
      · rw [if_neg h1, if_pos h2]
        constructor
        · intro h; omega
        · intro h; omega
      · rw [if_neg h1, if_neg h2]
        constructor
        · intro h; exact ⟨by omega, h⟩
        · intro h; exact h.2

theorem cmpL_trans : ∀ {a b c : List Int}, cmpL a b < 0 → cmpL b c < 0 → cmpL a c < 0
  | [], [], _, h, _ => by simp [cmpL] at h
  | [], _ :: _, [], _, h => by simp [cmpL] at h
  | [], _ :: _, _ :: _, _, _ => by simp [cmpL]
  | _ :: _, [], _, h, _ => by simp [cmpL] at h
  | _ :: _, _ :: _, [], _, h => by simp [cmpL] at h
  | x :: a, y :: b, z :: c, h, h' => by
    rw [cmpL] at h h' ⊢
    by_cases h1 : x < y
    · by_cases h2 : y < z
      · rw [if_pos (by omega)]; omega
      · rw [if_neg h2] at h'
        by_cases h3 : z < y
        · rw [if_pos h3] at h'; omega
        · rw [if_pos (by omega)]; omega
    · rw [if_neg h1] at h
      by_cases h4 : y < x
      · rw [if_pos h4] at h; omega
      · rw [if_neg h4] at h
        by_cases h2 : y < z
        · rw [if_pos (by omega)]; omega
        · rw [if_neg h2] at h'
          by_cases h3 : z < y
          · rw [if_pos h3] at h'; omega
          · rw [if_neg h3] at h'
            rw [if_neg (by omega), if_neg (by omega)]
            exact cmpL_trans h h'

/-- What is asked of a list of configurations. -/
structure ConfOk (L : List (List Int)) (size labels : Int) : Prop where
  row : ∀ i (h : i < L.length), (L[i].length : Int) = size ∧ L[i].Pairwise (· ≤ ·) ∧ AllIn L[i] 0 (labels - 1)
  rise : ∀ i (h : i + 1 < L.length), cmpL L[i] L[i + 1] < 0

theorem ConfOk.lt {L : List (List Int)} {size labels : Int} (h : ConfOk L size labels) : ∀ j i (_ : i < j) (hj : j < L.length), cmpL (L[i]'(by omega)) L[j] < 0 := by
  intro j
  induction j with
  | zero => intro i hi; omega
  | succ j ih =>
    intro i hi hj
    have h1 := h.rise j hj
    rcases Nat.lt_or_eq_of_le (Nat.le_of_lt_succ hi) with h2 | h2
    · exact cmpL_trans (ih i h2 (by omega)) h1
    · subst h2; exact h1

/-- Pairwise in order, told by neighbours. -/
theorem sorted_next : ∀ {l : List Int}, (∀ k (h : k + 1 < l.length), l[k] ≤ l[k + 1]) ↔ l.Pairwise (· ≤ ·)
  | [] => by simp
  | [x] => by simp
  | x :: y :: l => by
    have ih := sorted_next (l := y :: l)
    rw [List.pairwise_cons, ← ih]
    constructor
    · intro h
      have ht : ∀ k (h : k + 1 < (y :: l).length), (y :: l)[k] ≤ (y :: l)[k + 1] := fun k hk => h (k + 1) (by simp at hk ⊢; omega)
      refine ⟨fun z hz => ?_, ht⟩
      have hxy : x ≤ y := h 0 (by simp)
      have hp := List.pairwise_cons.1 (ih.1 ht)
      rcases List.mem_cons.1 hz with rfl | hz
      · exact hxy
      · exact Int.le_trans hxy (hp.1 z hz)
    · rintro ⟨h1, h2⟩ k hk
      cases k with
      | zero => exact h1 y (by simp)
      | succ k => exact h2 k (by simp at hk ⊢; omega)

/-! ### Comparing -/

theorem isNaN_ok (x : Int) (w : World) : Calls Tryz.prog F.cmp_isNaN_int #[.int .i64 x] w (Ret [.at .bool] fun (b : Bool) w' => b = false ∧ w = w') := by
  refine C_cmp_isNaN_int ?_
  unfold V_cmp_isNaN_int
  exact ⟨by simp, rfl⟩

theorem cmpLess_ok (x y : Int) (w : World) : Calls Tryz.prog F.cmp_Less_int #[.int .i64 x, .int .i64 y] w (Ret [.at .bool] fun (b : Bool) w' => b = decide (x < y) ∧ w = w') := by
  refine C_cmp_Less_int ?_
  unfold V_cmp_Less_int
  refine call (isNaN_ok _ _) ?_
  rintro _ _ ⟨rfl, rfl⟩
  exact cond_b (fun h => by cases h) (fun _ => ⟨rfl, rfl⟩)

theorem cmpCompare_ok (x y : Int) (w : World) : Calls Tryz.prog F.cmp_Compare_int #[.int .i64 x, .int .i64 y] w (Ret [.at (.int .i64)] fun (r : Int) w' => r = (if x < y then -1 else if y < x then 1 else 0) ∧ w = w') := by
  refine C_cmp_Compare_int ?_
  unfold V_cmp_Compare_int
  refine call (isNaN_ok _ _) ?_
  rintro _ _ ⟨rfl, rfl⟩
  refine call (isNaN_ok _ _) ?_
  rintro _ _ ⟨rfl, rfl⟩
  refine cond_b (fun h => by cases h) (fun _ => cond_b (fun h => by cases h) (fun _ => ?_))
  refine cond_dec (fun h => ⟨by rw [if_pos h], rfl⟩) (fun h => cond_dec (fun h2 => ⟨by rw [if_neg h, if_pos h2], rfl⟩) (fun h2 => ⟨by rw [if_neg h, if_neg h2], rfl⟩))

theorem compare_ok {w : World} {s t : Sl} {a b : List Int} (ha : R w s a) (hb : R w t b) :
    Calls Tryz.prog F.slices_Compare_sl_int_int #[s.v, t.v] w (Ret [.at (.int .i64)] fun (r : Int) w' => r = cmpL a b ∧ w = w') := by
  refine C_slices_Compare_sl_int_int ?_
  unfold V_slices_Compare_sl_int_int
  rw [ha.len, hb.len]
  refine ⟨IN a.length fun i w' => w = w' ∧ i ≤ b.length ∧ cmpL a b = cmpL (a.drop i) (b.drop i), MN a.length, IN_zero ⟨rfl, by omega, by simp⟩, ?_⟩
  rintro _ _ ⟨i, rfl, hi, rfl, hib, he⟩
  intros
  refine cond_dec (fun hlt => ?_) (fun hge => ?_)
  · have hi' : i < a.length := by omega
    have hda : a.drop i = a[i] :: a.drop (i + 1) := List.drop_eq_getElem_cons hi'
    refine ha.ixI hi' fun q _ hc => LD_int hc ?_
    refine cond_dec (fun hge => ⟨?_, rfl⟩) (fun hlt2 => ?_)
    · have hdb0 : b.drop i = [] := List.drop_of_length_le (by omega)
      rw [he, hda, hdb0]; rfl
    have hi2 : i < b.length := by omega
    have hdb : b.drop i = b[i] :: b.drop (i + 1) := List.drop_eq_getElem_cons hi2
    refine hb.ixI hi2 fun q _ hc => LD_int hc ?_
    refine call (cmpCompare_ok _ _ _) ?_
    rintro _ _ ⟨rfl, rfl⟩
    rw [hda, hdb, cmpL] at he
    refine cond_ne (fun hne => ⟨?_, rfl⟩) (fun heq => ?_)
    · rw [he]
      by_cases h1 : a[i] < b[i]
      · rw [if_pos h1, if_pos h1]
      · by_cases h2 : b[i] < a[i]
        · rw [if_neg h1, if_pos h2, if_neg h1, if_pos h2]
        · rw [if_neg h1, if_neg h2] at hne; exact absurd rfl hne
    · have h1 : ¬ a[i] < b[i] := fun h => by
        have heq' : (if a[i] < b[i] then (-1 : Int) else if b[i] < a[i] then 1 else 0) = 0 := heq
        rw [if_pos h] at heq'; omega
      have h2 : ¬ b[i] < a[i] := fun h => by
        have heq' : (if a[i] < b[i] then (-1 : Int) else if b[i] < a[i] then 1 else 0) = 0 := heq
        rw [if_neg h1, if_pos h] at heq'; omega
      rw [if_neg h1, if_neg h2] at he
      exact IN_next ha.le hi' ⟨rfl, by omega, he⟩
  · have : i = a.length := by omega
    subst this
    rw [List.drop_length] at he
    refine cond_dec (fun hlt => ⟨?_, rfl⟩) (fun hge2 => ⟨?_, rfl⟩)
    · have hi2 : a.length < b.length := by omega
      rw [he, List.drop_eq_getElem_cons hi2]; rfl
    · rw [he, List.drop_of_length_le (by omega)]; rfl

theorem isSorted_ok {w : World} {s : Sl} {l : List Int} (h : R w s l) :
    Calls Tryz.prog F.slices_IsSorted_sl_int_int #[s.v] w (Ret [.at .bool] fun (b : Bool) w' => (b = true ↔ l.Pairwise (· ≤ ·)) ∧ Ext w w') := by
  refine C_slices_IsSorted_sl_int_int ?_
  unfold V_slices_IsSorted_sl_int_int
  have hle := h.le
  rw [h.len, wrap_of (by omega) (by omega)]
  rw [← sorted_next]
  refine ⟨fun (i : Int) w' => Ext w w' ∧ -1 ≤ i ∧ i ≤ (l.length : Int) - 1 ∧ ∀ k (hk : k + 1 < l.length), i ≤ k → l[k] ≤ l[k + 1], fun i _ => (i + 1).toNat, ⟨Ext.refl _, by omega, by omega, fun k hk hi => by omega⟩, ?_⟩
  rintro i w1 ⟨hE, hi0, hi1, hall⟩
  intros
  refine cond_dec (fun hpos => ?_) (fun hnp => ⟨by simp only [true_iff]; exact fun k hk => hall k hk (by omega), hE⟩)
  obtain ⟨m, rfl⟩ : ∃ m : Nat, i = (m : Int) + 1 := ⟨(i - 1).toNat, by omega⟩
  have hm : m + 1 < l.length := by omega
  have hcast : (m : Int) + 1 = ((m + 1 : Nat) : Int) := by omega
  rw [show (m : Int) + 1 - 1 = (m : Int) by omega, wrap_of (n := (m : Int)) (by omega) (by omega), hcast]
  refine (h.ext hE).ixI hm fun q _ hc => LD_int hc ?_
  refine (h.ext hE).ixI (i := m) (by omega) fun q _ hc => LD_int hc ?_
  refine QCALL_bool (decide (l[m + 1] < l[m])) (fun w' _ => call (cmpLess_ok _ _ _) fun _ _ ⟨h1, h2⟩ => ⟨h1, h2 ▸ Ext.refl _⟩) ?_
  intro w2 hE2
  refine cond_dec (fun hlt => ⟨?_, hE.trans hE2⟩) (fun hge => ?_)
  · simp only [Bool.false_eq_true, false_iff]
    intro hh
    have := hh m hm
    omega
  · refine ⟨⟨hE.trans hE2, by omega, by omega, fun k hk hmk => ?_⟩, by simp only; omega⟩
    by_cases he : k = m
    · subst he; omega
    · exact hall k hk (by omega)

theorem configurationsOk_ok {w : World} {s : Sl} {L : List (List Int)} (h : R w s L) {size labels : Int} (hb : 1 ≤ labels ∧ labels ≤ 8) :
    Calls Tryz.prog F.i_configurationsOk #[s.v, .int .i64 size, .int .i64 labels] w (Ret [.at .bool] fun (b : Bool) w' => (b = true ↔ ConfOk L size labels) ∧ Ext w w') := by
  refine C_i_configurationsOk ?_
  unfold V_i_configurationsOk
  have hle := h.le
  rw [h.len, wrap_of (n := labels - 1) (by omega) (by omega)]
  refine ⟨IN L.length fun i w' => Ext w w' ∧ (∀ u < i, ∀ (hu : u < L.length), (L[u].length : Int) = size ∧ L[u].Pairwise (· ≤ ·) ∧ AllIn L[u] 0 (labels - 1)) ∧ ∀ u, u + 1 < i → ∀ (hu : u + 1 < L.length), cmpL L[u] L[u + 1] < 0, MN L.length, IN_zero ⟨Ext.refl _, fun u hu => absurd hu (by omega), fun u hu => absurd hu (by omega)⟩, ?_⟩
  rintro _ w1 ⟨i, rfl, hi, hE, h1, h2⟩
  intros
  refine cond_dec (fun hlt => ?_) (fun hge => ?_)
  rotate_left
  · have : i = L.length := by omega
    subst this
    exact ⟨by simp only [true_iff]; exact ⟨fun u hu => h1 u hu hu, fun u hu => h2 u hu hu⟩, hE⟩
  have hi' : i < L.length := by omega
  refine (h.ext hE).ixL hi' fun q s1 hR1 hc => LD_sl hc ?_
  rw [hR1.len]
  refine cond_ne (fun hne => ⟨?_, hE⟩) (fun heq => ?_)
  · simp only [Bool.false_eq_true, false_iff]
    exact fun hC => hne (hC.row i hi').1
  refine call (isSorted_ok hR1.any) ?_
  rintro x w2 ⟨hx, hE2⟩
  refine cond_not (fun hf => ⟨?_, hE.trans hE2⟩) (fun ht => ?_)
  · simp only [Bool.false_eq_true, false_iff]
    intro hC
    rw [hx.2 (hC.row i hi').2.1] at hf; cases hf
  refine call (allWithin_ok (hR1.any.ext hE2) 0 (labels - 1)) ?_
  rintro y w3 ⟨hy, hE3⟩
  have hE13 := hE2.trans hE3
  have hEt := hE.trans hE13
  refine cond_not (fun hf => ⟨?_, hEt⟩) (fun ht2 => ?_)
  · simp only [Bool.false_eq_true, false_iff]
    intro hC
    rw [hy.2 (hC.row i hi').2.2] at hf; cases hf
  have hrow : (L[i].length : Int) = size ∧ L[i].Pairwise (· ≤ ·) ∧ AllIn L[i] 0 (labels - 1) := ⟨heq, hx.1 ht, hy.1 ht2⟩
  refine cond_dec (fun hpos => ?_) (fun hnp => ?_)
  · obtain ⟨j, rfl⟩ : ∃ j, i = j + 1 := ⟨i - 1, by omega⟩
    rw [show ((j + 1 : Nat) : Int) - 1 = (j : Int) by omega, wrap_of (n := (j : Int)) (by omega) (by omega)]
    refine (h.ext hEt).ixL (i := j) (by omega) fun q s2 hR2 hc => LD_sl hc ?_
    refine call (compare_ok hR2.any (hR1.any.ext hE13)) ?_
    rintro _ _ ⟨rfl, rfl⟩
    refine cond_dec (fun hge => ⟨?_, hEt⟩) (fun hlt2 => ?_)
    · simp only [Bool.false_eq_true, false_iff]
      intro hC
      have := hC.rise j hi'
      omega
    · refine IN_next hle hi' ⟨hEt, all_succ h1 fun _ => hrow, fun u hu hu2 => ?_⟩
      by_cases he : u = j
      · subst he; omega
      · exact h2 u (by omega) hu2
  · refine IN_next hle hi' ⟨hEt, all_succ h1 fun _ => hrow, fun u hu => absurd hu (by omega)⟩

/-! ### The reference's side -/

theorem l1Sign_ok (n : Int) (w : World) : Calls Tryz.prog F.s_l1Sign #[.int .i64 n] w (Ret [.at (.int .i64)] fun (r : Int) w' => r = (if n < 0 then -1 else if 0 < n then 1 else 0) ∧ w = w') := by
  refine C_s_l1Sign ?_
  unfold V_s_l1Sign
  refine cond_dec (fun h => ⟨by rw [if_neg (by omega), if_pos h], rfl⟩) (fun h => cond_dec (fun h2 => ⟨by rw [if_pos h2], rfl⟩) (fun h2 => ⟨by rw [if_neg h2, if_neg h], rfl⟩))

theorem prOrder_ok {w : World} {s t : Sl} {a b : List Int} (ha : R w s a) (hb : R w t b) (hl : a.length = b.length) {c : Int} (hc8 : c ≤ 1000) (hA : AllIn a 0 c) (hB : AllIn b 0 c) :
    Calls Tryz.prog F.s_prOrder #[s.v, t.v] w (Ret [.at (.int .i64)] fun (r : Int) w' => r = cmpL a b ∧ w = w') := by
  refine C_s_prOrder ?_
  unfold V_s_prOrder
  rw [ha.len]
  refine ⟨IN a.length fun i w' => w = w' ∧ cmpL a b = cmpL (a.drop i) (b.drop i), MN a.length, IN_zero ⟨rfl, by simp⟩, ?_⟩
  rintro _ _ ⟨i, rfl, hi, rfl, he⟩
  intros
  refine cond_dec (fun hlt => ?_) (fun hge => ?_)
  · have hi' : i < a.length := by omega
    have hi2 : i < b.length := by omega
    have hda : a.drop i = a[i] :: a.drop (i + 1) := List.drop_eq_getElem_cons hi'
    have hdb : b.drop i = b[i] :: b.drop (i + 1) := List.drop_eq_getElem_cons hi2
    have h1 := hA _ (List.getElem_mem hi')
    have h2 := hB _ (List.getElem_mem hi2)
    rw [hda, hdb, cmpL] at he
    refine ha.ixI hi' fun q _ hc => LD_int hc ?_
    refine hb.ixI hi2 fun q _ hc => LD_int hc ?_
    refine cond_ne (fun hne => ?_) (fun heq => ?_)
    · refine hb.ixI hi2 fun q _ hc => LD_int hc ?_
      rw [wrap_of (by omega) (by omega)]
      refine call (l1Sign_ok _ _) ?_
      rintro _ _ ⟨rfl, rfl⟩
      refine ⟨?_, rfl⟩
      rw [he]
      by_cases h3 : a[i] < b[i]
      · rw [if_pos h3, if_pos (by omega)]
      · have hne' : a[i] ≠ b[i] := hne
        rw [if_neg h3, if_neg (by omega), if_pos (by omega), if_pos (by omega)]
    · have heq' : a[i] = b[i] := heq
      rw [if_neg (by omega), if_neg (by omega)] at he
      exact IN_next ha.le hi' ⟨rfl, he⟩
  · have : i = a.length := by omega
    subst this
    rw [List.drop_length, List.drop_of_length_le (by omega)] at he
    exact ⟨he.symm, rfl⟩

theorem prLists_k4 {w0 w : World} {s1 : Sl} {l : List Int} (hR : R w s1 l) {size : Int} (hs : (l.length : Int) = size) {I : Int → World → Prop} {m : Int → World → Nat} {x : Int} {w1 : World} {Q : Bool → World → Prop} (hE : Ext w0 w)
    (hno : ¬ l.Pairwise (· ≤ ·) → ∀ w', Ext w0 w' → Q false w')
    (hyes : l.Pairwise (· ≤ ·) → ∀ w', Ext w0 w' → I (IntKind.i64.wrap (x + 1)) w' ∧ m (IntKind.i64.wrap (x + 1)) w' < m x w1) :
    V_s_prLists_k4 I m x w1 size Q s1 w := by
  unfold V_s_prLists_k4
  have hle := hR.le
  rw [← sorted_next] at hno hyes
  refine ⟨fun (k : Int) w' => ∃ j : Nat, k = (j : Int) + 1 ∧ (j = 0 ∨ j + 1 ≤ l.length) ∧ Ext w w' ∧ ∀ u < j, ∀ (hu : u + 1 < l.length), l[u] ≤ l[u + 1], fun k _ => (size - k).toNat, ⟨0, rfl, .inl rfl, Ext.refl _, fun u hu => absurd hu (by omega)⟩, ?_⟩
  rintro _ w5 ⟨j, rfl, hj, hE5, hall⟩
  intros
  refine cond_dec (fun hlt => ?_) (fun hge => hyes (fun u hu => hall u (by omega) hu) _ (hE.trans hE5))
  have hj' : j + 1 < l.length := by omega
  rw [show (j : Int) + 1 - 1 = (j : Int) by omega, wrap_of (n := (j : Int)) (by omega) (by omega), show (j : Int) + 1 = ((j + 1 : Nat) : Int) by omega]
  refine (hR.ext hE5).ixI (i := j) (by omega) fun q _ hc => LD_int hc ?_
  refine (hR.ext hE5).ixI hj' fun q _ hc => LD_int hc ?_
  intro w6 hE6
  refine cond_dec (fun hgt => hno (fun hh => ?_) _ (hE.trans (hE5.trans hE6))) (fun hng => ?_)
  · have := hh j hj'
    omega
  · rw [wrap_of (n := ((j + 1 : Nat) : Int) + 1) (by omega) (by omega)]
    exact ⟨⟨j + 1, by omega, .inr (by omega), hE5.trans hE6, all_succ hall fun _ => by omega⟩, by simp only; omega⟩

theorem prLists_ok {w : World} {s : Sl} {L : List (List Int)} (h : R w s L) {size labels : Int} (hb : 1 ≤ labels ∧ labels ≤ 8) :
    Calls Tryz.prog F.s_prLists #[s.v, .int .i64 size, .int .i64 labels] w (Ret [.at .bool] fun (b : Bool) w' => (b = true ↔ ConfOk L size labels) ∧ Ext w w') := by
  refine C_s_prLists ?_
  unfold V_s_prLists
  have hle := h.le
  rw [h.len, wrap_of (n := labels - 1) (by omega) (by omega)]
  refine ⟨IN L.length fun i w' => Ext w w' ∧ (∀ u < i, ∀ (hu : u < L.length), (L[u].length : Int) = size ∧ L[u].Pairwise (· ≤ ·) ∧ AllIn L[u] 0 (labels - 1)) ∧ ∀ u, u + 1 < i → ∀ (hu : u + 1 < L.length), cmpL L[u] L[u + 1] < 0, MN L.length, IN_zero ⟨Ext.refl _, fun u hu => absurd hu (by omega), fun u hu => absurd hu (by omega)⟩, ?_⟩
  rintro _ w1 ⟨i, rfl, hi, hE, h1, h2⟩
  intros
  refine cond_dec (fun hlt => ?_) (fun hge => ?_)
  rotate_left
  · have : i = L.length := by omega
    subst this
    exact ⟨by simp only [true_iff]; exact ⟨fun u hu => h1 u hu hu, fun u hu => h2 u hu hu⟩, hE⟩
  have hi' : i < L.length := by omega
  refine (h.ext hE).ixL hi' fun q s1 hR1 hc => LD_sl hc ?_
  rw [hR1.len]
  refine cond_ne (fun hne => ⟨?_, hE⟩) (fun heq => ?_)
  · simp only [Bool.false_eq_true, false_iff]
    exact fun hC => hne (hC.row i hi').1
  refine call (l1All_ok hR1.any 0 (labels - 1)) ?_
  rintro y _ ⟨hy, rfl⟩
  refine cond_not (fun hf => ⟨?_, hE⟩) (fun ht2 => ?_)
  · simp only [Bool.false_eq_true, false_iff]
    intro hC
    rw [hy.2 (hC.row i hi').2.2] at hf; cases hf
  have hall := hy.1 ht2
  have hno : ¬ L[i].Pairwise (· ≤ ·) → ∀ w', Ext w w' → (false = true ↔ ConfOk L size labels) ∧ Ext w w' := fun hn w' hE' => ⟨by simp only [Bool.false_eq_true, false_iff]; exact fun hC => hn (hC.row i hi').2.1, hE'⟩
  refine cond_dec (fun hpos => ?_) (fun hnp => ?_)
  · obtain ⟨j, rfl⟩ : ∃ j, i = j + 1 := ⟨i - 1, by omega⟩
    rw [show ((j + 1 : Nat) : Int) - 1 = (j : Int) by omega, wrap_of (n := (j : Int)) (by omega) (by omega)]
    refine (h.ext hE).ixL (i := j) (by omega) fun q s2 hR2 hc => LD_sl hc ?_
    have hrj := h1 j (by omega) (by omega)
    refine call (prOrder_ok hR2.any hR1.any (by omega) (c := labels - 1) (by omega) hrj.2.2 hall) ?_
    rintro _ _ ⟨rfl, rfl⟩
    refine cond_dec (fun hge => ⟨?_, hE⟩) (fun hlt2 => ?_)
    · simp only [Bool.false_eq_true, false_iff]
      intro hC
      have := hC.rise j hi'
      omega
    · refine prLists_k4 hR1.any heq hE hno fun hs w' hE' => IN_next hle hi' ⟨hE', all_succ h1 fun _ => ⟨heq, hs, hall⟩, fun u hu hu2 => ?_⟩
      by_cases he : u = j
      · subst he; omega
      · exact h2 u (by omega) hu2
  · refine prLists_k4 hR1.any heq hE hno fun hs w' hE' => IN_next hle hi' ⟨hE', all_succ h1 fun _ => ⟨heq, hs, hall⟩, fun u hu => absurd hu (by omega)⟩

end Go.Proofs.YtaeledhbkdakcaaGreatDoor
end

section
/- Plain facts on walk problems and rooted problems: arcs, pruning, roots. No program in sight. -/
namespace Go.Proofs.YtaeledhbkdakcaaGreatDoor
open Go.GX
set_option maxRecDepth 100000

structure WPr where
  labels : Int
  arcs : List (List Int)
structure RPr where
  labels : Int
  children : Int
  lines : List (List Int)

def arcE (A : List (List Int)) (a b : Nat) : Prop := [(a : Int), (b : Int)] ∈ A
/-- Rows that rise and have labels. -/
structure RowsUp (L : List (List Int)) (size labels : Int) : Prop where
  len : ∀ x ∈ L, (x.length : Int) = size
  lab : ∀ x ∈ L, AllIn x 0 (labels - 1)
  up : ∀ i (h : i + 1 < L.length), cmpL L[i] L[i + 1] < 0
theorem RowsUp.lt {L : List (List Int)} {size labels : Int} (h : RowsUp L size labels) : ∀ j i (_ : i < j) (hj : j < L.length), cmpL (L[i]'(by omega)) L[j] < 0 := by
  intro j
  induction j with
  | zero => intro i hi; omega
  | succ j ih =>
    intro i hi hj
    have h2 := h.up j hj
    by_cases he : i = j
    · subst he; exact h2
    · exact cmpL_trans (ih i (by omega) (by omega)) h2

structure WGood (p : WPr) : Prop where
  lab : 1 ≤ p.labels ∧ p.labels ≤ 12
  up : RowsUp p.arcs 2 p.labels
structure RoGood (p : RPr) : Prop where
  lab : 1 ≤ p.labels ∧ p.labels ≤ 8
  chi : 1 ≤ p.children ∧ p.children ≤ 3
  up : RowsUp p.lines (p.children + 1) p.labels
  sort : ∀ x ∈ p.lines, x.tail.Pairwise (· ≤ ·)

/-- Two rising lists with the same members. -/
theorem up_unique : ∀ {L M : List (List Int)}, L.Pairwise (fun x y => cmpL x y < 0) → M.Pairwise (fun x y => cmpL x y < 0) → (∀ x, x ∈ L ↔ x ∈ M) → L = M
  | [], [], _, _, _ => rfl
  | [], m :: M, _, _, h => by have := (h m).2 (by simp); simp at this
  | l :: L, [], _, _, h => by have := (h l).1 (by simp); simp at this
  | l :: L, m :: M, h1, h2, h => by
    rw [List.pairwise_cons] at h1 h2
    have irr : ∀ x, ¬ cmpL x x < 0 := fun x => by rw [cmpL_zero.2 rfl]; omega
    have e : l = m := by
      rcases List.mem_cons.1 ((h l).1 (by simp)) with h3 | h3
      · exact h3
      · rcases List.mem_cons.1 ((h m).2 (by simp)) with h4 | h4
        · exact h4.symm
        · exact absurd (cmpL_trans (h1.1 m h4) (h2.1 l h3)) (irr l)
    subst e
    rw [up_unique h1.2 h2.2 fun x => ⟨fun hx => ?_, fun hx => ?_⟩]
    · rcases List.mem_cons.1 ((h x).1 (List.mem_cons_of_mem _ hx)) with h3 | h3
      · subst h3; exact absurd (h1.1 x hx) (irr x)
      · exact h3
    · rcases List.mem_cons.1 ((h x).2 (List.mem_cons_of_mem _ hx)) with h3 | h3
      · subst h3; exact absurd (h2.1 x hx) (irr x)
      · exact h3

/-! ### The path form -/

/-- Some line with labels of a set has a label above another. -/
def pathE (lines : List (List Int)) (S : List Int) (a b : Nat) : Prop := ∃ x ∈ lines, (∀ y ∈ x, y ∈ S) ∧ x.head? = some (a : Int) ∧ (b : Int) ∈ x.tail

/-- The arcs of a path form, in order: rising, and these alone. -/
structure PathArcs (lines : List (List Int)) (S : List Int) (A : List (List Int)) : Prop where
  up : A.Pairwise (fun x y => cmpL x y < 0)
  mem : ∀ y, y ∈ A ↔ ∃ x ∈ lines, (∀ z ∈ x, z ∈ S) ∧ ∃ a, x.head? = some a ∧ ∃ b ∈ x.tail, y = [a, b]

theorem PathArcs.unique {lines : List (List Int)} {S : List Int} {A B : List (List Int)} (h : PathArcs lines S A) (h' : PathArcs lines S B) : A = B :=
  up_unique h.up h'.up fun x => (h.mem x).trans (h'.mem x).symm

theorem PathArcs.rel {lines : List (List Int)} {S : List Int} {A : List (List Int)} (h : PathArcs lines S A) : arcE A = pathE lines S := by
  funext a b
  refine propext ((h.mem _).trans ⟨?_, ?_⟩)
  · rintro ⟨x, hx, hS, c, hc, d, hd, he⟩
    simp only [List.cons.injEq, and_true] at he
    obtain ⟨rfl, rfl⟩ := he
    exact ⟨x, hx, hS, hc, hd⟩
  · rintro ⟨x, hx, hS, hc, hd⟩
    exact ⟨x, hx, hS, _, hc, _, hd, rfl⟩

theorem PathArcs.good {R : RPr} (hR : RoGood R) {S : List Int} {A : List (List Int)} (h : PathArcs R.lines S A) : WGood ⟨R.labels, A⟩ := by
  have hm : ∀ y ∈ A, (y.length : Int) = 2 ∧ AllIn y 0 (R.labels - 1) := fun y hy => by
    obtain ⟨x, hx, _, a, ha, b, hb, rfl⟩ := (h.mem y).1 hy
    refine ⟨rfl, fun z hz => ?_⟩
    have hl := hR.up.lab x hx
    simp only [List.mem_cons, List.not_mem_nil, or_false] at hz
    rcases hz with rfl | rfl
    · exact hl _ (List.mem_of_head? ha)
    · exact hl _ (List.mem_of_mem_tail hb)
  have hl := hR.lab
  exact ⟨⟨hl.1, by show R.labels ≤ 12; omega⟩, ⟨fun y hy => (hm y hy).1, fun y hy => (hm y hy).2, fun i hi => (List.pairwise_iff_getElem.1 h.up) i (i + 1) (by have : i + 1 < A.length := hi; omega) hi (by omega)⟩⟩

/-! ### Pruning -/

def allL (n : Nat) : List Int := (List.range n).map fun a : Nat => (a : Int)
noncomputable def pruneL (R : RPr) : Nat → List Int
  | 0 => allL R.labels.toNat
  | k + 1 => flexL (pathE R.lines (pruneL R k)) R.labels.toNat

/-- Where pruning ends. -/
def PruneEnd (R : RPr) (k : Nat) : Prop := pruneL R (k + 1) = [] ∨ pruneL R (k + 1) = pruneL R k
structure PruneIs (R : RPr) (L : List (List Int)) : Prop where
  ex : ∃ k, PruneEnd R k ∧ (∀ j < k, ¬ PruneEnd R j) ∧ L = (List.range (k + 2)).map (pruneL R)
theorem PruneIs.unique {R : RPr} {L M : List (List Int)} (h : PruneIs R L) (h' : PruneIs R M) : L = M := by
  obtain ⟨k, h1, h2, rfl⟩ := h.ex
  obtain ⟨j, h3, h4, rfl⟩ := h'.ex
  rcases Nat.lt_trichotomy k j with hlt | rfl | hgt
  · exact absurd h1 (h4 k hlt)
  · rfl
  · exact absurd h3 (h2 j hgt)

/-! ### The labels of roots -/

end Go.Proofs.YtaeledhbkdakcaaGreatDoor
end

section
/- Walk problems, the program: what follows a label, what walks reach. -/
namespace Go.Proofs.YtaeledhbkdakcaaGreatDoor
open Go.GX Go.RowKit
set_option maxRecDepth 100000

structure RWk (w : World) (s : Sl) (p : WPr) : Prop where
  lab : I64 p.labels
  arcs : R w s p.arcs
theorem RWk.ext {w w' : World} {s : Sl} {p : WPr} (h : RWk w s p) (hE : Ext w w') : RWk w' s p := ⟨h.lab, h.arcs.ext hE⟩

/-- The arcs are pairs of labels. -/
theorem WGood.arc {p : WPr} (h : WGood p) {x : List Int} (hx : x ∈ p.arcs) : ∃ a b : Nat, x = [(a : Int), (b : Int)] ∧ a < p.labels.toNat ∧ b < p.labels.toNat := by
  have h1 := h.up.len x hx
  have h2 := h.up.lab x hx
  match x, h1, h2 with
  | [u, v], _, h2 =>
    have h3 := h2 u (by simp)
    have h4 := h2 v (by simp)
    exact ⟨u.toNat, v.toNat, by rw [Int.toNat_of_nonneg h3.1, Int.toNat_of_nonneg h4.1], by omega, by omega⟩
theorem WGood.rel {p : WPr} (h : WGood p) {a b : Nat} (he : arcE p.arcs a b) : a < p.labels.toNat ∧ b < p.labels.toNat := by
  obtain ⟨c, d, e, h1, h2⟩ := h.arc he
  simp only [List.cons.injEq, and_true] at e
  omega

/-! ### What walks reach -/

end Go.Proofs.YtaeledhbkdakcaaGreatDoor
end

section
/- Walk problems, the program: closure, distances, the period of a component. -/
namespace Go.Proofs.YtaeledhbkdakcaaGreatDoor
open Go.GX Go.RowKit
set_option maxRecDepth 100000

/-! ### Closure -/

end Go.Proofs.YtaeledhbkdakcaaGreatDoor
end

section
/- Walk problems, the program: distances, the period of a component. -/
namespace Go.Proofs.YtaeledhbkdakcaaGreatDoor
open Go.GX Go.RowKit
set_option maxRecDepth 100000

/-- Lengths of walks from a label, -1 where none leads. -/
structure DistOk (E : Nat → Nat → Prop) (n a : Nat) (D : List Int) : Prop where
  len : D.length = n
  val : ∀ b (h : b < D.length), D[b] = -1 ∨ ∃ k : Nat, k ≤ n ∧ D[b] = k ∧ Wk E k a b
  all : ∀ b (h : b < D.length), (∃ k, Wk E k a b) → 0 ≤ D[b]
  zero : ∀ h : a < D.length, D[a] = 0

/-- What holds when lengths below k are done, and of length k the labels of a list. -/
structure DistS (E : Nat → Nat → Prop) (n a k : Nat) (L : List Int) (D : List Int) : Prop where
  len : D.length = n
  val : ∀ b (h : b < D.length), D[b] = -1 ∨ ∃ j : Nat, j ≤ n ∧ D[b] = j ∧ Wk E j a b
  low : ∀ b (h : b < D.length), ∀ j, j < k → Wk E j a b → 0 ≤ D[b]
  cur : ∀ b (h : b < D.length), (b : Int) ∈ L → 0 ≤ D[b]
  zero : ∀ h : a < D.length, D[a] = -1 ∨ D[a] = 0

theorem DistS.I64 {E : Nat → Nat → Prop} {n a k : Nat} {L D : List Int} (h : DistS E n a k L D) (hn : n ≤ 1000) : ∀ x ∈ D, I64 x := fun x hx => by
  obtain ⟨b, hb, rfl⟩ := List.mem_iff_getElem.1 hx
  rcases h.val b hb with he | ⟨j, hj, he, _⟩
  · rw [he]; unfold GX.I64; omega
  · rw [he]; unfold GX.I64; omega
theorem DistOk.I64 {E : Nat → Nat → Prop} {n a : Nat} {D : List Int} (h : DistOk E n a D) (hn : n ≤ 1000) : ∀ x ∈ D, -1 ≤ x ∧ x ≤ n := fun x hx => by
  obtain ⟨b, hb, rfl⟩ := List.mem_iff_getElem.1 hx
  rcases h.val b hb with he | ⟨j, hj, he, _⟩
  · rw [he]; omega
  · rw [he]; omega

/-! ### The greatest common divisor -/

/-! ### The period -/

end Go.Proofs.YtaeledhbkdakcaaGreatDoor
end

section
/- A growing list of lists (of any kind) whose parts are only read: the array is the call's own, its parts lie elsewhere. -/
namespace Go.GX
open Go.RowKit
set_option maxRecDepth 100000

structure RowsR {α : Type} [RepP α] (base : Nat) (e : TypeId) (w : World) (s : Sl) (L : List (List α)) : Prop where
  ex : ∃ ss : List Sl, OwnL w base e s ss ∧ ss.length = L.length ∧ ∀ j (h1 : j < ss.length) (h2 : j < L.length), SlR (fun b => s.v.ownBlock ≠ some b) w ss[j] L[j]

section
variable {α : Type} [RepP α] {base : Nat} {e : TypeId} {w w' : World} {s : Sl} {L : List (List α)}

theorem RowsR.rep (h : RowsR base e w s L) : R w s L := by
  obtain ⟨ss, hO, hl, hr⟩ := h.ex
  exact OwnL.rows (D := fun _ => True) hO hl (fun j h1 h2 => (hr j h1 h2).any) fun _ _ => trivial
theorem RowsR.ext (h : RowsR base e w s L) (hE : Ext w w') : RowsR base e w' s L := by
  obtain ⟨ss, hO, hl, hr⟩ := h.ex
  exact ⟨ss, hO.ext hE, hl, fun j h1 h2 => (hr j h1 h2).ext hE⟩
theorem RowsR.nil (base : Nat) (e : TypeId) (w : World) : RowsR base e w ⟨none, 0, 0⟩ ([] : List (List α)) := ⟨[], OwnL.nil _ _ _, rfl, fun j h1 => by simp at h1⟩
theorem RowsR.blk (h : RowsR base e w s L) {k : Nat} (hk : s.v.ownBlock = some k) : base ≤ k ∧ k < w.heap.size := by
  obtain ⟨ss, hO, _⟩ := h.ex
  exact hO.blk k hk
theorem RowsR.low (h : RowsR base e w s L) {b : Nat} (hb : b ≤ base) : RowsR b e w s L := by
  obtain ⟨ss, hO, hl, hr⟩ := h.ex
  exact ⟨ss, hO.low hb, hl, hr⟩
/-- A list of one, its part made before the array. -/
theorem RowsR.one {b1 : Nat} {w0 : World} {r : Sl} {l : List α} (hE : Ext w0 w) (hO : OwnL w b1 e s [r]) (hb1 : w0.heap.size ≤ b1) (hb : base ≤ b1) (hR : R w0 r l) : RowsR base e w s [l] :=
  ⟨_, hO.low hb, rfl, fun j h1 h2 => by
    have hj : j = 0 := by simp at h2; omega
    subst hj
    have hk : ∀ b, True → b < w0.heap.size → s.v.ownBlock ≠ some b := fun b _ hlt he => by have := (hO.blk b he).1; omega
    exact (hR.weak hk RepP.pos).ext hE⟩

/-- What is made after w0 does not lie in an array that was there. -/
theorem RowsR.new (h : RowsR base e w s L) {w1 : World} {r : Sl} {β : Type} [RepP β] {l : List β} (hr : SlR (fun b => w.heap.size ≤ b) w1 r l) : SlR (fun b => s.v.ownBlock ≠ some b) w1 r l :=
  hr.weak (fun b hb _ he => by have := (h.blk he).2; omega) RepP.pos

/-- The same, the parts lying off some more blocks. -/
structure RowsX (X : Nat → Prop) (base : Nat) (e : TypeId) (w : World) (s : Sl) (L : List (List α)) : Prop where
  ex : ∃ ss : List Sl, OwnL w base e s ss ∧ ss.length = L.length ∧ ∀ j (h1 : j < ss.length) (h2 : j < L.length), SlR (fun b => s.v.ownBlock ≠ some b ∧ ¬ X b) w ss[j] L[j]

theorem RowsX.rep {X : Nat → Prop} (h : RowsX X base e w s L) : R w s L := by
  obtain ⟨ss, hO, hl, hr⟩ := h.ex
  exact OwnL.rows (D := fun _ => True) hO hl (fun j h1 h2 => (hr j h1 h2).any) fun _ _ => trivial
theorem RowsX.ext {X : Nat → Prop} (h : RowsX X base e w s L) (hE : Ext w w') : RowsX X base e w' s L := by
  obtain ⟨ss, hO, hl, hr⟩ := h.ex
  exact ⟨ss, hO.ext hE, hl, fun j h1 h2 => (hr j h1 h2).ext hE⟩
theorem RowsX.nil (X : Nat → Prop) (base : Nat) (e : TypeId) (w : World) : RowsX X base e w ⟨none, 0, 0⟩ ([] : List (List α)) := ⟨[], OwnL.nil _ _ _, rfl, fun j h1 => by simp at h1⟩
theorem RowsX.blk {X : Nat → Prop} (h : RowsX X base e w s L) {k : Nat} (hk : s.v.ownBlock = some k) : base ≤ k ∧ k < w.heap.size := by
  obtain ⟨ss, hO, _⟩ := h.ex
  exact hO.blk k hk
/-- Something outside the array changes. -/
theorem RowsX.chg {X X' : Nat → Prop} (h : RowsX X base e w s L) (hC : Chg w w' X) (hs : ∀ b, s.v.ownBlock = some b → ¬ X b) (hX : ∀ b, X' b → b < w.heap.size → X b) : RowsX X' base e w' s L := by
  obtain ⟨ss, hO, hl, hr⟩ := h.ex
  exact ⟨ss, hO.keep fun b hb => hC.block b (hO.blk b hb).2 (hs b hb), hl, fun j h1 h2 =>
    ((hr j h1 h2).weak (D' := fun b => (s.v.ownBlock ≠ some b ∧ ¬ X b) ∧ ¬ X' b) (fun b h3 h4 => ⟨h3, fun hx => h3.2 (hX b hx h4)⟩) RepP.pos).chg hC (fun b hb _ => hb.1.2) |>.weak (fun b hb _ => ⟨hb.1.1, hb.2⟩) RepP.pos⟩

end
end Go.GX
end

section
/- Walk problems, the program: components, flexible labels. -/
namespace Go.Proofs.YtaeledhbkdakcaaGreatDoor
open Go.GX Go.RowKit
set_option maxRecDepth 100000

/-- What is known of components and periods whose roots are some labels. -/
structure CompsIs (E : Nat → Nat → Prop) (n : Nat) (rs : List Nat) (CL : List (List Int)) (PL : List Int) : Prop where
  cl : CL = rs.map (compL E n)
  pl : PL.length = rs.length
  per : ∀ j (h1 : j < PL.length) (h2 : j < rs.length), ∃ P : Nat, PL[j] = P ∧ P ≤ 100 ∧ (P = 1 ↔ Flex E rs[j])
theorem CompsIs.I64 {E : Nat → Nat → Prop} {n : Nat} {rs : List Nat} {CL : List (List Int)} {PL : List Int} (h : CompsIs E n rs CL PL) : ∀ x ∈ PL, I64 x := fun x hx => by
  obtain ⟨j, hj, rfl⟩ := List.mem_iff_getElem.1 hx
  obtain ⟨P, he, hP, _⟩ := h.per j hj (by rw [← h.pl]; exact hj)
  rw [he]; unfold GX.I64; omega
theorem CompsIs.add {E : Nat → Nat → Prop} {n : Nat} {rs : List Nat} {CL : List (List Int)} {PL : List Int} (h : CompsIs E n rs CL PL) {a P : Nat} (hP : P ≤ 100 ∧ (P = 1 ↔ Flex E a)) : CompsIs E n (rs ++ [a]) (CL ++ [compL E n a]) (PL ++ [(P : Int)]) :=
  ⟨by rw [h.cl, List.map_append, List.map_singleton], by simp [h.pl], fun j h1 h2 => by
    have hpl := h.pl
    by_cases hj : j < rs.length
    · rw [List.getElem_append_left (by omega), List.getElem_append_left hj]
      exact h.per j _ hj
    · have : j = rs.length := by simp at h2; omega
      subst this
      refine ⟨P, ?_, hP.1, ?_⟩
      · rw [List.getElem_append_right (by omega)]; simp [hpl]
      · rw [List.getElem_append_right (by omega)]; simpa using hP.2⟩
structure CompsS (w0 : World) (E : Nat → Nat → Prop) (n a : Nat) (s6 s7 : Sl) (x8 : Int) (w : World) : Prop where
  ext : Ext w0 w
  ex : ∃ rs CL PL, Roots E a rs ∧ CompsIs E n rs CL PL ∧ RowsX (oB s7) w0.heap.size T.t_sl_int w s6 CL ∧ OwnL w w0.heap.size T.t_int s7 PL
  done : x8 = ((maskP n (fun b => ∃ r, r < a ∧ Comp E r b) : Nat) : Int)

end Go.Proofs.YtaeledhbkdakcaaGreatDoor
end

section
/- Walk problems, the reference: matrices of pairs of labels. -/
namespace Go.Proofs.YtaeledhbkdakcaaGreatDoor
open Go.GX Go.RowKit
set_option maxRecDepth 100000

abbrev OwnB (base : Nat) (w : World) (s : Sl) (L : List (List Bool)) (ss : List Sl) : Prop := RowsD w base T.t_bool T.t_sl_bool s L ss

theorem OwnB.repD {base : Nat} {w : World} {s : Sl} {L : List (List Bool)} {ss : List Sl} (h : OwnB base w s L ss) : SlR (fun b => base ≤ b) w s L := h.own2.repD fun _ _ _ _ => trivial

end Go.Proofs.YtaeledhbkdakcaaGreatDoor
end

section
/- Walk problems, the reference: powers of the relation, what walks of some length reach. -/
namespace Go.Proofs.YtaeledhbkdakcaaGreatDoor
open Go.GX Go.RowKit
set_option maxRecDepth 100000

end Go.Proofs.YtaeledhbkdakcaaGreatDoor
end
