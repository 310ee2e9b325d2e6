/- Own texts, merged: Names, VCmp, Values, V0. -/
import Derived.Test.YtndebacmnpghkaaGreatM0
import Derived.Test.YtndebacmnpghkaaGreatProg
import Derived.RangeFuncBox
import Derived.RangeFuncLeaves
import Derived.Shelf.Abstract
import Derived.WalkKit
import Derived.OwnWalkIn
import Derived.TacticsInMore
import Derived.LoopNIn
import Derived.LoopIn
set_option linter.unusedVariables false
section
/- The numbers of functions and types of this seat by their names, and of which kind a type's values are. Printed by a program. -/
namespace Go.Proofs.YtndebacmnpghkaaGreat
open Go.GX Go.RowKit

abbrev F.l_FnExactCutBound : FuncId := 6
abbrev F.l_FnExactJoinBounds : FuncId := 7
abbrev F.l_szBound : FuncId := 8
abbrev F.l_toBound : FuncId := 10
abbrev F.i_CheckBound : FuncId := 11
abbrev F.l_eqBound : FuncId := 12
abbrev F.i_BoundOf : FuncId := 14
abbrev F.l_szProblem : FuncId := 15
abbrev F.l_toProblem : FuncId := 18
abbrev F.l_eqIntSS : FuncId := 21
abbrev F.l_eqProblem : FuncId := 22
abbrev F.l_markIntSS : FuncId := 26
abbrev F.l_heldIntSS : FuncId := 27
abbrev F.s_CutBound : FuncId := 28
abbrev F.i_CutBound : FuncId := 29
abbrev F.l_markBound : FuncId := 30
abbrev F.l_heldBound : FuncId := 31
abbrev F.s_JoinBounds : FuncId := 32
abbrev F.i_JoinBounds : FuncId := 33
abbrev F.l_szProblemS : FuncId := 34
abbrev F.l_szIntSS : FuncId := 35
abbrev F.s_boTwo : FuncId := 36
abbrev F.s_boRight : FuncId := 37
abbrev F.l_toProblemS : FuncId := 38
abbrev F.l_toIntSS : FuncId := 39
abbrev F.i_problemsOk : FuncId := 40
abbrev F.i_isRightBound : FuncId := 41
abbrev F.l_eqProblemS : FuncId := 42
abbrev F.s_boGood : FuncId := 43
abbrev F.l_szIntS : FuncId := 45
abbrev F.l_toIntS : FuncId := 52
abbrev F.l_eqIntS : FuncId := 60
abbrev F.l_markIntS : FuncId := 63
abbrev F.l_heldIntS : FuncId := 64
abbrev F.s_l1In : FuncId := 65
abbrev F.s_boBuild : FuncId := 66
abbrev F.i_within : FuncId := 67
abbrev F.i_BuildBound : FuncId := 68
abbrev F.l_markProblemS : FuncId := 69
abbrev F.l_heldProblemS : FuncId := 70
abbrev F.s_prSame : FuncId := 71
abbrev F.i_sameProblem : FuncId := 72
abbrev F.slices_Concat_sl_i_Problem_i_Problem : FuncId := 73
abbrev F.s_prGood : FuncId := 74
abbrev F.s_boZero : FuncId := 75
abbrev F.s_boStep : FuncId := 76
abbrev F.slices_ContainsFunc_sl_i_Problem_i_Problem : FuncId := 77
abbrev F.i_problemsOk_1 : FuncId := 78
abbrev F.i_IsProblem : FuncId := 79
abbrev F.i_eliminate : FuncId := 80
abbrev F.i_isLabelMap : FuncId := 81
abbrev F.i_isZeroRefusal : FuncId := 82
abbrev F.s_EliminateRound : FuncId := 85
abbrev F.s_l1All : FuncId := 87
abbrev F.s_EdgeStep : FuncId := 90
abbrev F.i_copyProblem : FuncId := 95
abbrev F.s_boOwn : FuncId := 107
abbrev F.s_LabelMapBetween : FuncId := 108
abbrev F.s_RefusalOfZero : FuncId := 109
abbrev F.i_LabelMapBetween : FuncId := 110
abbrev F.i_RefusalOfZero : FuncId := 111
abbrev F.s_prSameLists : FuncId := 112
abbrev F.i_sameProblem_1 : FuncId := 113
abbrev F.slices_EqualFunc_sl_sl_int_sl_sl_int_sl_int_sl_int : FuncId := 114
abbrev F.slices_Equal_sl_int_int : FuncId := 115
abbrev F.slices_Grow_sl_i_Problem_i_Problem : FuncId := 116
abbrev F.s_prLists : FuncId := 117
abbrev F.s_CheckZeroRefusal : FuncId := 118
abbrev F.s_reMap : FuncId := 119
abbrev F.slices_IndexFunc_sl_i_Problem_i_Problem : FuncId := 120
abbrev F.i_configurationsOk : FuncId := 121
abbrev F.i_edgeStep : FuncId := 122
abbrev F.i_nodeStep : FuncId := 123
abbrev F.i_Problem_hasLabels : FuncId := 124
abbrev F.i_Problem_node : FuncId := 125
abbrev F.i_images : FuncId := 126
abbrev F.slices_ContainsFunc_sl_sl_int_sl_int : FuncId := 127
abbrev F.i_isLabelMap_1 : FuncId := 128
abbrev F.i_Problem_edge : FuncId := 129
abbrev F.slices_Contains_sl_int_int : FuncId := 130
abbrev F.s_elNode : FuncId := 132
abbrev F.s_l1Has : FuncId := 133
abbrev F.s_zeGood : FuncId := 134
abbrev F.s_l1Own : FuncId := 135
abbrev F.s_elEdge : FuncId := 136
abbrev F.s_coThrough : FuncId := 142
abbrev F.s_elChoice : FuncId := 143
abbrev F.s_elLabels : FuncId := 144
abbrev F.i_copyLists : FuncId := 146
abbrev F.slices_Clone_sl_int_int : FuncId := 147
abbrev F.slices_Sort_sl_int_int : FuncId := 148
abbrev F.i_allWithin : FuncId := 150
abbrev F.i_isGoodPair : FuncId := 152
abbrev F.i_Problem_edgeChoice : FuncId := 156
abbrev F.i_listsOf : FuncId := 157
abbrev F.s_soCopy : FuncId := 160
abbrev F.s_reTwo : FuncId := 161
abbrev F.s_reTable : FuncId := 162
abbrev F.s_reFinder_narrow : FuncId := 163
abbrev F.s_reFinder_grow : FuncId := 164
abbrev F.s_zeBad : FuncId := 165
abbrev F.i_areProblems : FuncId := 166
abbrev F.i_firstLabelMap : FuncId := 167
abbrev F.i_badPair : FuncId := 168
abbrev F.s_l1Same : FuncId := 169
abbrev F.s_prOrder : FuncId := 170
abbrev F.s_zeTwo : FuncId := 171
abbrev F.s_reInto : FuncId := 172
abbrev F.slices_IsSorted_sl_int_int : FuncId := 173
abbrev F.slices_Compare_sl_int_int : FuncId := 174
abbrev F.i_beside : FuncId := 175
abbrev F.i_newLabels : FuncId := 176
abbrev F.i_allowedBy : FuncId := 177
abbrev F.i_edgeStep_1 : FuncId := 178
abbrev F.i_Problem_nodeChoice : FuncId := 179
abbrev F.i_newNodeSets : FuncId := 180
abbrev F.ptr_i_nodeSets_fullLists : FuncId := 181
abbrev F.i_nodeStep_1 : FuncId := 182
abbrev F.i_hasConfiguration : FuncId := 183
abbrev F.slices_IndexFunc_sl_sl_int_sl_int : FuncId := 184
abbrev F.slices_Index_sl_int_int : FuncId := 185
abbrev F.s_elTabled : FuncId := 186
abbrev F.s_reChoices : FuncId := 187
abbrev F.s_elTable_rest : FuncId := 188
abbrev F.s_elTable_full : FuncId := 189
abbrev F.s_elMade : FuncId := 190
abbrev F.s_zePairs : FuncId := 191
abbrev F.s_elNear : FuncId := 192
abbrev F.s_prHas : FuncId := 196
abbrev F.s_prSorted : FuncId := 197
abbrev F.s_elHas : FuncId := 198
abbrev F.slices_ContainsFunc_sl_int_int : FuncId := 201
abbrev F.i_allWithin_1 : FuncId := 202
abbrev F.i_firstChoice : FuncId := 206
abbrev F.i_Problem_edgeChoice_1 : FuncId := 207
abbrev F.i_labelsIn : FuncId := 208
abbrev F.s_reFinder_support : FuncId := 210
abbrev F.s_prEdge : FuncId := 211
abbrev F.ptr_i_renamer_mapped : FuncId := 212
abbrev F.s_l1Sign : FuncId := 213
abbrev F.cmp_Less_int : FuncId := 214
abbrev F.cmp_Compare_int : FuncId := 215
abbrev F.slices_Concat_sl_int_int : FuncId := 216
abbrev F.slices_Compact_sl_int_int : FuncId := 217
abbrev F.slices_BinarySearch_sl_int_int : FuncId := 218
abbrev F.i_sortedLists : FuncId := 219
abbrev F.slices_DeleteFunc_sl_sl_int_sl_int : FuncId := 220
abbrev F.i_multisets : FuncId := 221
abbrev F.i_allowedBy_1 : FuncId := 222
abbrev F.i_Problem_nodeChoice_1 : FuncId := 223
abbrev F.ptr_i_nodeSets_completing : FuncId := 224
abbrev F.ptr_i_nodeSets_isFull : FuncId := 225
abbrev F.slices_BinarySearchFunc_sl_sl_int_sl_int_sl_int : FuncId := 226
abbrev F.slices_Sorted_int : FuncId := 227
abbrev F.slices_Values_sl_int_int : FuncId := 228
abbrev F.s_prNode : FuncId := 229
abbrev F.s_l1Put : FuncId := 230
abbrev F.s_prInsert : FuncId := 231
abbrev F.s_elNumbers : FuncId := 232
abbrev F.s_elSome : FuncId := 233
abbrev F.slices_IndexFunc_sl_int_int : FuncId := 245
abbrev F.i_firstChoice_1 : FuncId := 250
abbrev F.s_l1Least : FuncId := 251
abbrev F.s_l1Most : FuncId := 252
abbrev F.cmp_isNaN_int : FuncId := 253
abbrev F.slices_Grow_sl_int_int : FuncId := 254
abbrev F.slices_isNaN_int : FuncId := 255
abbrev F.slices_SortFunc_sl_sl_int_sl_int : FuncId := 256
abbrev F.slices_CompactFunc_sl_sl_int_sl_int : FuncId := 257
abbrev F.ptr_i_nodeSets_completing_1 : FuncId := 258
abbrev F.slices_Delete_sl_int_int : FuncId := 259
abbrev F.slices_Collect_int : FuncId := 260
abbrev F.slices_Values_sl_int_int_1 : FuncId := 261
abbrev F.slices_AppendSeq_sl_int_int : FuncId := 268
abbrev T.t_unit : TypeId := 0
abbrev T.t_int : TypeId := 3
abbrev T.t_bool : TypeId := 4
abbrev T.t_sl_l_Problem : TypeId := 22
abbrev T.t_sl_sl_int : TypeId := 23
abbrev T.t_l_Bound : TypeId := 25
abbrev T.t_sl_i_Problem : TypeId := 29
abbrev T.t_i_Bound : TypeId := 31
abbrev T.t_l_Problem : TypeId := 38
abbrev T.t_sl_int : TypeId := 40
abbrev T.t_i_Problem : TypeId := 47
abbrev T.t_sl_i_End : TypeId := 105
abbrev T.t_i_End : TypeId := 107
abbrev T.t_func_int_bool : TypeId := 115
abbrev T.t_sl_sl_i_Problem : TypeId := 125
abbrev T.t_func_sl_int_bool : TypeId := 133
abbrev T.t_sl_bool : TypeId := 147
abbrev T.t_s_reFinder : TypeId := 150
abbrev T.t_i_renamer : TypeId := 157
abbrev T.t_ptr_i_nodeSets : TypeId := 166
abbrev T.t_s_elTable : TypeId := 172
abbrev T.t_i_nodeSets : TypeId := 196
abbrev T.t_func_int_int_int_1 : TypeId := 225
def hints0 : List (List Sh) := [
  [],
  [.at .val],
  [.at (.int .i64)],
  [.at (.int .i64)],
  [.at .bool],
  [.at (.int .u8)],
  [.at (.int .u8)],
  [.agg [.int .i64, .int .i64, .bool, .int .u8]],
  [.agg [.int .i64, .int .i64, .bool, .int .u8]],
  [.at .str],
  [.at .str],
  [.at .str],
  [.at (.int .u64)],
  [.agg [.str, .int .u64]],
  [.agg [.str, .int .u64]],
  [.at .ptr]]
def hints1 : List (List Sh) := [
  [.at .ptr],
  [.at .ptr],
  [.agg [.ptr]],
  [.agg [.ptr]],
  [.at .val],
  [.at (.int .i32)],
  [.at .sl],
  [.at .sl],
  [.agg [.sl, .sl, .sl]],
  [.agg [.sl, .sl, .sl]],
  [.at .val],
  [.at .bool, .at .bool],
  [.at .val],
  [.at .sl],
  [.agg [.sl, .sl, .sl]],
  [.agg [.sl, .sl, .sl]]]
def hints2 : List (List Sh) := [
  [.at .val],
  [.at .val],
  [.at .val],
  [.at (.int .i64), .at .bool],
  [.at .val],
  [.agg [.int .i64, .int .i64, .sl, .sl]],
  [.agg [.int .i64, .int .i64, .sl, .sl]],
  [.at .sl],
  [.at .sl],
  [.agg [.sl, .sl, .sl]],
  [.agg [.sl, .sl, .sl]],
  [.at .val],
  [.at .val],
  [.at .sl, .at .bool],
  [.at .val],
  [.agg [.int .i64, .int .i64, .sl, .sl]]]
def hints3 : List (List Sh) := [
  [.at .val],
  [.at .sl],
  [.agg [.sl, .sl, .sl]],
  [.agg [.sl, .sl, .sl]],
  [.at .val],
  [.at .val],
  [.at .val],
  [.at .val],
  [.at .val],
  [.at .val],
  [.at .val],
  [.at .val],
  [.agg [.sl, .sl, .sl], .at .bool],
  [.at .val],
  [.at .val],
  [.at .val]]
def hints4 : List (List Sh) := [
  [.at .val],
  [.at .val],
  [.at .val],
  [.at .val],
  [.at .val],
  [.at .val],
  [.at .val],
  [.at .val],
  [.at .val],
  [.at .val],
  [.at .sl, .at .bool],
  [.at .val],
  [.at .val],
  [.at .val],
  [.at .val],
  [.at .val]]
def hints5 : List (List Sh) := [
  [.at .val],
  [.at .val],
  [.at .sl],
  [.agg [.int .i64, .int .i64, .int .i64, .int .i64]],
  [.agg [.int .i64, .int .i64, .int .i64, .int .i64]],
  [.at .val],
  [.at .val],
  [.at .val],
  [.at .val],
  [.at .val],
  [.at .val],
  [.at .val],
  [.at .val],
  [.at .val],
  [.at .val],
  [.at .val]]
def hints6 : List (List Sh) := [
  [.at .val],
  [.at .val],
  [.at .val],
  [.agg [.int .i64, .int .i64, .sl, .sl], .at .sl, .at .sl, .at .bool],
  [.at .val],
  [.at .val],
  [.at .sl],
  [.at .val],
  [.at .val],
  [.at .sl],
  [.agg [.int .i64, .int .i64]],
  [.agg [.int .i64, .int .i64]],
  [.at .sl, .at .bool],
  [.at .val],
  [.at .val],
  [.agg [.int .i64, .int .i64, .sl, .sl], .at .sl, .at .bool]]
def hints7 : List (List Sh) := [
  [.at .val],
  [.at .val],
  [.at .val],
  [.at .val],
  [.at .val],
  [.at .val],
  [.at .val],
  [.at .val],
  [.at .val],
  [.at .val],
  [.at .val],
  [.at .val],
  [.at .val],
  [.at .sl],
  [.at .val],
  [.at .val]]
def hints8 : List (List Sh) := [
  [.at .val],
  [.at .val],
  [.at .val],
  [.at .val],
  [.at .val],
  [.at .val],
  [.at .val],
  [.at .val],
  [.at .val],
  [.at .val],
  [.at .val],
  [.at .val],
  [.agg [.int .i64, .int .i64]],
  [.at .val],
  [.at .val],
  [.at .val]]
def hints9 : List (List Sh) := [
  [.at .val],
  [.at .val],
  [.at .val],
  [.at .sl],
  [.at .val],
  [.agg [.int .i64, .int .i64, .sl, .sl, .int .i64, .int .i64, .sl, .sl, .sl, .sl]],
  [.agg [.int .i64, .int .i64, .sl, .sl, .int .i64, .int .i64, .sl, .sl, .sl, .sl]],
  [.at .val],
  [.at .val],
  [.at (.int .i64), .at (.int .i64), .at .bool],
  [.at .val],
  [.at .ptr],
  [.agg [.int .i64, .int .i64, .sl, .sl, .int .i64, .int .i64, .sl, .sl, .sl]],
  [.agg [.int .i64, .int .i64, .sl, .sl, .int .i64, .int .i64, .sl, .sl, .sl]],
  [.at .val],
  [.at .val]]
def hints10 : List (List Sh) := [
  [.at .val],
  [.at .val],
  [.at .val],
  [.at .sl, .at .sl],
  [.at .val],
  [.at .val],
  [.at .ptr],
  [.at .val],
  [.at .val],
  [.at .val],
  [.at .val],
  [.agg [.int .i64, .int .i64, .sl, .sl, .sl]],
  [.agg [.int .i64, .int .i64, .sl, .sl, .sl]],
  [.at .val],
  [.at .val],
  [.at .val]]
def hints11 : List (List Sh) := [
  [.at (.int .i64), .at (.int .i64)],
  [.at .val],
  [.at .val],
  [.at .val],
  [.at .val],
  [.at .val],
  [.at (.int .u64)],
  [.at .val],
  [.at (.int .u64), .at (.int .u64)],
  [.at .val],
  [.at .val],
  [.at .val],
  [.at .val],
  [.at .val],
  [.at .val],
  [.at .val]]
def hints12 : List (List Sh) := [
  [.at .val],
  [.at .val],
  [.at .val],
  [.agg [.int .i64, .int .i64, .sl, .sl, .sl]],
  [.agg [.int .i64, .int .i64, .sl, .sl, .sl]],
  [.at .val],
  [.at .val],
  [.at .val],
  [.at .val],
  [.at .val],
  [.at .val],
  [.at .val],
  [.at .val],
  [.at .val],
  [.at .val],
  [.at .val]]
def hints13 : List (List Sh) := [
  [.at (.int .i64)],
  [.at (.int .i64), .at (.int .i64)],
  [.at .val],
  [.at .val],
  [.at .val],
  [.at .val],
  [.at (.int .u32)],
  [.at .val],
  [.at (.int .u64)],
  [.at .val],
  [.at (.int .u32), .at (.int .u32)],
  [.at .val],
  [.at (.int .u64), .at (.int .u64)],
  [.at .val],
  [.at .val],
  [.at .val]]
def hints14 : List (List Sh) := [
  [.at .val],
  [.at .val],
  [.at .val],
  [.at (.int .u64)],
  [.at .val],
  [.at .val],
  [.at .val],
  [.at .ptr],
  [.at .val],
  [.at .val],
  [.at .val],
  [.at .ptr],
  [.at .val],
  [.at .val],
  [.at .val],
  [.at .val]]
def hints15 : List (List Sh) := [
  [.at .val],
  [.at .val],
  [.at .val],
  [.at .val],
  [.at .val],
  [.at .val],
  [.agg [.ptr, .ptr, .ptr, .str]],
  [.agg [.ptr, .ptr, .ptr, .str]],
  [.agg []],
  [.agg []],
  [.agg []],
  [.at .val],
  [.at (.int .u8)],
  [.at (.int .u8)],
  [.at .val],
  [.at .ptr]]
def hints16 : List (List Sh) := [
  [.at (.int .i32)],
  [.at (.int .i32)],
  [.agg [.int .u64, .int .u64, .int .u32, .int .u8, .int .u8, .int .u8, .int .u8, .val, .ptr, .int .i32, .int .i32]],
  [.agg [.int .u64, .int .u64, .int .u32, .int .u8, .int .u8, .int .u8, .int .u8, .val, .ptr, .int .i32, .int .i32]],
  [.at .ptr]]
def hint : Hint := hintOf [hints0, hints1, hints2, hints3, hints4, hints5, hints6, hints7, hints8, hints9, hints10, hints11, hints12, hints13, hints14, hints15, hints16]
end Go.Proofs.YtndebacmnpghkaaGreat
end

section
/- What the code of the comparison of integers computes to. Printed by a program. -/
namespace Go.Proofs.YtndebacmnpghkaaGreat
open Go.GX Go.RowKit
set_option linter.unusedVariables false
set_option maxRecDepth 100000

def V_cmp_Less_int (Q : Bool → World → Prop) (x : Int) (y : Int) (w : World) : Prop :=
  Calls Tryz.prog F.cmp_isNaN_int #[.int .i64 x] w (Ret [.at .bool] fun (x6 : Bool) w1 =>
  cond x6 (
  Calls Tryz.prog F.cmp_isNaN_int #[.int .i64 y] w1 (Ret [.at .bool] fun (x9 : Bool) w2 =>
  cond (!x9) (
  Q true w2) (
  Q (decide ((x : Int) < y)) w2))) (
  Q (decide ((x : Int) < y)) w1))

theorem C_cmp_Less_int {Q : Bool → World → Prop} {x : Int} {y : Int} {w : World} (h : V_cmp_Less_int Q x y w) : Calls Tryz.prog F.cmp_Less_int #[.int .i64 x, .int .i64 y] w (Ret [.at .bool] Q) :=
  mkC (hint := hint) (ann := annOf []) (args := [.int .i64 x, .int .i64 y]) (rs := [.at .bool]) Tryz.func214 (by kernel_rfl) (by kernel_rfl) h

def V_cmp_Compare_int (Q : Int → World → Prop) (x : Int) (y : Int) (w : World) : Prop :=
  Calls Tryz.prog F.cmp_isNaN_int #[.int .i64 x] w (Ret [.at .bool] fun (x8 : Bool) w1 =>
  Calls Tryz.prog F.cmp_isNaN_int #[.int .i64 y] w1 (Ret [.at .bool] fun (x10 : Bool) w2 =>
  cond x8 (
  cond x10 (
  Q 0 w2) (
  Q (-1) w2)) (
  cond x10 (
  Q 1 w2) (
  cond (decide ((x : Int) < y)) (
  Q (-1) w2) (
  cond (decide ((x : Int) > y)) (
  Q 1 w2) (
  Q 0 w2))))))

theorem C_cmp_Compare_int {Q : Int → World → Prop} {x : Int} {y : Int} {w : World} (h : V_cmp_Compare_int Q x y w) : Calls Tryz.prog F.cmp_Compare_int #[.int .i64 x, .int .i64 y] w (Ret [.at (.int .i64)] Q) :=
  mkC (hint := hint) (ann := annOf []) (args := [.int .i64 x, .int .i64 y]) (rs := [.at (.int .i64)]) Tryz.func215 (by kernel_rfl) (by kernel_rfl) h

def V_cmp_isNaN_int (Q : Bool → World → Prop) (x : Int) (w : World) : Prop :=
  Q ((x : Int) != x) w

theorem C_cmp_isNaN_int {Q : Bool → World → Prop} {x : Int} {w : World} (h : V_cmp_isNaN_int Q x w) : Calls Tryz.prog F.cmp_isNaN_int #[.int .i64 x] w (Ret [.at .bool] Q) :=
  mkC (hint := hint) (ann := annOf []) (args := [.int .i64 x]) (rs := [.at .bool]) Tryz.func253 (by kernel_rfl) (by kernel_rfl) h

end Go.Proofs.YtndebacmnpghkaaGreat
end

section
/- slices.Values at []int: its closure calls yield for each element; turned from the kit's worked text on the library's two iterators over a slice. -/
namespace Go.Proofs.YtndebacmnpghkaaGreat
open Go Go.RowKit Go.Shelf Go.Proofs

attribute [local go_sem] Oper.semAt_some

/-- What has come when k rounds are over. -/
def upto {α : Type} (f : Nat → α) (k : Nat) : List α := (List.range k).map f
theorem upto_succ {α : Type} (f : Nat → α) (k : Nat) : upto f (k + 1) = upto f k ++ [f k] := by simp [upto, List.range_succ]
theorem upto_length {α : Type} (f : Nat → α) (k : Nat) : (upto f k).length = k := by simp [upto]
theorem upto_all (zs : List Int) : upto (fun j => zs[j]?.getD 0) zs.length = zs := by
  apply List.ext_getElem
  · simp [upto]
  · intro i h1 h2
    simp [upto, h2]
theorem upto_take (zs : List Int) {k : Nat} (hk : k ≤ zs.length) : upto (fun j => zs[j]?.getD 0) k = zs.take k := by
  apply List.ext_getElem
  · simp [upto, hk]
  · intro i h1 h2
    have : i < zs.length := by simp [upto] at h1; omega
    simp [upto, this]

theorem add_block (ad : Addr) (k : Nat) : (ad.add k).block = ad.block := by unfold Addr.add; split <;> rfl

set_option maxRecDepth 100000 in
set_option maxHeartbeats 2000000 in
theorem values1_in (Fe : Fence) (n : Nat) (h7 : Fe.fn 261) (hro : Fe.round = none) (hn : 1 ≤ n) (l Bs n₀ len cap : Nat) (ad : Addr) (zs : List Int) (hreach : len * 8 ≤ 140737488351232) (hb : 0 < len → ad.block < n₀) (J Jx : List Int → World → Prop)
    (hY : ∀ pre x W, J pre W → pre.length < len → YieldAt Fe (n - 1) Tryz.prog l #[.int .i64 x] W fun e W' =>
      (e = .returned (.bool true) ∧ J (pre ++ [x]) W' ∧ Below n₀ W W') ∨ (e = .returned (.bool false) ∧ Jx (pre ++ [x]) W'))
    (W : World) (hBs : W.cell? ⟨Bs, 0, none⟩ = some (.slice (some ad) len cap)) (hc : ∀ j, j < len → W.cell? (ad.add j) = some (.int .i64 (zs[j]?.getD 0))) (h0 : J [] W) :
    CallsIn Fe n Tryz.prog 261 #[.func (.yield l) #[] #[], .pointer (some ⟨Bs, 0, none⟩)] W fun e W' => (∃ v, e = .returned v) ∧
      ((∃ ys, ys = upto (fun j => zs[j]?.getD 0) len ∧ J ys W') ∨ (∃ pre, (∃ k, k ≤ len ∧ pre = upto (fun j => zs[j]?.getD 0) k) ∧ Jx pre W')) := by
  refine callsIn_of_wp Tryz.func261 rfl h7 ?_ hro
  simp only [Tryz.ntmps261, List.size_toArray, List.length_cons, List.length_nil, Nat.reduceAdd, Nat.reduceSub, Array.replicate_succ, Array.replicate_zero, List.push_toArray, List.append_toArray, List.nil_append, List.cons_append]
  gi_wp2
  gi_loopw [7] (fun i wr => ∃ k : Nat, k ≤ len ∧ i = .int .i64 k ∧ J (upto (fun j => zs[j]?.getD 0) k) wr ∧ Below n₀ W wr)
    (fun i _ => len - (intOf i).toNat)
  case atStart => exact ⟨0, Nat.zero_le _, rfl, h0, Below.refl _ _⟩
  case round =>
    obtain ⟨k, hk, rfl, hJs, hnx⟩ := hrel
    have hcx : k < len → wr.cell? (ad.add k) = some (.int .i64 (zs[k]?.getD 0)) := fun h => (hnx.cell (p := ad.add k) (by rw [add_block]; exact hb (by omega))).trans (hc k h)
    by_cases hlt : k < len
    · obtain ⟨fn, tmps, assign, body, hy, hR⟩ := hY _ (zs[k]?.getD 0) wr hJs (by rw [upto_length]; exact hlt)
      have hcx' := hcx hlt
      gi_wp2
      refine hR.mono ?_
      rintro e W3 (⟨rfl, hJ3, hk3⟩ | ⟨rfl, hJx3⟩)
      · gi_wp2
        go_roundw
        case rel => exact ⟨k + 1, by omega, by simp, by rw [upto_succ]; exact hJ3, hnx.trans hk3⟩
        case measure => simp [intOf]; omega
      · gi_wp2
        refine bodyPost_ret (results_none rfl _ _ _) rfl ?_
        exact ⟨⟨_, rfl⟩, .inr ⟨_, ⟨k + 1, by omega, (upto_succ _ _).symm⟩, hJx3⟩⟩
    · obtain rfl : k = len := by omega
      gi_wp2
      go_end0
      exact ⟨⟨_, rfl⟩, .inl ⟨_, rfl, hJs⟩⟩

/-- The slice value sv holds the ints zs, in a block below n₀; or it is nil and there are none. -/
def IntsIn (n₀ : Nat) (W : World) (sv : Value) (zs : List Int) : Prop :=
  (∃ cap, sv = .slice none 0 cap ∧ zs = []) ∨ ∃ ad cap, sv = .slice (some ad) zs.length cap ∧ (0 < zs.length → ad.block < n₀) ∧ ∀ j, j < zs.length → W.cell? (ad.add j) = some (.int .i64 (zs[j]?.getD 0))
theorem IntsIn.below {n₀ : Nat} {A B : World} (h : Below n₀ A B) {sv : Value} {zs : List Int} : IntsIn n₀ A sv zs → IntsIn n₀ B sv zs
  | .inl e => .inl e
  | .inr ⟨ad, cap, e, hb, hc⟩ => .inr ⟨ad, cap, e, hb, fun j hj => (h.cell (p := ad.add j) (by rw [add_block]; exact hb (by omega))).trans (hc j hj)⟩

set_option maxRecDepth 100000 in
set_option maxHeartbeats 1000000 in
theorem values1_nil_in (Fe : Fence) (n : Nat) (h7 : Fe.fn 261) (hro : Fe.round = none) (l Bs cap : Nat) (J : List Int → World → Prop) (W : World) (hBs : W.cell? ⟨Bs, 0, none⟩ = some (.slice none 0 cap)) (h0 : J [] W) :
    CallsIn Fe n Tryz.prog 261 #[.func (.yield l) #[] #[], .pointer (some ⟨Bs, 0, none⟩)] W fun e W' => (∃ v, e = .returned v) ∧ J [] W' := by
  refine callsIn_of_wp Tryz.func261 rfl h7 ?_ hro
  simp only [Tryz.ntmps261, List.size_toArray, List.length_cons, List.length_nil, Nat.reduceAdd, Nat.reduceSub, Array.replicate_succ, Array.replicate_zero, List.push_toArray, List.append_toArray, List.nil_append, List.cons_append]
  gi_wp2
  gi_loopw [7] (fun i wr => i = .int .i64 0 ∧ J [] wr) (fun _ _ => 0)
  case atStart => exact ⟨rfl, h0⟩
  case round =>
    obtain ⟨rfl, hJs⟩ := hrel
    gi_wp2
    go_end0
    exact ⟨⟨_, rfl⟩, hJs⟩

theorem values_stops (Fe : Fence) (n : Nat) (h7 : Fe.fn 261) (hro : Fe.round = none) (hn : 1 ≤ n) (Bs n₀ : Nat) (sv : Value) (zs : List Int) (hreach : zs.length * 8 ≤ 140737488351232) (w : World) (hBs : Bs < w.heap.size) (hn₀ : n₀ ≤ w.heap.size)
    (hc : w.cell? ⟨Bs, 0, none⟩ = some sv) (hI : IntsIn n₀ w sv zs) :
    SeqStopsK Fe n Tryz.prog 261 #[.pointer (some ⟨Bs, 0, none⟩)] (fun x : Int => #[Value.int .i64 x]) (Below n₀) (fun ys => ys = zs) (fun pre => pre <+: zs) zs.length w := fun l J Jx W hW _ _ hY h0 => by
  have hc' := (hW.cell (p := ⟨Bs, 0, none⟩) hBs).trans hc
  rcases hI.below (hW.mono hn₀) with ⟨cap, rfl, rfl⟩ | ⟨ad, cap, rfl, hb, hcs⟩
  · exact (values1_nil_in Fe n h7 hro l Bs cap J W hc' h0).mono fun e W' ⟨he, hj⟩ => ⟨he, .inl ⟨_, rfl, hj⟩⟩
  · refine (values1_in Fe n h7 hro hn l Bs n₀ zs.length cap ad zs hreach hb J Jx hY W hc' hcs h0).mono ?_
    rintro e W' ⟨he, ⟨ys, rfl, hj⟩ | ⟨pre, ⟨k, hk, rfl⟩, hj⟩⟩
    · exact ⟨he, .inl ⟨_, upto_all zs, hj⟩⟩
    · exact ⟨he, .inr ⟨_, by rw [upto_take zs hk]; exact List.take_prefix _ _, hj⟩⟩

end Go.Proofs.YtndebacmnpghkaaGreat
end

section
/- What each function's code computes to. Printed by a program. -/
namespace Go.Proofs.YtndebacmnpghkaaGreat
open Go.GX Go.RowKit
set_option linter.unusedVariables false
set_option maxRecDepth 100000

def V_l_FnExactCutBound_k5 (x1 : Int) (Q : Bool → World → Prop) (px2 : Addr) (x25_1 : Bool) (px6 : Addr) (px9 : Addr) (w20 : World) : Prop :=
  LD [.sl, .sl, .sl] px9 w20 fun (x66_0 : Sl) (x66_1 : Sl) (x66_2 : Sl) =>
  Calls Tryz.prog F.l_markBound #[.agg #[x66_0.v, x66_1.v, x66_2.v], .int .i64 1] w20 (Ret [.at (.int .i64)] fun (x68 : Int) w21 =>
  LD [.sl, .sl, .sl] px9 w21 fun (x69_0 : Sl) (x69_1 : Sl) (x69_2 : Sl) =>
  Calls Tryz.prog F.l_heldBound #[.agg #[x69_0.v, x69_1.v, x69_2.v], .int .i64 1] w21 (Ret [.at (.int .i64)] fun (x71 : Int) w22 =>
  cond (decide ((x71 : Int) < 0)) (
  Q false w22) (
  cond ((x71 : Int) != x68) (
  Q false w22) (
  LD [.sl, .sl, .sl] px2 w22 fun (x78_0 : Sl) (x78_1 : Sl) (x78_2 : Sl) =>
  Calls Tryz.prog F.l_toBound #[.agg #[x78_0.v, x78_1.v, x78_2.v]] w22 (Ret [.agg [.sl, .sl, .sl]] fun (x79_0 : Sl) (x79_1 : Sl) (x79_2 : Sl) w23 =>
  Calls Tryz.prog F.i_CutBound #[.agg #[x79_0.v, x79_1.v, x79_2.v], .int .i64 x1] w23 (Ret [.agg [.sl, .sl, .sl], .at .bool] fun (x81_0_0 : Sl) (x81_0_1 : Sl) (x81_0_2 : Sl) (x81_1 : Bool) w24 =>
  NEW T.t_i_Bound #[.slice none 0 0, .slice none 0 0, .slice none 0 0] w24 fun (px14 : Addr) w25 =>
  ST px14 0 [x81_0_0.v, x81_0_1.v, x81_0_2.v] w25 fun w26 =>
  LD [.sl, .sl, .sl] px14 w26 fun (x84_0 : Sl) (x84_1 : Sl) (x84_2 : Sl) =>
  LD [.sl, .sl, .sl] px6 w26 fun (x85_0 : Sl) (x85_1 : Sl) (x85_2 : Sl) =>
  Calls Tryz.prog F.l_eqBound #[.agg #[x84_0.v, x84_1.v, x84_2.v], .agg #[x85_0.v, x85_1.v, x85_2.v]] w26 (Ret [.at .bool] fun (x86 : Bool) w27 =>
  cond (!x86) (
  Q false w27) (
  cond (!(x81_1 == x25_1)) (
  Q false w27) (
  LD [.sl, .sl, .sl] px9 w27 fun (x93_0_2 : Sl) (x93_1_2 : Sl) (x93_2_2 : Sl) =>
  Calls Tryz.prog F.l_heldBound #[.agg #[x93_0_2.v, x93_1_2.v, x93_2_2.v], .int .i64 1] w27 (Ret [.at (.int .i64)] fun (x95_2 : Int) w29 =>
  cond (decide ((x95_2 : Int) < 0)) (
  Q false w29) (
  cond ((x95_2 : Int) != x68) (
  Q false w29) (
  Q true w29))))))))))))

def V_l_FnExactCutBound_k2 (x1 : Int) (Q : Bool → World → Prop) (px2 : Addr) (x25_1 : Bool) (px6 : Addr) (px8 : Addr) (x33_1 : Bool) (px9 : Addr) (w14 : World) : Prop :=
  ∀ w15, Ext w14 w15 → w15.heap = w14.heap →
  LD [.sl, .sl, .sl] px8 w15 fun (x45_0 : Sl) (x45_1 : Sl) (x45_2 : Sl) =>
  LD [.sl, .sl, .sl] px2 w15 fun (x46_0 : Sl) (x46_1 : Sl) (x46_2 : Sl) =>
  Ext w15 w15 ∧ (
  Calls Tryz.prog F.l_toBound #[.agg #[x46_0.v, x46_1.v, x46_2.v]] w15 (Ret [.agg [.sl, .sl, .sl]] fun (x47_0 : Sl) (x47_1 : Sl) (x47_2 : Sl) w16 =>
  Ext w15 w16 ∧ (
  Calls Tryz.prog F.l_eqBound #[.agg #[x45_0.v, x45_1.v, x45_2.v], .agg #[x47_0.v, x47_1.v, x47_2.v]] w16 (Ret [.at .bool] fun (x48 : Bool) w17 =>
  Ext w15 w17 ∧ (
  cond (!x48) (
  Q false w17) (
  LD [.sl, .sl, .sl] px8 w17 fun (x50_0 : Sl) (x50_1 : Sl) (x50_2 : Sl) =>
  Calls Tryz.prog F.l_markBound #[.agg #[x50_0.v, x50_1.v, x50_2.v], .int .i64 1] w17 (Ret [.at (.int .i64)] fun (x52 : Int) w18 =>
  cond (decide ((x52 : Int) < 0)) (
  Q false w18) (
  LD [.sl, .sl, .sl] px9 w18 fun (x56_0 : Sl) (x56_1 : Sl) (x56_2 : Sl) =>
  LD [.sl, .sl, .sl] px6 w18 fun (x57_0 : Sl) (x57_1 : Sl) (x57_2 : Sl) =>
  Calls Tryz.prog F.l_eqBound #[.agg #[x56_0.v, x56_1.v, x56_2.v], .agg #[x57_0.v, x57_1.v, x57_2.v]] w18 (Ret [.at .bool] fun (x58 : Bool) w19 =>
  cond (!x58) (
  Q false w19) (
  cond (!(x33_1 == x25_1)) (
  Q false w19) (
  V_l_FnExactCutBound_k5 x1 Q px2 x25_1 px6 px9 w19)))))))))))

def V_l_FnExactCutBound (Q : Bool → World → Prop) (x0_0 : Sl) (x0_1 : Sl) (x0_2 : Sl) (x1 : Int) (w : World) : Prop :=
  NEW T.t_l_Bound #[x0_0.v, x0_1.v, x0_2.v] w fun (px2 : Addr) w1 =>
  LD [.sl, .sl, .sl] px2 w1 fun (x16_0 : Sl) (x16_1 : Sl) (x16_2 : Sl) =>
  Calls Tryz.prog F.l_szBound #[.agg #[x16_0.v, x16_1.v, x16_2.v], .int .i64 1048576] w1 (Ret [.at (.int .i64)] fun (x18 : Int) w2 =>
  cond (decide ((x18 : Int) < 0)) (
  Q true w2) (
  LD [.sl, .sl, .sl] px2 w2 fun (x22_0 : Sl) (x22_1 : Sl) (x22_2 : Sl) =>
  Calls Tryz.prog F.l_toBound #[.agg #[x22_0.v, x22_1.v, x22_2.v]] w2 (Ret [.agg [.sl, .sl, .sl]] fun (x23_0 : Sl) (x23_1 : Sl) (x23_2 : Sl) w3 =>
  Calls Tryz.prog F.s_CutBound #[.agg #[x23_0.v, x23_1.v, x23_2.v], .int .i64 x1] w3 (Ret [.agg [.sl, .sl, .sl], .at .bool] fun (x25_0_0 : Sl) (x25_0_1 : Sl) (x25_0_2 : Sl) (x25_1 : Bool) w4 =>
  NEW T.t_i_Bound #[.slice none 0 0, .slice none 0 0, .slice none 0 0] w4 fun (px6 : Addr) w5 =>
  ST px6 0 [x25_0_0.v, x25_0_1.v, x25_0_2.v] w5 fun w6 =>
  LD [.sl, .sl, .sl] px2 w6 fun (x28_0 : Sl) (x28_1 : Sl) (x28_2 : Sl) =>
  Calls Tryz.prog F.l_toBound #[.agg #[x28_0.v, x28_1.v, x28_2.v]] w6 (Ret [.agg [.sl, .sl, .sl]] fun (x29_0 : Sl) (x29_1 : Sl) (x29_2 : Sl) w7 =>
  NEW T.t_i_Bound #[.slice none 0 0, .slice none 0 0, .slice none 0 0] w7 fun (px8 : Addr) w8 =>
  ST px8 0 [x29_0.v, x29_1.v, x29_2.v] w8 fun w9 =>
  LD [.sl, .sl, .sl] px8 w9 fun (x31_0 : Sl) (x31_1 : Sl) (x31_2 : Sl) =>
  Calls Tryz.prog F.i_CutBound #[.agg #[x31_0.v, x31_1.v, x31_2.v], .int .i64 x1] w9 (Ret [.agg [.sl, .sl, .sl], .at .bool] fun (x33_0_0 : Sl) (x33_0_1 : Sl) (x33_0_2 : Sl) (x33_1 : Bool) w10 =>
  NEW T.t_i_Bound #[.slice none 0 0, .slice none 0 0, .slice none 0 0] w10 fun (px9 : Addr) w11 =>
  ST px9 0 [x33_0_0.v, x33_0_1.v, x33_0_2.v] w11 fun w12 =>
  LD [.sl, .sl, .sl] px9 w12 fun (x36_0 : Sl) (x36_1 : Sl) (x36_2 : Sl) =>
  LD [.sl, .sl, .sl] px6 w12 fun (x37_0 : Sl) (x37_1 : Sl) (x37_2 : Sl) =>
  Calls Tryz.prog F.l_eqBound #[.agg #[x36_0.v, x36_1.v, x36_2.v], .agg #[x37_0.v, x37_1.v, x37_2.v]] w12 (Ret [.at .bool] fun (x38 : Bool) w13 =>
  cond (!x38) (
  Q false w13) (
  cond (!(x33_1 == x25_1)) (
  Q false w13) (
  V_l_FnExactCutBound_k2 x1 Q px2 x25_1 px6 px8 x33_1 px9 w13)))))))))

theorem C_l_FnExactCutBound {Q : Bool → World → Prop} {x0_0 : Sl} {x0_1 : Sl} {x0_2 : Sl} {x1 : Int} {w : World} (h : V_l_FnExactCutBound Q x0_0 x0_1 x0_2 x1 w) : Calls Tryz.prog F.l_FnExactCutBound #[.agg #[x0_0.v, x0_1.v, x0_2.v], .int .i64 x1] w (Ret [.at .bool] Q) :=
  mkC (hint := hint) (ann := annOf []) (args := [.agg #[x0_0.v, x0_1.v, x0_2.v], .int .i64 x1]) (rs := [.at .bool]) Tryz.func6 (by kernel_rfl) (by kernel_rfl) h

def V_l_FnExactJoinBounds_k12 (Q : Bool → World → Prop) (x6 : Addr) (x7 : Bool) (px10 : Addr) (x85 : Int) (x15 : Addr) (x16 : Bool) (w65 : World) : Prop :=
  LD [.sl, .sl, .sl] x15 w65 fun (x102_0 : Sl) (x102_1 : Sl) (x102_2 : Sl) =>
  LD [.sl, .sl, .sl] x6 w65 fun (x103_0 : Sl) (x103_1 : Sl) (x103_2 : Sl) =>
  Calls Tryz.prog F.l_eqBound #[.agg #[x102_0.v, x102_1.v, x102_2.v], .agg #[x103_0.v, x103_1.v, x103_2.v]] w65 (Ret [.at .bool] fun (x104 : Bool) w66 =>
  cond (!x104) (
  Q false w66) (
  cond (!(x16 == x7)) (
  Q false w66) (
  LD [.sl, .sl, .sl] px10 w66 fun (x111_0_2 : Sl) (x111_1_2 : Sl) (x111_2_2 : Sl) =>
  Calls Tryz.prog F.l_heldBound #[.agg #[x111_0_2.v, x111_1_2.v, x111_2_2.v], .int .i64 1] w66 (Ret [.at (.int .i64)] fun (x113_2 : Int) w68 =>
  cond (decide ((x113_2 : Int) < 0)) (
  Q false w68) (
  cond ((x113_2 : Int) != x85) (
  Q false w68) (
  Q true w68))))))

def V_l_FnExactJoinBounds_k8 (Q : Bool → World → Prop) (px2 : Addr) (px3 : Addr) (x6 : Addr) (x7 : Bool) (px10 : Addr) (w44 : World) : Prop :=
  LD [.sl, .sl, .sl] px10 w44 fun (x83_0 : Sl) (x83_1 : Sl) (x83_2 : Sl) =>
  Calls Tryz.prog F.l_markBound #[.agg #[x83_0.v, x83_1.v, x83_2.v], .int .i64 1] w44 (Ret [.at (.int .i64)] fun (x85 : Int) w45 =>
  LD [.sl, .sl, .sl] px10 w45 fun (x86_0 : Sl) (x86_1 : Sl) (x86_2 : Sl) =>
  Calls Tryz.prog F.l_heldBound #[.agg #[x86_0.v, x86_1.v, x86_2.v], .int .i64 1] w45 (Ret [.at (.int .i64)] fun (x88 : Int) w46 =>
  cond (decide ((x88 : Int) < 0)) (
  Q false w46) (
  cond ((x88 : Int) != x85) (
  Q false w46) (
  ∀ w47, Ext w46 w47 → w47.heap = w46.heap → ∃ (D47 : Nat → Prop),
  ¬ D47 px2.block ∧ (
  LD [.sl, .sl, .sl] px2 w47 fun (x95_0 : Sl) (x95_1 : Sl) (x95_2 : Sl) =>
  ¬ D47 px3.block ∧ (
  LD [.sl, .sl, .sl] px3 w47 fun (x97_0 : Sl) (x97_1 : Sl) (x97_2 : Sl) =>
  (
  Calls Tryz.prog F.l_toBound #[.agg #[x95_0.v, x95_1.v, x95_2.v]] w47 (Ret [.agg [.sl, .sl, .sl]] fun (x96_0 : Sl) (x96_1 : Sl) (x96_2 : Sl) w48 =>
  Chg w47 w48 D47 ∧ (
  (
  Calls Tryz.prog F.l_toBound #[.agg #[x97_0.v, x97_1.v, x97_2.v]] w48 (Ret [.agg [.sl, .sl, .sl]] fun (x98_0 : Sl) (x98_1 : Sl) (x98_2 : Sl) w49 =>
  Chg w47 w49 D47 ∧ (
  (
  Calls Tryz.prog F.i_JoinBounds #[.agg #[x96_0.v, x96_1.v, x96_2.v], .agg #[x98_0.v, x98_1.v, x98_2.v]] w49 (Ret [.agg [.sl, .sl, .sl], .at .bool] fun (x99_0_0 : Sl) (x99_0_1 : Sl) (x99_0_2 : Sl) (x99_1 : Bool) w50 =>
  Chg w47 w50 D47 ∧ (
  NEW T.t_i_Bound #[.slice none 0 0, .slice none 0 0, .slice none 0 0] w50 fun (px15 : Addr) w51 =>
  Chg w47 w51 D47 ∧ (
  ST px15 0 [x99_0_0.v, x99_0_1.v, x99_0_2.v] w51 fun w52 =>
  Chg w47 w52 D47 ∧ (
  Chg w47 w52 D47 ∧ (
  V_l_FnExactJoinBounds_k12 Q x6 x7 px10 x85 px15 x99_1 w52)))))) ∧ (
  NEW T.t_i_Bound #[.slice none 0 0, .slice none 0 0, .slice none 0 0] w49 fun (px15_2 : Addr) w53 =>
  Chg w47 w53 D47 ∧ (
  Calls Tryz.prog F.i_JoinBounds #[.agg #[x96_0.v, x96_1.v, x96_2.v], .agg #[x98_0.v, x98_1.v, x98_2.v]] w53 (Ret [.agg [.sl, .sl, .sl], .at .bool] fun (x99_0_0_2 : Sl) (x99_0_1_2 : Sl) (x99_0_2_2 : Sl) (x99_1_2 : Bool) w54 =>
  Chg w47 w54 D47 ∧ (
  Chg w47 w54 D47 ∧ (
  ST px15_2 0 [x99_0_0_2.v, x99_0_1_2.v, x99_0_2_2.v] w54 fun w55 =>
  Chg w47 w55 D47 ∧ (
  Chg w47 w55 D47 ∧ (
  V_l_FnExactJoinBounds_k12 Q x6 x7 px10 x85 px15_2 x99_1_2 w55)))))))))) ∧ (
  NEW T.t_i_Bound #[.slice none 0 0, .slice none 0 0, .slice none 0 0] w48 fun (px15_3 : Addr) w56 =>
  Chg w47 w56 D47 ∧ (
  Calls Tryz.prog F.l_toBound #[.agg #[x97_0.v, x97_1.v, x97_2.v]] w56 (Ret [.agg [.sl, .sl, .sl]] fun (x98_0_2 : Sl) (x98_1_2 : Sl) (x98_2_2 : Sl) w57 =>
  Chg w47 w57 D47 ∧ (
  Calls Tryz.prog F.i_JoinBounds #[.agg #[x96_0.v, x96_1.v, x96_2.v], .agg #[x98_0_2.v, x98_1_2.v, x98_2_2.v]] w57 (Ret [.agg [.sl, .sl, .sl], .at .bool] fun (x99_0_0_3 : Sl) (x99_0_1_3 : Sl) (x99_0_2_3 : Sl) (x99_1_3 : Bool) w58 =>
  Chg w47 w58 D47 ∧ (
  Chg w47 w58 D47 ∧ (
  ST px15_3 0 [x99_0_0_3.v, x99_0_1_3.v, x99_0_2_3.v] w58 fun w59 =>
  Chg w47 w59 D47 ∧ (
  Chg w47 w59 D47 ∧ (
  V_l_FnExactJoinBounds_k12 Q x6 x7 px10 x85 px15_3 x99_1_3 w59)))))))))))) ∧ (
  NEW T.t_i_Bound #[.slice none 0 0, .slice none 0 0, .slice none 0 0] w47 fun (px15_4 : Addr) w60 =>
  Chg w47 w60 D47 ∧ (
  Calls Tryz.prog F.l_toBound #[.agg #[x95_0.v, x95_1.v, x95_2.v]] w60 (Ret [.agg [.sl, .sl, .sl]] fun (x96_0_2 : Sl) (x96_1_2 : Sl) (x96_2_2 : Sl) w61 =>
  Chg w47 w61 D47 ∧ (
  Calls Tryz.prog F.l_toBound #[.agg #[x97_0.v, x97_1.v, x97_2.v]] w61 (Ret [.agg [.sl, .sl, .sl]] fun (x98_0_3 : Sl) (x98_1_3 : Sl) (x98_2_3 : Sl) w62 =>
  Chg w47 w62 D47 ∧ (
  Calls Tryz.prog F.i_JoinBounds #[.agg #[x96_0_2.v, x96_1_2.v, x96_2_2.v], .agg #[x98_0_3.v, x98_1_3.v, x98_2_3.v]] w62 (Ret [.agg [.sl, .sl, .sl], .at .bool] fun (x99_0_0_4 : Sl) (x99_0_1_4 : Sl) (x99_0_2_4 : Sl) (x99_1_4 : Bool) w63 =>
  Chg w47 w63 D47 ∧ (
  Chg w47 w63 D47 ∧ (
  ST px15_4 0 [x99_0_0_4.v, x99_0_1_4.v, x99_0_2_4.v] w63 fun w64 =>
  Chg w47 w64 D47 ∧ (
  Chg w47 w64 D47 ∧ (
  V_l_FnExactJoinBounds_k12 Q x6 x7 px10 x85 px15_4 x99_1_4 w64)))))))))))))))))

def V_l_FnExactJoinBounds_k4 (Q : Bool → World → Prop) (px2 : Addr) (px3 : Addr) (x6 : Addr) (x7 : Bool) (px8 : Addr) (px9 : Addr) (x42_1 : Bool) (px10 : Addr) (w34 : World) : Prop :=
  ∀ w35, Ext w34 w35 → w35.heap = w34.heap →
  LD [.sl, .sl, .sl] px8 w35 fun (x54_0 : Sl) (x54_1 : Sl) (x54_2 : Sl) =>
  LD [.sl, .sl, .sl] px2 w35 fun (x55_0 : Sl) (x55_1 : Sl) (x55_2 : Sl) =>
  Ext w35 w35 ∧ (
  Calls Tryz.prog F.l_toBound #[.agg #[x55_0.v, x55_1.v, x55_2.v]] w35 (Ret [.agg [.sl, .sl, .sl]] fun (x56_0 : Sl) (x56_1 : Sl) (x56_2 : Sl) w36 =>
  Ext w35 w36 ∧ (
  Calls Tryz.prog F.l_eqBound #[.agg #[x54_0.v, x54_1.v, x54_2.v], .agg #[x56_0.v, x56_1.v, x56_2.v]] w36 (Ret [.at .bool] fun (x57 : Bool) w37 =>
  Ext w35 w37 ∧ (
  cond (!x57) (
  Q false w37) (
  ∀ w38, Ext w37 w38 → w38.heap = w37.heap →
  LD [.sl, .sl, .sl] px9 w38 fun (x59_0 : Sl) (x59_1 : Sl) (x59_2 : Sl) =>
  LD [.sl, .sl, .sl] px3 w38 fun (x60_0 : Sl) (x60_1 : Sl) (x60_2 : Sl) =>
  Ext w38 w38 ∧ (
  Calls Tryz.prog F.l_toBound #[.agg #[x60_0.v, x60_1.v, x60_2.v]] w38 (Ret [.agg [.sl, .sl, .sl]] fun (x61_0 : Sl) (x61_1 : Sl) (x61_2 : Sl) w39 =>
  Ext w38 w39 ∧ (
  Calls Tryz.prog F.l_eqBound #[.agg #[x59_0.v, x59_1.v, x59_2.v], .agg #[x61_0.v, x61_1.v, x61_2.v]] w39 (Ret [.at .bool] fun (x62 : Bool) w40 =>
  Ext w38 w40 ∧ (
  cond (!x62) (
  Q false w40) (
  LD [.sl, .sl, .sl] px8 w40 fun (x64_0 : Sl) (x64_1 : Sl) (x64_2 : Sl) =>
  Calls Tryz.prog F.l_markBound #[.agg #[x64_0.v, x64_1.v, x64_2.v], .int .i64 1] w40 (Ret [.at (.int .i64)] fun (x66 : Int) w41 =>
  LD [.sl, .sl, .sl] px9 w41 fun (x67_0 : Sl) (x67_1 : Sl) (x67_2 : Sl) =>
  Calls Tryz.prog F.l_markBound #[.agg #[x67_0.v, x67_1.v, x67_2.v], .int .i64 x66] w41 (Ret [.at (.int .i64)] fun (x69 : Int) w42 =>
  cond (decide ((x69 : Int) < 0)) (
  Q false w42) (
  LD [.sl, .sl, .sl] px10 w42 fun (x73_0 : Sl) (x73_1 : Sl) (x73_2 : Sl) =>
  LD [.sl, .sl, .sl] x6 w42 fun (x74_0 : Sl) (x74_1 : Sl) (x74_2 : Sl) =>
  Calls Tryz.prog F.l_eqBound #[.agg #[x73_0.v, x73_1.v, x73_2.v], .agg #[x74_0.v, x74_1.v, x74_2.v]] w42 (Ret [.at .bool] fun (x75 : Bool) w43 =>
  cond (!x75) (
  Q false w43) (
  cond (!(x42_1 == x7)) (
  Q false w43) (
  V_l_FnExactJoinBounds_k8 Q px2 px3 x6 x7 px10 w43))))))))))))))))))

def V_l_FnExactJoinBounds_k3 (Q : Bool → World → Prop) (px2 : Addr) (px3 : Addr) (x6 : Addr) (x7 : Bool) (w23 : World) : Prop :=
  LD [.sl, .sl, .sl] px2 w23 fun (x35_0 : Sl) (x35_1 : Sl) (x35_2 : Sl) =>
  Calls Tryz.prog F.l_toBound #[.agg #[x35_0.v, x35_1.v, x35_2.v]] w23 (Ret [.agg [.sl, .sl, .sl]] fun (x36_0 : Sl) (x36_1 : Sl) (x36_2 : Sl) w24 =>
  NEW T.t_i_Bound #[.slice none 0 0, .slice none 0 0, .slice none 0 0] w24 fun (px8 : Addr) w25 =>
  ST px8 0 [x36_0.v, x36_1.v, x36_2.v] w25 fun w26 =>
  LD [.sl, .sl, .sl] px3 w26 fun (x37_0 : Sl) (x37_1 : Sl) (x37_2 : Sl) =>
  Calls Tryz.prog F.l_toBound #[.agg #[x37_0.v, x37_1.v, x37_2.v]] w26 (Ret [.agg [.sl, .sl, .sl]] fun (x38_0 : Sl) (x38_1 : Sl) (x38_2 : Sl) w27 =>
  NEW T.t_i_Bound #[.slice none 0 0, .slice none 0 0, .slice none 0 0] w27 fun (px9 : Addr) w28 =>
  ST px9 0 [x38_0.v, x38_1.v, x38_2.v] w28 fun w29 =>
  LD [.sl, .sl, .sl] px8 w29 fun (x40_0 : Sl) (x40_1 : Sl) (x40_2 : Sl) =>
  LD [.sl, .sl, .sl] px9 w29 fun (x41_0 : Sl) (x41_1 : Sl) (x41_2 : Sl) =>
  Calls Tryz.prog F.i_JoinBounds #[.agg #[x40_0.v, x40_1.v, x40_2.v], .agg #[x41_0.v, x41_1.v, x41_2.v]] w29 (Ret [.agg [.sl, .sl, .sl], .at .bool] fun (x42_0_0 : Sl) (x42_0_1 : Sl) (x42_0_2 : Sl) (x42_1 : Bool) w30 =>
  NEW T.t_i_Bound #[.slice none 0 0, .slice none 0 0, .slice none 0 0] w30 fun (px10 : Addr) w31 =>
  ST px10 0 [x42_0_0.v, x42_0_1.v, x42_0_2.v] w31 fun w32 =>
  LD [.sl, .sl, .sl] px10 w32 fun (x45_0 : Sl) (x45_1 : Sl) (x45_2 : Sl) =>
  LD [.sl, .sl, .sl] x6 w32 fun (x46_0 : Sl) (x46_1 : Sl) (x46_2 : Sl) =>
  Calls Tryz.prog F.l_eqBound #[.agg #[x45_0.v, x45_1.v, x45_2.v], .agg #[x46_0.v, x46_1.v, x46_2.v]] w32 (Ret [.at .bool] fun (x47 : Bool) w33 =>
  cond (!x47) (
  Q false w33) (
  cond (!(x42_1 == x7)) (
  Q false w33) (
  V_l_FnExactJoinBounds_k4 Q px2 px3 x6 x7 px8 px9 x42_1 px10 w33))))))

def V_l_FnExactJoinBounds (Q : Bool → World → Prop) (x0_0 : Sl) (x0_1 : Sl) (x0_2 : Sl) (x1_0 : Sl) (x1_1 : Sl) (x1_2 : Sl) (w : World) : Prop :=
  NEW T.t_l_Bound #[x0_0.v, x0_1.v, x0_2.v] w fun (px2 : Addr) w1 =>
  NEW T.t_l_Bound #[x1_0.v, x1_1.v, x1_2.v] w1 fun (px3 : Addr) w2 =>
  LD [.sl, .sl, .sl] px2 w2 fun (x17_0 : Sl) (x17_1 : Sl) (x17_2 : Sl) =>
  Calls Tryz.prog F.l_szBound #[.agg #[x17_0.v, x17_1.v, x17_2.v], .int .i64 1048576] w2 (Ret [.at (.int .i64)] fun (x19 : Int) w3 =>
  cond (decide ((x19 : Int) < 0)) (
  Q true w3) (
  LD [.sl, .sl, .sl] px3 w3 fun (x22_0 : Sl) (x22_1 : Sl) (x22_2 : Sl) =>
  Calls Tryz.prog F.l_szBound #[.agg #[x22_0.v, x22_1.v, x22_2.v], .int .i64 x19] w3 (Ret [.at (.int .i64)] fun (x24 : Int) w4 =>
  cond (decide ((x24 : Int) < 0)) (
  Q true w4) (
  ∀ w5, Ext w4 w5 → w5.heap = w4.heap → ∃ (D5 : Nat → Prop),
  ¬ D5 px2.block ∧ (
  LD [.sl, .sl, .sl] px2 w5 fun (x28_0 : Sl) (x28_1 : Sl) (x28_2 : Sl) =>
  ¬ D5 px3.block ∧ (
  LD [.sl, .sl, .sl] px3 w5 fun (x30_0 : Sl) (x30_1 : Sl) (x30_2 : Sl) =>
  (
  Calls Tryz.prog F.l_toBound #[.agg #[x28_0.v, x28_1.v, x28_2.v]] w5 (Ret [.agg [.sl, .sl, .sl]] fun (x29_0 : Sl) (x29_1 : Sl) (x29_2 : Sl) w6 =>
  Chg w5 w6 D5 ∧ (
  (
  Calls Tryz.prog F.l_toBound #[.agg #[x30_0.v, x30_1.v, x30_2.v]] w6 (Ret [.agg [.sl, .sl, .sl]] fun (x31_0 : Sl) (x31_1 : Sl) (x31_2 : Sl) w7 =>
  Chg w5 w7 D5 ∧ (
  (
  Calls Tryz.prog F.s_JoinBounds #[.agg #[x29_0.v, x29_1.v, x29_2.v], .agg #[x31_0.v, x31_1.v, x31_2.v]] w7 (Ret [.agg [.sl, .sl, .sl], .at .bool] fun (x32_0_0 : Sl) (x32_0_1 : Sl) (x32_0_2 : Sl) (x32_1 : Bool) w8 =>
  Chg w5 w8 D5 ∧ (
  NEW T.t_i_Bound #[.slice none 0 0, .slice none 0 0, .slice none 0 0] w8 fun (px6 : Addr) w9 =>
  Chg w5 w9 D5 ∧ (
  ST px6 0 [x32_0_0.v, x32_0_1.v, x32_0_2.v] w9 fun w10 =>
  Chg w5 w10 D5 ∧ (
  Chg w5 w10 D5 ∧ (
  V_l_FnExactJoinBounds_k3 Q px2 px3 px6 x32_1 w10)))))) ∧ (
  NEW T.t_i_Bound #[.slice none 0 0, .slice none 0 0, .slice none 0 0] w7 fun (px6_2 : Addr) w11 =>
  Chg w5 w11 D5 ∧ (
  Calls Tryz.prog F.s_JoinBounds #[.agg #[x29_0.v, x29_1.v, x29_2.v], .agg #[x31_0.v, x31_1.v, x31_2.v]] w11 (Ret [.agg [.sl, .sl, .sl], .at .bool] fun (x32_0_0_2 : Sl) (x32_0_1_2 : Sl) (x32_0_2_2 : Sl) (x32_1_2 : Bool) w12 =>
  Chg w5 w12 D5 ∧ (
  Chg w5 w12 D5 ∧ (
  ST px6_2 0 [x32_0_0_2.v, x32_0_1_2.v, x32_0_2_2.v] w12 fun w13 =>
  Chg w5 w13 D5 ∧ (
  Chg w5 w13 D5 ∧ (
  V_l_FnExactJoinBounds_k3 Q px2 px3 px6_2 x32_1_2 w13)))))))))) ∧ (
  NEW T.t_i_Bound #[.slice none 0 0, .slice none 0 0, .slice none 0 0] w6 fun (px6_3 : Addr) w14 =>
  Chg w5 w14 D5 ∧ (
  Calls Tryz.prog F.l_toBound #[.agg #[x30_0.v, x30_1.v, x30_2.v]] w14 (Ret [.agg [.sl, .sl, .sl]] fun (x31_0_2 : Sl) (x31_1_2 : Sl) (x31_2_2 : Sl) w15 =>
  Chg w5 w15 D5 ∧ (
  Calls Tryz.prog F.s_JoinBounds #[.agg #[x29_0.v, x29_1.v, x29_2.v], .agg #[x31_0_2.v, x31_1_2.v, x31_2_2.v]] w15 (Ret [.agg [.sl, .sl, .sl], .at .bool] fun (x32_0_0_3 : Sl) (x32_0_1_3 : Sl) (x32_0_2_3 : Sl) (x32_1_3 : Bool) w16 =>
  Chg w5 w16 D5 ∧ (
  Chg w5 w16 D5 ∧ (
  ST px6_3 0 [x32_0_0_3.v, x32_0_1_3.v, x32_0_2_3.v] w16 fun w17 =>
  Chg w5 w17 D5 ∧ (
  Chg w5 w17 D5 ∧ (
  V_l_FnExactJoinBounds_k3 Q px2 px3 px6_3 x32_1_3 w17)))))))))))) ∧ (
  NEW T.t_i_Bound #[.slice none 0 0, .slice none 0 0, .slice none 0 0] w5 fun (px6_4 : Addr) w18 =>
  Chg w5 w18 D5 ∧ (
  Calls Tryz.prog F.l_toBound #[.agg #[x28_0.v, x28_1.v, x28_2.v]] w18 (Ret [.agg [.sl, .sl, .sl]] fun (x29_0_2 : Sl) (x29_1_2 : Sl) (x29_2_2 : Sl) w19 =>
  Chg w5 w19 D5 ∧ (
  Calls Tryz.prog F.l_toBound #[.agg #[x30_0.v, x30_1.v, x30_2.v]] w19 (Ret [.agg [.sl, .sl, .sl]] fun (x31_0_3 : Sl) (x31_1_3 : Sl) (x31_2_3 : Sl) w20 =>
  Chg w5 w20 D5 ∧ (
  Calls Tryz.prog F.s_JoinBounds #[.agg #[x29_0_2.v, x29_1_2.v, x29_2_2.v], .agg #[x31_0_3.v, x31_1_3.v, x31_2_3.v]] w20 (Ret [.agg [.sl, .sl, .sl], .at .bool] fun (x32_0_0_4 : Sl) (x32_0_1_4 : Sl) (x32_0_2_4 : Sl) (x32_1_4 : Bool) w21 =>
  Chg w5 w21 D5 ∧ (
  Chg w5 w21 D5 ∧ (
  ST px6_4 0 [x32_0_0_4.v, x32_0_1_4.v, x32_0_2_4.v] w21 fun w22 =>
  Chg w5 w22 D5 ∧ (
  Chg w5 w22 D5 ∧ (
  V_l_FnExactJoinBounds_k3 Q px2 px3 px6_4 x32_1_4 w22)))))))))))))))))

theorem C_l_FnExactJoinBounds {Q : Bool → World → Prop} {x0_0 : Sl} {x0_1 : Sl} {x0_2 : Sl} {x1_0 : Sl} {x1_1 : Sl} {x1_2 : Sl} {w : World} (h : V_l_FnExactJoinBounds Q x0_0 x0_1 x0_2 x1_0 x1_1 x1_2 w) : Calls Tryz.prog F.l_FnExactJoinBounds #[.agg #[x0_0.v, x0_1.v, x0_2.v], .agg #[x1_0.v, x1_1.v, x1_2.v]] w (Ret [.at .bool] Q) :=
  mkC (hint := hint) (ann := annOf []) (args := [.agg #[x0_0.v, x0_1.v, x0_2.v], .agg #[x1_0.v, x1_1.v, x1_2.v]]) (rs := [.at .bool]) Tryz.func7 (by kernel_rfl) (by kernel_rfl) h

def V_l_szBound (Q : Int → World → Prop) (a_0 : Sl) (a_1 : Sl) (a_2 : Sl) (left : Int) (w : World) : Prop :=
  NEW T.t_l_Bound #[a_0.v, a_1.v, a_2.v] w fun (p_a : Addr) w1 =>
  LD [.sl] (p_a.add 0) w1 fun (x6 : Sl) =>
  Calls Tryz.prog F.l_szProblemS #[x6.v, .int .i64 left] w1 (Ret [.at (.int .i64)] fun (x8 : Int) w2 =>
  cond (decide ((x8 : Int) < 0)) (
  Q (-1) w2) (
  LD [.sl] (p_a.add 1) w2 fun (x12 : Sl) =>
  Calls Tryz.prog F.l_szIntSS #[x12.v, .int .i64 x8] w2 (Ret [.at (.int .i64)] fun (x14 : Int) w3 =>
  cond (decide ((x14 : Int) < 0)) (
  Q (-1) w3) (
  LD [.sl] (p_a.add 2) w3 fun (x18 : Sl) =>
  Calls Tryz.prog F.l_szIntSS #[x18.v, .int .i64 x14] w3 (Ret [.at (.int .i64)] fun (x20 : Int) w4 =>
  cond (decide ((x20 : Int) < 0)) (
  Q (-1) w4) (
  Q x20 w4))))))

theorem C_l_szBound {Q : Int → World → Prop} {a_0 : Sl} {a_1 : Sl} {a_2 : Sl} {left : Int} {w : World} (h : V_l_szBound Q a_0 a_1 a_2 left w) : Calls Tryz.prog F.l_szBound #[.agg #[a_0.v, a_1.v, a_2.v], .int .i64 left] w (Ret [.at (.int .i64)] Q) :=
  mkC (hint := hint) (ann := annOf []) (args := [.agg #[a_0.v, a_1.v, a_2.v], .int .i64 left]) (rs := [.at (.int .i64)]) Tryz.func8 (by kernel_rfl) (by kernel_rfl) h

def V_l_toBound (Q : Sl → Sl → Sl → World → Prop) (a_0 : Sl) (a_1 : Sl) (a_2 : Sl) (w : World) : Prop :=
  NEW T.t_l_Bound #[a_0.v, a_1.v, a_2.v] w fun (p_a : Addr) w1 =>
  NEW T.t_i_Bound #[.slice none 0 0, .slice none 0 0, .slice none 0 0] w1 fun (px2 : Addr) w2 =>
  NEW T.t_i_Bound #[.slice none 0 0, .slice none 0 0, .slice none 0 0] w2 fun (p_out : Addr) w3 =>
  LD [.sl] (p_a.add 0) w3 fun (x5 : Sl) =>
  Calls Tryz.prog F.l_toProblemS #[x5.v] w3 (Ret [.at .sl] fun (x6 : Sl) w4 =>
  ST (p_out.add 0) 0 [x6.v] w4 fun w5 =>
  LD [.sl] (p_a.add 1) w5 fun (x9 : Sl) =>
  Calls Tryz.prog F.l_toIntSS #[x9.v] w5 (Ret [.at .sl] fun (x10 : Sl) w6 =>
  ST (p_out.add 1) 0 [x10.v] w6 fun w7 =>
  LD [.sl] (p_a.add 2) w7 fun (x13 : Sl) =>
  Calls Tryz.prog F.l_toIntSS #[x13.v] w7 (Ret [.at .sl] fun (x14 : Sl) w8 =>
  ST (p_out.add 2) 0 [x14.v] w8 fun w9 =>
  LD [.sl, .sl, .sl] p_out w9 fun (x16_0 : Sl) (x16_1 : Sl) (x16_2 : Sl) =>
  ST px2 0 [x16_0.v, x16_1.v, x16_2.v] w9 fun w10 =>
  LD [.sl, .sl, .sl] px2 w10 fun (r0_0 : Sl) (r0_1 : Sl) (r0_2 : Sl) =>
  Q r0_0 r0_1 r0_2 w10)))

theorem C_l_toBound {Q : Sl → Sl → Sl → World → Prop} {a_0 : Sl} {a_1 : Sl} {a_2 : Sl} {w : World} (h : V_l_toBound Q a_0 a_1 a_2 w) : Calls Tryz.prog F.l_toBound #[.agg #[a_0.v, a_1.v, a_2.v]] w (Ret [.agg [.sl, .sl, .sl]] Q) :=
  mkC (hint := hint) (ann := annOf []) (args := [.agg #[a_0.v, a_1.v, a_2.v]]) (rs := [.agg [.sl, .sl, .sl]]) Tryz.func10 (by kernel_rfl) (by kernel_rfl) h

def V_i_CheckBound (Q : Bool → Bool → World → Prop) (b_0 : Sl) (b_1 : Sl) (b_2 : Sl) (w : World) : Prop :=
  NEW T.t_i_Bound #[b_0.v, b_1.v, b_2.v] w fun (p_b : Addr) w1 =>
  LD [.sl] (p_b.add 0) w1 fun (x5 : Sl) =>
  Calls Tryz.prog F.i_problemsOk #[x5.v] w1 (Ret [.at .bool] fun (x6 : Bool) w2 =>
  cond (!x6) (
  Q false false w2) (
  LD [.sl, .sl, .sl] p_b w2 fun (x8_0 : Sl) (x8_1 : Sl) (x8_2 : Sl) =>
  Calls Tryz.prog F.i_isRightBound #[.agg #[x8_0.v, x8_1.v, x8_2.v]] w2 (Ret [.at .bool] fun (x9 : Bool) w3 =>
  Q x9 true w3)))

theorem C_i_CheckBound {Q : Bool → Bool → World → Prop} {b_0 : Sl} {b_1 : Sl} {b_2 : Sl} {w : World} (h : V_i_CheckBound Q b_0 b_1 b_2 w) : Calls Tryz.prog F.i_CheckBound #[.agg #[b_0.v, b_1.v, b_2.v]] w (Ret [.at .bool, .at .bool] Q) :=
  mkC (hint := hint) (ann := annOf []) (args := [.agg #[b_0.v, b_1.v, b_2.v]]) (rs := [.at .bool, .at .bool]) Tryz.func11 (by kernel_rfl) (by kernel_rfl) h

def V_l_eqBound (Q : Bool → World → Prop) (a_0 : Sl) (a_1 : Sl) (a_2 : Sl) (b_0 : Sl) (b_1 : Sl) (b_2 : Sl) (w : World) : Prop :=
  NEW T.t_i_Bound #[a_0.v, a_1.v, a_2.v] w fun (p_a : Addr) w1 =>
  NEW T.t_i_Bound #[b_0.v, b_1.v, b_2.v] w1 fun (p_b : Addr) w2 =>
  LD [.sl] (p_a.add 0) w2 fun (x6 : Sl) =>
  LD [.sl] (p_b.add 0) w2 fun (x8 : Sl) =>
  Calls Tryz.prog F.l_eqProblemS #[x6.v, x8.v] w2 (Ret [.at .bool] fun (x9 : Bool) w3 =>
  cond (!x9) (
  Q false w3) (
  LD [.sl] (p_a.add 1) w3 fun (x12 : Sl) =>
  LD [.sl] (p_b.add 1) w3 fun (x14 : Sl) =>
  Calls Tryz.prog F.l_eqIntSS #[x12.v, x14.v] w3 (Ret [.at .bool] fun (x15 : Bool) w4 =>
  cond (!x15) (
  Q false w4) (
  LD [.sl] (p_a.add 2) w4 fun (x18 : Sl) =>
  LD [.sl] (p_b.add 2) w4 fun (x20 : Sl) =>
  Calls Tryz.prog F.l_eqIntSS #[x18.v, x20.v] w4 (Ret [.at .bool] fun (x21 : Bool) w5 =>
  cond (!x21) (
  Q false w5) (
  Q true w5))))))

theorem C_l_eqBound {Q : Bool → World → Prop} {a_0 : Sl} {a_1 : Sl} {a_2 : Sl} {b_0 : Sl} {b_1 : Sl} {b_2 : Sl} {w : World} (h : V_l_eqBound Q a_0 a_1 a_2 b_0 b_1 b_2 w) : Calls Tryz.prog F.l_eqBound #[.agg #[a_0.v, a_1.v, a_2.v], .agg #[b_0.v, b_1.v, b_2.v]] w (Ret [.at .bool] Q) :=
  mkC (hint := hint) (ann := annOf []) (args := [.agg #[a_0.v, a_1.v, a_2.v], .agg #[b_0.v, b_1.v, b_2.v]]) (rs := [.at .bool]) Tryz.func12 (by kernel_rfl) (by kernel_rfl) h

def V_i_BoundOf (Q : Int → Bool → World → Prop) (b_0 : Sl) (b_1 : Sl) (b_2 : Sl) (w : World) : Prop :=
  NEW T.t_i_Bound #[b_0.v, b_1.v, b_2.v] w fun (p_b : Addr) w1 =>
  LD [.sl, .sl, .sl] p_b w1 fun (x7_0 : Sl) (x7_1 : Sl) (x7_2 : Sl) =>
  Calls Tryz.prog F.i_CheckBound #[.agg #[x7_0.v, x7_1.v, x7_2.v]] w1 (Ret [.at .bool, .at .bool] fun (x8_0 : Bool) (x8_1 : Bool) w2 =>
  cond (!x8_0) (
  Q 0 false w2) (
  cond (!x8_1) (
  Q 0 false w2) (
  LD [.sl] (p_b.add 1) w2 fun (x18_2 : Sl) =>
  Q x18_2.len true w2)))

theorem C_i_BoundOf {Q : Int → Bool → World → Prop} {b_0 : Sl} {b_1 : Sl} {b_2 : Sl} {w : World} (h : V_i_BoundOf Q b_0 b_1 b_2 w) : Calls Tryz.prog F.i_BoundOf #[.agg #[b_0.v, b_1.v, b_2.v]] w (Ret [.at (.int .i64), .at .bool] Q) :=
  mkC (hint := hint) (ann := annOf []) (args := [.agg #[b_0.v, b_1.v, b_2.v]]) (rs := [.at (.int .i64), .at .bool]) Tryz.func14 (by kernel_rfl) (by kernel_rfl) h

def V_l_szProblem (Q : Int → World → Prop) (a_0 : Int) (a_1 : Int) (a_2 : Sl) (a_3 : Sl) (left : Int) (w : World) : Prop :=
  NEW T.t_l_Problem #[.int .i64 a_0, .int .i64 a_1, a_2.v, a_3.v] w fun (p_a : Addr) w1 =>
  LD [.sl] (p_a.add 2) w1 fun (x6 : Sl) =>
  Calls Tryz.prog F.l_szIntSS #[x6.v, .int .i64 left] w1 (Ret [.at (.int .i64)] fun (x8 : Int) w2 =>
  cond (decide ((x8 : Int) < 0)) (
  Q (-1) w2) (
  LD [.sl] (p_a.add 3) w2 fun (x12 : Sl) =>
  Calls Tryz.prog F.l_szIntSS #[x12.v, .int .i64 x8] w2 (Ret [.at (.int .i64)] fun (x14 : Int) w3 =>
  cond (decide ((x14 : Int) < 0)) (
  Q (-1) w3) (
  Q x14 w3))))

theorem C_l_szProblem {Q : Int → World → Prop} {a_0 : Int} {a_1 : Int} {a_2 : Sl} {a_3 : Sl} {left : Int} {w : World} (h : V_l_szProblem Q a_0 a_1 a_2 a_3 left w) : Calls Tryz.prog F.l_szProblem #[.agg #[.int .i64 a_0, .int .i64 a_1, a_2.v, a_3.v], .int .i64 left] w (Ret [.at (.int .i64)] Q) :=
  mkC (hint := hint) (ann := annOf []) (args := [.agg #[.int .i64 a_0, .int .i64 a_1, a_2.v, a_3.v], .int .i64 left]) (rs := [.at (.int .i64)]) Tryz.func15 (by kernel_rfl) (by kernel_rfl) h

def V_l_toProblem (Q : Int → Int → Sl → Sl → World → Prop) (a_0 : Int) (a_1 : Int) (a_2 : Sl) (a_3 : Sl) (w : World) : Prop :=
  NEW T.t_l_Problem #[.int .i64 a_0, .int .i64 a_1, a_2.v, a_3.v] w fun (p_a : Addr) w1 =>
  NEW T.t_i_Problem #[.int .i64 0, .int .i64 0, .slice none 0 0, .slice none 0 0] w1 fun (px2 : Addr) w2 =>
  NEW T.t_i_Problem #[.int .i64 0, .int .i64 0, .slice none 0 0, .slice none 0 0] w2 fun (p_out : Addr) w3 =>
  LD [.int .i64] (p_a.add 0) w3 fun (x5 : Int) =>
  ST (p_out.add 0) 0 [.int .i64 x5] w3 fun w4 =>
  LD [.int .i64] (p_a.add 1) w4 fun (x8 : Int) =>
  ST (p_out.add 1) 0 [.int .i64 x8] w4 fun w5 =>
  LD [.sl] (p_a.add 2) w5 fun (x11 : Sl) =>
  Calls Tryz.prog F.l_toIntSS #[x11.v] w5 (Ret [.at .sl] fun (x12 : Sl) w6 =>
  ST (p_out.add 2) 0 [x12.v] w6 fun w7 =>
  LD [.sl] (p_a.add 3) w7 fun (x15 : Sl) =>
  Calls Tryz.prog F.l_toIntSS #[x15.v] w7 (Ret [.at .sl] fun (x16 : Sl) w8 =>
  ST (p_out.add 3) 0 [x16.v] w8 fun w9 =>
  LD [.int .i64, .int .i64, .sl, .sl] p_out w9 fun (x18_0 : Int) (x18_1 : Int) (x18_2 : Sl) (x18_3 : Sl) =>
  ST px2 0 [.int .i64 x18_0, .int .i64 x18_1, x18_2.v, x18_3.v] w9 fun w10 =>
  LD [.int .i64, .int .i64, .sl, .sl] px2 w10 fun (r0_0 : Int) (r0_1 : Int) (r0_2 : Sl) (r0_3 : Sl) =>
  Q r0_0 r0_1 r0_2 r0_3 w10))

theorem C_l_toProblem {Q : Int → Int → Sl → Sl → World → Prop} {a_0 : Int} {a_1 : Int} {a_2 : Sl} {a_3 : Sl} {w : World} (h : V_l_toProblem Q a_0 a_1 a_2 a_3 w) : Calls Tryz.prog F.l_toProblem #[.agg #[.int .i64 a_0, .int .i64 a_1, a_2.v, a_3.v]] w (Ret [.agg [.int .i64, .int .i64, .sl, .sl]] Q) :=
  mkC (hint := hint) (ann := annOf []) (args := [.agg #[.int .i64 a_0, .int .i64 a_1, a_2.v, a_3.v]]) (rs := [.agg [.int .i64, .int .i64, .sl, .sl]]) Tryz.func18 (by kernel_rfl) (by kernel_rfl) h

def V_l_eqIntSS (Q : Bool → World → Prop) (a : Sl) (b : Sl) (w : World) : Prop :=
  cond ((a.len : Int) != b.len) (
  Q false w) (
  ∃ (I4 : Int → World → Prop) (m4 : Int → World → Nat), I4 0 w ∧ ∀ (i : Int) w1, I4 i w1 → ∀ _ _ _ _ _ _ _ _ _ _ _ _ _ _ _ _ _ : Value,
  cond (decide ((i : Int) < a.len)) (
  IX a i 1 fun (px19 : Addr) =>
  LD [.sl] px19 w1 fun (x20 : Sl) =>
  IX b i 1 fun (px23 : Addr) =>
  LD [.sl] px23 w1 fun (x24 : Sl) =>
  QCALL Tryz.prog F.l_eqIntS #[x20.v, x24.v] w1 [.at .bool] fun (x25 : Bool) =>
  ∀ w2, Ext w1 w2 →
  cond (!x25) (
  Q false w2) (
  I4 (IntKind.i64.wrap (i + 1)) w2 ∧ m4 (IntKind.i64.wrap (i + 1)) w2 < m4 i w1)) (
  Q true w1))

theorem C_l_eqIntSS {Q : Bool → World → Prop} {a : Sl} {b : Sl} {w : World} (h : V_l_eqIntSS Q a b w) : Calls Tryz.prog F.l_eqIntSS #[a.v, b.v] w (Ret [.at .bool] Q) :=
  mkC (hint := hint) (ann := annOf [(4, ⟨[(5, .int .i64)], [4, 11, 12, 13, 14, 15, 16, 17, 18, 19, 20, 21, 22, 23, 24, 25, 26]⟩)]) (args := [a.v, b.v]) (rs := [.at .bool]) Tryz.func21 (by kernel_rfl) (by kernel_rfl) h

def V_l_eqProblem (Q : Bool → World → Prop) (a_0 : Int) (a_1 : Int) (a_2 : Sl) (a_3 : Sl) (b_0 : Int) (b_1 : Int) (b_2 : Sl) (b_3 : Sl) (w : World) : Prop :=
  NEW T.t_i_Problem #[.int .i64 a_0, .int .i64 a_1, a_2.v, a_3.v] w fun (p_a : Addr) w1 =>
  NEW T.t_i_Problem #[.int .i64 b_0, .int .i64 b_1, b_2.v, b_3.v] w1 fun (p_b : Addr) w2 =>
  LD [.int .i64] (p_a.add 0) w2 fun (x6 : Int) =>
  LD [.int .i64] (p_b.add 0) w2 fun (x8 : Int) =>
  cond ((x6 : Int) != x8) (
  Q false w2) (
  LD [.int .i64] (p_a.add 1) w2 fun (x11 : Int) =>
  LD [.int .i64] (p_b.add 1) w2 fun (x13 : Int) =>
  cond ((x11 : Int) != x13) (
  Q false w2) (
  LD [.sl] (p_a.add 2) w2 fun (x16 : Sl) =>
  LD [.sl] (p_b.add 2) w2 fun (x18 : Sl) =>
  Calls Tryz.prog F.l_eqIntSS #[x16.v, x18.v] w2 (Ret [.at .bool] fun (x19 : Bool) w3 =>
  cond (!x19) (
  Q false w3) (
  LD [.sl] (p_a.add 3) w3 fun (x22 : Sl) =>
  LD [.sl] (p_b.add 3) w3 fun (x24 : Sl) =>
  Calls Tryz.prog F.l_eqIntSS #[x22.v, x24.v] w3 (Ret [.at .bool] fun (x25 : Bool) w4 =>
  cond (!x25) (
  Q false w4) (
  Q true w4))))))

theorem C_l_eqProblem {Q : Bool → World → Prop} {a_0 : Int} {a_1 : Int} {a_2 : Sl} {a_3 : Sl} {b_0 : Int} {b_1 : Int} {b_2 : Sl} {b_3 : Sl} {w : World} (h : V_l_eqProblem Q a_0 a_1 a_2 a_3 b_0 b_1 b_2 b_3 w) : Calls Tryz.prog F.l_eqProblem #[.agg #[.int .i64 a_0, .int .i64 a_1, a_2.v, a_3.v], .agg #[.int .i64 b_0, .int .i64 b_1, b_2.v, b_3.v]] w (Ret [.at .bool] Q) :=
  mkC (hint := hint) (ann := annOf []) (args := [.agg #[.int .i64 a_0, .int .i64 a_1, a_2.v, a_3.v], .agg #[.int .i64 b_0, .int .i64 b_1, b_2.v, b_3.v]]) (rs := [.at .bool]) Tryz.func22 (by kernel_rfl) (by kernel_rfl) h

def V_l_markIntSS (Q : Int → World → Prop) (a : Sl) (k : Int) (w : World) : Prop :=
  ∃ (I2 : Int → Int → World → Prop) (m2 : Int → Int → World → Nat), I2 k 0 w ∧ ∀ (k_2 : Int) (i : Int) w1, I2 k_2 i w1 → ∀ _ _ _ _ _ _ _ _ _ _ _ _ : Value,
  cond (decide ((i : Int) < a.len)) (
  IX a i 1 fun (px14 : Addr) =>
  LD [.sl] px14 w1 fun (x15 : Sl) =>
  Calls Tryz.prog F.l_markIntS #[x15.v, .int .i64 k_2] w1 (Ret [.at (.int .i64)] fun (x17 : Int) w2 =>
  I2 x17 (IntKind.i64.wrap (i + 1)) w2 ∧ m2 x17 (IntKind.i64.wrap (i + 1)) w2 < m2 k_2 i w1)) (
  Q k_2 w1)

theorem C_l_markIntSS {Q : Int → World → Prop} {a : Sl} {k : Int} {w : World} (h : V_l_markIntSS Q a k w) : Calls Tryz.prog F.l_markIntSS #[a.v, .int .i64 k] w (Ret [.at (.int .i64)] Q) :=
  mkC (hint := hint) (ann := annOf [(2, ⟨[(1, .int .i64), (5, .int .i64)], [6, 7, 8, 9, 10, 11, 12, 13, 14, 15, 16, 17]⟩)]) (args := [a.v, .int .i64 k]) (rs := [.at (.int .i64)]) Tryz.func26 (by kernel_rfl) (by kernel_rfl) h

def V_l_heldIntSS (Q : Int → World → Prop) (a : Sl) (k : Int) (w : World) : Prop :=
  ∃ (I2 : Int → Int → World → Prop) (m2 : Int → Int → World → Nat), I2 k 0 w ∧ ∀ (k_2 : Int) (i : Int) w1, I2 k_2 i w1 → ∀ _ _ _ _ _ _ _ _ _ _ _ _ _ _ _ : Value,
  cond (decide ((i : Int) < a.len)) (
  IX a i 1 fun (px14 : Addr) =>
  LD [.sl] px14 w1 fun (x15 : Sl) =>
  Calls Tryz.prog F.l_heldIntS #[x15.v, .int .i64 k_2] w1 (Ret [.at (.int .i64)] fun (x17 : Int) w2 =>
  cond (decide ((x17 : Int) < 0)) (
  Q (-1) w2) (
  I2 x17 (IntKind.i64.wrap (i + 1)) w2 ∧ m2 x17 (IntKind.i64.wrap (i + 1)) w2 < m2 k_2 i w1))) (
  Q k_2 w1)

theorem C_l_heldIntSS {Q : Int → World → Prop} {a : Sl} {k : Int} {w : World} (h : V_l_heldIntSS Q a k w) : Calls Tryz.prog F.l_heldIntSS #[a.v, .int .i64 k] w (Ret [.at (.int .i64)] Q) :=
  mkC (hint := hint) (ann := annOf [(2, ⟨[(1, .int .i64), (5, .int .i64)], [4, 6, 7, 8, 9, 10, 11, 12, 13, 14, 15, 16, 17, 18, 19]⟩)]) (args := [a.v, .int .i64 k]) (rs := [.at (.int .i64)]) Tryz.func27 (by kernel_rfl) (by kernel_rfl) h

def V_s_CutBound (Q : Sl → Sl → Sl → Bool → World → Prop) (b_0 : Sl) (b_1 : Sl) (b_2 : Sl) (k : Int) (w : World) : Prop :=
  NEW T.t_i_Bound #[b_0.v, b_1.v, b_2.v] w fun (p_b : Addr) w1 =>
  NEW T.t_i_Bound #[.slice none 0 0, .slice none 0 0, .slice none 0 0] w1 fun (px4 : Addr) w2 =>
  LD [.sl, .sl, .sl] p_b w2 fun (x6_0 : Sl) (x6_1 : Sl) (x6_2 : Sl) =>
  Calls Tryz.prog F.s_boGood #[.agg #[x6_0.v, x6_1.v, x6_2.v]] w2 (Ret [.at .bool] fun (x7 : Bool) w3 =>
  cond (!x7) (
  ST px4 0 [.slice none 0 0, .slice none 0 0, .slice none 0 0] w3 fun w5 =>
  LD [.sl, .sl, .sl] px4 w5 fun (r0_0 : Sl) (r0_1 : Sl) (r0_2 : Sl) =>
  Q r0_0 r0_1 r0_2 false w5) (
  LD [.sl] (p_b.add 0) w3 fun (x12 : Sl) =>
  Calls Tryz.prog F.s_l1In #[.int .i64 k, .int .i64 0, .int .i64 (IntKind.i64.wrap (x12.len - 1))] w3 (Ret [.at .bool] fun (x15 : Bool) w4 =>
  cond (!x15) (
  ST px4 0 [.slice none 0 0, .slice none 0 0, .slice none 0 0] w4 fun w6 =>
  LD [.sl, .sl, .sl] px4 w6 fun (r0_0_2 : Sl) (r0_1_2 : Sl) (r0_2_2 : Sl) =>
  Q r0_0_2 r0_1_2 r0_2_2 false w6) (
  LD [.sl] (p_b.add 0) w4 fun (x20_2 : Sl) =>
  SLC x20_2 none (some (IntKind.i64.wrap (k + 1))) 4 fun (x23_2 : Sl) =>
  Calls Tryz.prog F.s_boBuild #[x23_2.v] w4 (Ret [.agg [.sl, .sl, .sl], .at .bool] fun (x24_0_0_2 : Sl) (x24_0_1_2 : Sl) (x24_0_2_2 : Sl) (x24_1_2 : Bool) w9 =>
  ST px4 0 [x24_0_0_2.v, x24_0_1_2.v, x24_0_2_2.v] w9 fun w10 =>
  LD [.sl, .sl, .sl] px4 w10 fun (r0_0_4 : Sl) (r0_1_4 : Sl) (r0_2_4 : Sl) =>
  Q r0_0_4 r0_1_4 r0_2_4 x24_1_2 w10)))))

theorem C_s_CutBound {Q : Sl → Sl → Sl → Bool → World → Prop} {b_0 : Sl} {b_1 : Sl} {b_2 : Sl} {k : Int} {w : World} (h : V_s_CutBound Q b_0 b_1 b_2 k w) : Calls Tryz.prog F.s_CutBound #[.agg #[b_0.v, b_1.v, b_2.v], .int .i64 k] w (Ret [.agg [.sl, .sl, .sl], .at .bool] Q) :=
  mkC (hint := hint) (ann := annOf []) (args := [.agg #[b_0.v, b_1.v, b_2.v], .int .i64 k]) (rs := [.agg [.sl, .sl, .sl], .at .bool]) Tryz.func28 (by kernel_rfl) (by kernel_rfl) h

def V_i_CutBound (Q : Sl → Sl → Sl → Bool → World → Prop) (b_0 : Sl) (b_1 : Sl) (b_2 : Sl) (k : Int) (w : World) : Prop :=
  NEW T.t_i_Bound #[b_0.v, b_1.v, b_2.v] w fun (p_b : Addr) w1 =>
  NEW T.t_i_Bound #[.slice none 0 0, .slice none 0 0, .slice none 0 0] w1 fun (px4 : Addr) w2 =>
  LD [.sl, .sl, .sl] p_b w2 fun (x9_0 : Sl) (x9_1 : Sl) (x9_2 : Sl) =>
  Calls Tryz.prog F.i_BoundOf #[.agg #[x9_0.v, x9_1.v, x9_2.v]] w2 (Ret [.at (.int .i64), .at .bool] fun (x10_0 : Int) (x10_1 : Bool) w3 =>
  cond (!x10_1) (
  ST px4 0 [.slice none 0 0, .slice none 0 0, .slice none 0 0] w3 fun w5 =>
  LD [.sl, .sl, .sl] px4 w5 fun (r0_0 : Sl) (r0_1 : Sl) (r0_2 : Sl) =>
  Q r0_0 r0_1 r0_2 false w5) (
  Calls Tryz.prog F.i_within #[.int .i64 k, .int .i64 0, .int .i64 x10_0] w3 (Ret [.at .bool] fun (x18 : Bool) w4 =>
  cond (!x18) (
  ST px4 0 [.slice none 0 0, .slice none 0 0, .slice none 0 0] w4 fun w6 =>
  LD [.sl, .sl, .sl] px4 w6 fun (r0_0_2 : Sl) (r0_1_2 : Sl) (r0_2_2 : Sl) =>
  Q r0_0_2 r0_1_2 r0_2_2 false w6) (
  LD [.sl] (p_b.add 0) w4 fun (x23_2 : Sl) =>
  SLC x23_2 none (some (IntKind.i64.wrap (k + 1))) 4 fun (x26_2 : Sl) =>
  Calls Tryz.prog F.i_BuildBound #[x26_2.v] w4 (Ret [.agg [.sl, .sl, .sl], .at .bool] fun (x27_0_0_2 : Sl) (x27_0_1_2 : Sl) (x27_0_2_2 : Sl) (x27_1_2 : Bool) w9 =>
  ST px4 0 [x27_0_0_2.v, x27_0_1_2.v, x27_0_2_2.v] w9 fun w10 =>
  LD [.sl, .sl, .sl] px4 w10 fun (r0_0_4 : Sl) (r0_1_4 : Sl) (r0_2_4 : Sl) =>
  Q r0_0_4 r0_1_4 r0_2_4 x27_1_2 w10)))))

theorem C_i_CutBound {Q : Sl → Sl → Sl → Bool → World → Prop} {b_0 : Sl} {b_1 : Sl} {b_2 : Sl} {k : Int} {w : World} (h : V_i_CutBound Q b_0 b_1 b_2 k w) : Calls Tryz.prog F.i_CutBound #[.agg #[b_0.v, b_1.v, b_2.v], .int .i64 k] w (Ret [.agg [.sl, .sl, .sl], .at .bool] Q) :=
  mkC (hint := hint) (ann := annOf []) (args := [.agg #[b_0.v, b_1.v, b_2.v], .int .i64 k]) (rs := [.agg [.sl, .sl, .sl], .at .bool]) Tryz.func29 (by kernel_rfl) (by kernel_rfl) h

def V_l_markBound (Q : Int → World → Prop) (a_0 : Sl) (a_1 : Sl) (a_2 : Sl) (k : Int) (w : World) : Prop :=
  NEW T.t_i_Bound #[a_0.v, a_1.v, a_2.v] w fun (p_a : Addr) w1 =>
  LD [.sl] (p_a.add 0) w1 fun (x6 : Sl) =>
  Calls Tryz.prog F.l_markProblemS #[x6.v, .int .i64 k] w1 (Ret [.at (.int .i64)] fun (x8 : Int) w2 =>
  LD [.sl] (p_a.add 1) w2 fun (x10 : Sl) =>
  Calls Tryz.prog F.l_markIntSS #[x10.v, .int .i64 x8] w2 (Ret [.at (.int .i64)] fun (x12 : Int) w3 =>
  LD [.sl] (p_a.add 2) w3 fun (x14 : Sl) =>
  Calls Tryz.prog F.l_markIntSS #[x14.v, .int .i64 x12] w3 (Ret [.at (.int .i64)] fun (x16 : Int) w4 =>
  Q x16 w4)))

theorem C_l_markBound {Q : Int → World → Prop} {a_0 : Sl} {a_1 : Sl} {a_2 : Sl} {k : Int} {w : World} (h : V_l_markBound Q a_0 a_1 a_2 k w) : Calls Tryz.prog F.l_markBound #[.agg #[a_0.v, a_1.v, a_2.v], .int .i64 k] w (Ret [.at (.int .i64)] Q) :=
  mkC (hint := hint) (ann := annOf []) (args := [.agg #[a_0.v, a_1.v, a_2.v], .int .i64 k]) (rs := [.at (.int .i64)]) Tryz.func30 (by kernel_rfl) (by kernel_rfl) h

def V_l_heldBound (Q : Int → World → Prop) (a_0 : Sl) (a_1 : Sl) (a_2 : Sl) (k : Int) (w : World) : Prop :=
  NEW T.t_i_Bound #[a_0.v, a_1.v, a_2.v] w fun (p_a : Addr) w1 =>
  LD [.sl] (p_a.add 0) w1 fun (x6 : Sl) =>
  Calls Tryz.prog F.l_heldProblemS #[x6.v, .int .i64 k] w1 (Ret [.at (.int .i64)] fun (x8 : Int) w2 =>
  cond (decide ((x8 : Int) < 0)) (
  Q (-1) w2) (
  LD [.sl] (p_a.add 1) w2 fun (x12 : Sl) =>
  Calls Tryz.prog F.l_heldIntSS #[x12.v, .int .i64 x8] w2 (Ret [.at (.int .i64)] fun (x14 : Int) w3 =>
  cond (decide ((x14 : Int) < 0)) (
  Q (-1) w3) (
  LD [.sl] (p_a.add 2) w3 fun (x18 : Sl) =>
  Calls Tryz.prog F.l_heldIntSS #[x18.v, .int .i64 x14] w3 (Ret [.at (.int .i64)] fun (x20 : Int) w4 =>
  cond (decide ((x20 : Int) < 0)) (
  Q (-1) w4) (
  Q x20 w4))))))

theorem C_l_heldBound {Q : Int → World → Prop} {a_0 : Sl} {a_1 : Sl} {a_2 : Sl} {k : Int} {w : World} (h : V_l_heldBound Q a_0 a_1 a_2 k w) : Calls Tryz.prog F.l_heldBound #[.agg #[a_0.v, a_1.v, a_2.v], .int .i64 k] w (Ret [.at (.int .i64)] Q) :=
  mkC (hint := hint) (ann := annOf []) (args := [.agg #[a_0.v, a_1.v, a_2.v], .int .i64 k]) (rs := [.at (.int .i64)]) Tryz.func31 (by kernel_rfl) (by kernel_rfl) h

def V_s_JoinBounds_k1 (Q : Sl → Sl → Sl → Bool → World → Prop) (p_a : Addr) (p_b : Addr) (px4 : Addr) (w10 : World) : Prop :=
  ∀ w11, Ext w10 w11 → w11.heap = w10.heap → ∃ (D11 : Nat → Prop),
  ¬ D11 (p_a.add 0).block ∧ (
  LD [.sl] (p_a.add 0) w11 fun (x34 : Sl) =>
  ¬ D11 (p_b.add 0).block ∧ (
  LD [.sl] (p_b.add 0) w11 fun (x37 : Sl) =>
  SLC x37 (some 1) none 4 fun (x38 : Sl) =>
  RUN Tryz.prog (.at .sl) (Instr.buildSlice T.t_sl_i_Problem 0 #[]) w11 fun (x32 : Sl) w12 =>
  Chg w11 w12 D11 ∧ (
  RUN Tryz.prog (.at .sl) (bsem .append #[T.t_sl_i_Problem, T.t_sl_i_Problem] T.t_sl_i_Problem #[x32.v, x34.v]) w12 fun (x35 : Sl) w13 =>
  Chg w11 w13 D11 ∧ (
  RUN Tryz.prog (.at .sl) (bsem .append #[T.t_sl_i_Problem, T.t_sl_i_Problem] T.t_sl_i_Problem #[x35.v, x38.v]) w13 fun (x39 : Sl) w14 =>
  Chg w11 w14 D11 ∧ (
  Calls Tryz.prog F.s_boTwo #[x39.v] w14 (Ret [.at .bool] fun (x41 : Bool) w15 =>
  cond (!x41) (
  ST px4 0 [.slice none 0 0, .slice none 0 0, .slice none 0 0] w15 fun w16 =>
  LD [.sl, .sl, .sl] px4 w16 fun (r0_0_4 : Sl) (r0_1_4 : Sl) (r0_2_4 : Sl) =>
  Q r0_0_4 r0_1_4 r0_2_4 false w16) (
  Calls Tryz.prog F.s_boBuild #[x39.v] w15 (Ret [.agg [.sl, .sl, .sl], .at .bool] fun (x45_0_0 : Sl) (x45_0_1 : Sl) (x45_0_2 : Sl) (x45_1 : Bool) w17 =>
  ST px4 0 [x45_0_0.v, x45_0_1.v, x45_0_2.v] w17 fun w18 =>
  LD [.sl, .sl, .sl] px4 w18 fun (r0_0_5 : Sl) (r0_1_5 : Sl) (r0_2_5 : Sl) =>
  Q r0_0_5 r0_1_5 r0_2_5 x45_1 w18))))))))

def V_s_JoinBounds (Q : Sl → Sl → Sl → Bool → World → Prop) (a_0 : Sl) (a_1 : Sl) (a_2 : Sl) (b_0 : Sl) (b_1 : Sl) (b_2 : Sl) (w : World) : Prop :=
  NEW T.t_i_Bound #[a_0.v, a_1.v, a_2.v] w fun (p_a : Addr) w1 =>
  NEW T.t_i_Bound #[b_0.v, b_1.v, b_2.v] w1 fun (p_b : Addr) w2 =>
  NEW T.t_i_Bound #[.slice none 0 0, .slice none 0 0, .slice none 0 0] w2 fun (px4 : Addr) w3 =>
  LD [.sl, .sl, .sl] p_a w3 fun (x7_0 : Sl) (x7_1 : Sl) (x7_2 : Sl) =>
  QCALL Tryz.prog F.s_boGood #[.agg #[x7_0.v, x7_1.v, x7_2.v]] w3 [.at .bool] fun (x8 : Bool) =>
  cond (!x8) (
  ∀ w4, Ext w3 w4 →
  ST px4 0 [.slice none 0 0, .slice none 0 0, .slice none 0 0] w4 fun w7 =>
  LD [.sl, .sl, .sl] px4 w7 fun (r0_0 : Sl) (r0_1 : Sl) (r0_2 : Sl) =>
  Q r0_0 r0_1 r0_2 false w7) (
  LD [.sl, .sl, .sl] p_b w3 fun (x11_0 : Sl) (x11_1 : Sl) (x11_2 : Sl) =>
  QCALL Tryz.prog F.s_boGood #[.agg #[x11_0.v, x11_1.v, x11_2.v]] w3 [.at .bool] fun (x12 : Bool) =>
  cond (!x12) (
  ∀ w5, Ext w3 w5 →
  ST px4 0 [.slice none 0 0, .slice none 0 0, .slice none 0 0] w5 fun w8 =>
  LD [.sl, .sl, .sl] px4 w8 fun (r0_0_2 : Sl) (r0_1_2 : Sl) (r0_2_2 : Sl) =>
  Q r0_0_2 r0_1_2 r0_2_2 false w8) (
  LD [.sl] (p_a.add 0) w3 fun (x17 : Sl) =>
  LD [.sl] (p_a.add 0) w3 fun (x19 : Sl) =>
  IX x17 (IntKind.i64.wrap (x19.len - 1)) 4 fun (px22 : Addr) =>
  LD [.int .i64, .int .i64, .sl, .sl] px22 w3 fun (x23_0 : Int) (x23_1 : Int) (x23_2 : Sl) (x23_3 : Sl) =>
  LD [.sl] (p_b.add 0) w3 fun (x25 : Sl) =>
  IX x25 0 4 fun (px26 : Addr) =>
  LD [.int .i64, .int .i64, .sl, .sl] px26 w3 fun (x27_0 : Int) (x27_1 : Int) (x27_2 : Sl) (x27_3 : Sl) =>
  QCALL Tryz.prog F.s_prSame #[.agg #[.int .i64 x23_0, .int .i64 x23_1, x23_2.v, x23_3.v], .agg #[.int .i64 x27_0, .int .i64 x27_1, x27_2.v, x27_3.v]] w3 [.at .bool] fun (x28 : Bool) =>
  ∀ w6, Ext w3 w6 →
  cond (!x28) (
  ST px4 0 [.slice none 0 0, .slice none 0 0, .slice none 0 0] w6 fun w9 =>
  LD [.sl, .sl, .sl] px4 w9 fun (r0_0_3 : Sl) (r0_1_3 : Sl) (r0_2_3 : Sl) =>
  Q r0_0_3 r0_1_3 r0_2_3 false w9) (
  V_s_JoinBounds_k1 Q p_a p_b px4 w6)))

theorem C_s_JoinBounds {Q : Sl → Sl → Sl → Bool → World → Prop} {a_0 : Sl} {a_1 : Sl} {a_2 : Sl} {b_0 : Sl} {b_1 : Sl} {b_2 : Sl} {w : World} (h : V_s_JoinBounds Q a_0 a_1 a_2 b_0 b_1 b_2 w) : Calls Tryz.prog F.s_JoinBounds #[.agg #[a_0.v, a_1.v, a_2.v], .agg #[b_0.v, b_1.v, b_2.v]] w (Ret [.agg [.sl, .sl, .sl], .at .bool] Q) :=
  mkC (hint := hint) (ann := annOf []) (args := [.agg #[a_0.v, a_1.v, a_2.v], .agg #[b_0.v, b_1.v, b_2.v]]) (rs := [.agg [.sl, .sl, .sl], .at .bool]) Tryz.func32 (by kernel_rfl) (by kernel_rfl) h

def V_i_JoinBounds_k1 (Q : Sl → Sl → Sl → Bool → World → Prop) (p_a : Addr) (p_b : Addr) (px4 : Addr) (w12 : World) : Prop :=
  ∀ w13, Ext w12 w13 → w13.heap = w12.heap → ∃ (D13 : Nat → Prop),
  ¬ D13 (p_a.add 0).block ∧ (
  LD [.sl] (p_a.add 0) w13 fun (x44 : Sl) =>
  Chg w13 w13 D13 ∧ (
  LD [.sl] (p_b.add 0) w13 fun (x46 : Sl) =>
  Chg w13 w13 D13 ∧ (
  SLC x46 (some 1) none 4 fun (x47 : Sl) =>
  Chg w13 w13 D13 ∧ (
  RUN Tryz.prog (.at .sl) (Instr.buildSlice T.t_sl_sl_i_Problem 2 #[(0, x44.v), (1, x47.v)]) w13 fun (x48 : Sl) w14 =>
  Chg w13 w14 D13 ∧ (
  Calls Tryz.prog F.slices_Concat_sl_i_Problem_i_Problem #[x48.v] w14 (Ret [.at .sl] fun (x49 : Sl) w15 =>
  Chg w13 w15 D13 ∧ (
  Calls Tryz.prog F.i_BuildBound #[x49.v] w15 (Ret [.agg [.sl, .sl, .sl], .at .bool] fun (x50_0_0 : Sl) (x50_0_1 : Sl) (x50_0_2 : Sl) (x50_1 : Bool) w16 =>
  Chg w13 w16 D13 ∧ (
  Chg w13 w16 D13 ∧ (
  ST px4 0 [x50_0_0.v, x50_0_1.v, x50_0_2.v] w16 fun w17 =>
  LD [.sl, .sl, .sl] px4 w17 fun (r0_0_4 : Sl) (r0_1_4 : Sl) (r0_2_4 : Sl) =>
  Q r0_0_4 r0_1_4 r0_2_4 x50_1 w17))))))))))

def V_i_JoinBounds (Q : Sl → Sl → Sl → Bool → World → Prop) (a_0 : Sl) (a_1 : Sl) (a_2 : Sl) (b_0 : Sl) (b_1 : Sl) (b_2 : Sl) (w : World) : Prop :=
  NEW T.t_i_Bound #[a_0.v, a_1.v, a_2.v] w fun (p_a : Addr) w1 =>
  NEW T.t_i_Bound #[b_0.v, b_1.v, b_2.v] w1 fun (p_b : Addr) w2 =>
  NEW T.t_i_Bound #[.slice none 0 0, .slice none 0 0, .slice none 0 0] w2 fun (px4 : Addr) w3 =>
  LD [.sl, .sl, .sl] p_a w3 fun (x11_0 : Sl) (x11_1 : Sl) (x11_2 : Sl) =>
  Calls Tryz.prog F.i_BoundOf #[.agg #[x11_0.v, x11_1.v, x11_2.v]] w3 (Ret [.at (.int .i64), .at .bool] fun (x12_0 : Int) (x12_1 : Bool) w4 =>
  LD [.sl, .sl, .sl] p_b w4 fun (x16_0 : Sl) (x16_1 : Sl) (x16_2 : Sl) =>
  Calls Tryz.prog F.i_BoundOf #[.agg #[x16_0.v, x16_1.v, x16_2.v]] w4 (Ret [.at (.int .i64), .at .bool] fun (x17_0 : Int) (x17_1 : Bool) w5 =>
  cond (!x12_1) (
  ∀ w6, Ext w5 w6 →
  ST px4 0 [.slice none 0 0, .slice none 0 0, .slice none 0 0] w6 fun w9 =>
  LD [.sl, .sl, .sl] px4 w9 fun (r0_0 : Sl) (r0_1 : Sl) (r0_2 : Sl) =>
  Q r0_0 r0_1 r0_2 false w9) (
  cond (!x17_1) (
  ∀ w7, Ext w5 w7 →
  ST px4 0 [.slice none 0 0, .slice none 0 0, .slice none 0 0] w7 fun w10 =>
  LD [.sl, .sl, .sl] px4 w10 fun (r0_0_2 : Sl) (r0_1_2 : Sl) (r0_2_2 : Sl) =>
  Q r0_0_2 r0_1_2 r0_2_2 false w10) (
  LD [.sl] (p_a.add 0) w5 fun (x28 : Sl) =>
  LD [.sl] (p_a.add 0) w5 fun (x30 : Sl) =>
  IX x28 (IntKind.i64.wrap (x30.len - 1)) 4 fun (px33 : Addr) =>
  LD [.int .i64, .int .i64, .sl, .sl] px33 w5 fun (x34_0 : Int) (x34_1 : Int) (x34_2 : Sl) (x34_3 : Sl) =>
  LD [.sl] (p_b.add 0) w5 fun (x36 : Sl) =>
  IX x36 0 4 fun (px37 : Addr) =>
  LD [.int .i64, .int .i64, .sl, .sl] px37 w5 fun (x38_0 : Int) (x38_1 : Int) (x38_2 : Sl) (x38_3 : Sl) =>
  QCALL Tryz.prog F.i_sameProblem #[.agg #[.int .i64 x34_0, .int .i64 x34_1, x34_2.v, x34_3.v], .agg #[.int .i64 x38_0, .int .i64 x38_1, x38_2.v, x38_3.v]] w5 [.at .bool] fun (x39 : Bool) =>
  ∀ w8, Ext w5 w8 →
  cond (!x39) (
  ST px4 0 [.slice none 0 0, .slice none 0 0, .slice none 0 0] w8 fun w11 =>
  LD [.sl, .sl, .sl] px4 w11 fun (r0_0_3 : Sl) (r0_1_3 : Sl) (r0_2_3 : Sl) =>
  Q r0_0_3 r0_1_3 r0_2_3 false w11) (
  V_i_JoinBounds_k1 Q p_a p_b px4 w8)))))

theorem C_i_JoinBounds {Q : Sl → Sl → Sl → Bool → World → Prop} {a_0 : Sl} {a_1 : Sl} {a_2 : Sl} {b_0 : Sl} {b_1 : Sl} {b_2 : Sl} {w : World} (h : V_i_JoinBounds Q a_0 a_1 a_2 b_0 b_1 b_2 w) : Calls Tryz.prog F.i_JoinBounds #[.agg #[a_0.v, a_1.v, a_2.v], .agg #[b_0.v, b_1.v, b_2.v]] w (Ret [.agg [.sl, .sl, .sl], .at .bool] Q) :=
  mkC (hint := hint) (ann := annOf []) (args := [.agg #[a_0.v, a_1.v, a_2.v], .agg #[b_0.v, b_1.v, b_2.v]]) (rs := [.agg [.sl, .sl, .sl], .at .bool]) Tryz.func33 (by kernel_rfl) (by kernel_rfl) h

def V_l_szProblemS (Q : Int → World → Prop) (a : Sl) (left : Int) (w : World) : Prop :=
  cond (decide (((IntKind.i64.wrap (left - a.len)) : Int) < 0)) (
  Q (-1) w) (
  ∃ (I5 : Int → Int → World → Prop) (m5 : Int → Int → World → Nat), I5 (IntKind.i64.wrap (left - a.len)) 0 w ∧ ∀ (left_2 : Int) (i : Int) w1, I5 left_2 i w1 → ∀ _ _ _ _ _ _ _ _ _ _ _ _ _ _ _ : Value,
  cond (decide ((i : Int) < a.len)) (
  IX a i 4 fun (px20 : Addr) =>
  LD [.int .i64, .int .i64, .sl, .sl] px20 w1 fun (x21_0 : Int) (x21_1 : Int) (x21_2 : Sl) (x21_3 : Sl) =>
  Calls Tryz.prog F.l_szProblem #[.agg #[.int .i64 x21_0, .int .i64 x21_1, x21_2.v, x21_3.v], .int .i64 left_2] w1 (Ret [.at (.int .i64)] fun (x23 : Int) w2 =>
  cond (decide ((x23 : Int) < 0)) (
  Q (-1) w2) (
  I5 x23 (IntKind.i64.wrap (i + 1)) w2 ∧ m5 x23 (IntKind.i64.wrap (i + 1)) w2 < m5 left_2 i w1))) (
  Q left_2 w1))

theorem C_l_szProblemS {Q : Int → World → Prop} {a : Sl} {left : Int} {w : World} (h : V_l_szProblemS Q a left w) : Calls Tryz.prog F.l_szProblemS #[a.v, .int .i64 left] w (Ret [.at (.int .i64)] Q) :=
  mkC (hint := hint) (ann := annOf [(5, ⟨[(1, .int .i64), (5, .int .i64)], [4, 12, 13, 14, 15, 16, 17, 18, 19, 20, 21, 22, 23, 24, 25]⟩)]) (args := [a.v, .int .i64 left]) (rs := [.at (.int .i64)]) Tryz.func34 (by kernel_rfl) (by kernel_rfl) h

def V_l_szIntSS (Q : Int → World → Prop) (a : Sl) (left : Int) (w : World) : Prop :=
  cond (decide (((IntKind.i64.wrap (left - a.len)) : Int) < 0)) (
  Q (-1) w) (
  ∃ (I5 : Int → Int → World → Prop) (m5 : Int → Int → World → Nat), I5 (IntKind.i64.wrap (left - a.len)) 0 w ∧ ∀ (left_2 : Int) (i : Int) w1, I5 left_2 i w1 → ∀ _ _ _ _ _ _ _ _ _ _ _ _ _ _ _ : Value,
  cond (decide ((i : Int) < a.len)) (
  IX a i 1 fun (px20 : Addr) =>
  LD [.sl] px20 w1 fun (x21 : Sl) =>
  Calls Tryz.prog F.l_szIntS #[x21.v, .int .i64 left_2] w1 (Ret [.at (.int .i64)] fun (x23 : Int) w2 =>
  cond (decide ((x23 : Int) < 0)) (
  Q (-1) w2) (
  I5 x23 (IntKind.i64.wrap (i + 1)) w2 ∧ m5 x23 (IntKind.i64.wrap (i + 1)) w2 < m5 left_2 i w1))) (
  Q left_2 w1))

theorem C_l_szIntSS {Q : Int → World → Prop} {a : Sl} {left : Int} {w : World} (h : V_l_szIntSS Q a left w) : Calls Tryz.prog F.l_szIntSS #[a.v, .int .i64 left] w (Ret [.at (.int .i64)] Q) :=
  mkC (hint := hint) (ann := annOf [(5, ⟨[(1, .int .i64), (5, .int .i64)], [4, 12, 13, 14, 15, 16, 17, 18, 19, 20, 21, 22, 23, 24, 25]⟩)]) (args := [a.v, .int .i64 left]) (rs := [.at (.int .i64)]) Tryz.func35 (by kernel_rfl) (by kernel_rfl) h

def V_s_boTwo (Q : Bool → World → Prop) (ps : Sl) (w : World) : Prop :=
  ∃ (I2 : Int → World → Prop) (m2 : Int → World → Nat), I2 0 w ∧ ∀ (x7 : Int) w1, I2 x7 w1 → ∀ _ _ _ _ _ _ _ _ _ _ _ _ _ _ _ _ _ _ : Value,
  cond (decide ((x7 : Int) < ps.len)) (
  IX ps x7 4 fun (px9 : Addr) =>
  LD [.int .i64, .int .i64, .sl, .sl] px9 w1 fun (x10_0 : Int) (x10_1 : Int) (x10_2 : Sl) (x10_3 : Sl) =>
  NEW T.t_i_Problem #[.int .i64 0, .int .i64 0, .slice none 0 0, .slice none 0 0] w1 fun (p_p : Addr) w2 =>
  ST p_p 0 [.int .i64 x10_0, .int .i64 x10_1, x10_2.v, x10_3.v] w2 fun w3 =>
  LD [.int .i64, .int .i64, .sl, .sl] p_p w3 fun (x11_0 : Int) (x11_1 : Int) (x11_2 : Sl) (x11_3 : Sl) =>
  QCALL Tryz.prog F.s_prGood #[.agg #[.int .i64 x11_0, .int .i64 x11_1, x11_2.v, x11_3.v]] w3 [.at .bool] fun (x12 : Bool) =>
  cond (!x12) (
  ∀ w4, Ext w3 w4 →
  Q false w4) (
  LD [.int .i64] (p_p.add 1) w3 fun (x16 : Int) =>
  IX ps 0 4 fun (px18 : Addr) =>
  LD [.int .i64] (px18.add 1) w3 fun (x20 : Int) =>
  ∀ w5, Ext w3 w5 →
  cond ((x16 : Int) != x20) (
  Q false w5) (
  I2 (IntKind.i64.wrap (x7 + 1)) w5 ∧ m2 (IntKind.i64.wrap (x7 + 1)) w5 < m2 x7 w1))) (
  Calls Tryz.prog F.s_l1In #[.int .i64 ps.len, .int .i64 1, .int .i64 7] w1 (Ret [.at .bool] fun (x26 : Bool) w6 =>
  Q x26 w6))

theorem C_s_boTwo {Q : Bool → World → Prop} {ps : Sl} {w : World} (h : V_s_boTwo Q ps w) : Calls Tryz.prog F.s_boTwo #[ps.v] w (Ret [.at .bool] Q) :=
  mkC (hint := hint) (ann := annOf [(2, ⟨[(7, .int .i64)], [2, 4, 8, 9, 10, 11, 12, 13, 14, 15, 16, 17, 18, 19, 20, 21, 22, 23]⟩)]) (args := [ps.v]) (rs := [.at .bool]) Tryz.func36 (by kernel_rfl) (by kernel_rfl) h

def V_s_boRight_k1 (Q : Bool → World → Prop) (p_b : Addr) (w4 : World) : Prop :=
  LD [.sl] (p_b.add 1) w4 fun (x27 : Sl) =>
  ∃ (I5 : Int → World → Prop) (m5 : Int → World → Nat), I5 0 w4 ∧ ∀ (x29 : Int) w5, I5 x29 w5 → ∀ _ _ _ _ _ _ _ _ _ _ _ _ _ _ _ _ _ _ _ _ _ _ : Value,
  cond (decide ((x29 : Int) < x27.len)) (
  IX x27 x29 1 fun (px32 : Addr) =>
  LD [.sl] px32 w5 fun (x33 : Sl) =>
  LD [.sl] (p_b.add 0) w5 fun (x35 : Sl) =>
  IX x35 x29 4 fun (px37 : Addr) =>
  LD [.int .i64, .int .i64, .sl, .sl] px37 w5 fun (x38_0 : Int) (x38_1 : Int) (x38_2 : Sl) (x38_3 : Sl) =>
  LD [.sl] (p_b.add 0) w5 fun (x40 : Sl) =>
  IX x40 (IntKind.i64.wrap (x29 + 1)) 4 fun (px43 : Addr) =>
  LD [.int .i64, .int .i64, .sl, .sl] px43 w5 fun (x44_0 : Int) (x44_1 : Int) (x44_2 : Sl) (x44_3 : Sl) =>
  QCALL Tryz.prog F.s_boStep #[.agg #[.int .i64 x38_0, .int .i64 x38_1, x38_2.v, x38_3.v], .agg #[.int .i64 x44_0, .int .i64 x44_1, x44_2.v, x44_3.v], x33.v] w5 [.at .bool] fun (x46 : Bool) =>
  ∀ w6, Ext w5 w6 →
  cond (!x46) (
  Q false w6) (
  I5 (IntKind.i64.wrap (x29 + 1)) w6 ∧ m5 (IntKind.i64.wrap (x29 + 1)) w6 < m5 x29 w5)) (
  Q true w5)

def V_s_boRight (Q : Bool → World → Prop) (b_0 : Sl) (b_1 : Sl) (b_2 : Sl) (w : World) : Prop :=
  NEW T.t_i_Bound #[b_0.v, b_1.v, b_2.v] w fun (p_b : Addr) w1 =>
  LD [.sl] (p_b.add 0) w1 fun (x7 : Sl) =>
  LD [.sl] (p_b.add 1) w1 fun (x11 : Sl) =>
  cond ((x11.len : Int) != (IntKind.i64.wrap (x7.len - 1))) (
  ∀ w2, Ext w1 w2 →
  Q false w2) (
  LD [.sl] (p_b.add 0) w1 fun (x17 : Sl) =>
  IX x17 (IntKind.i64.wrap (x7.len - 1)) 4 fun (px19 : Addr) =>
  LD [.int .i64, .int .i64, .sl, .sl] px19 w1 fun (x20_0 : Int) (x20_1 : Int) (x20_2 : Sl) (x20_3 : Sl) =>
  LD [.sl] (p_b.add 2) w1 fun (x22 : Sl) =>
  QCALL Tryz.prog F.s_boZero #[.agg #[.int .i64 x20_0, .int .i64 x20_1, x20_2.v, x20_3.v], x22.v] w1 [.at .bool] fun (x23 : Bool) =>
  ∀ w3, Ext w1 w3 →
  cond (!x23) (
  Q false w3) (
  V_s_boRight_k1 Q p_b w3))

theorem C_s_boRight {Q : Bool → World → Prop} {b_0 : Sl} {b_1 : Sl} {b_2 : Sl} {w : World} (h : V_s_boRight Q b_0 b_1 b_2 w) : Calls Tryz.prog F.s_boRight #[.agg #[b_0.v, b_1.v, b_2.v]] w (Ret [.at .bool] Q) :=
  mkC (hint := hint) (ann := annOf [(5, ⟨[(29, .int .i64)], [2, 4, 5, 30, 31, 32, 33, 34, 35, 36, 37, 38, 39, 40, 41, 42, 43, 44, 45, 46, 47, 48]⟩)]) (args := [.agg #[b_0.v, b_1.v, b_2.v]]) (rs := [.at .bool]) Tryz.func37 (by kernel_rfl) (by kernel_rfl) h

def V_l_toProblemS (Q : Sl → World → Prop) (a : Sl) (w : World) : Prop :=
  RUN Tryz.prog (.at .sl) (Instr.makeSlice T.t_sl_i_Problem (.int .i64 a.len) (.int .i64 a.len)) w fun (x7 : Sl) w1 =>
  ∃ (I3 : Int → World → Prop) (m3 : Int → World → Nat), I3 0 w1 ∧ ∀ (i : Int) w2, I3 i w2 → ∀ _ _ _ _ _ _ _ _ _ _ _ _ _ _ : Value,
  cond (decide ((i : Int) < a.len)) (
  IX a i 4 fun (px18 : Addr) =>
  LD [.int .i64, .int .i64, .sl, .sl] px18 w2 fun (x19_0 : Int) (x19_1 : Int) (x19_2 : Sl) (x19_3 : Sl) =>
  Calls Tryz.prog F.l_toProblem #[.agg #[.int .i64 x19_0, .int .i64 x19_1, x19_2.v, x19_3.v]] w2 (Ret [.agg [.int .i64, .int .i64, .sl, .sl]] fun (x20_0 : Int) (x20_1 : Int) (x20_2 : Sl) (x20_3 : Sl) w3 =>
  IX x7 i 4 fun (px21 : Addr) =>
  ST px21 0 [.int .i64 x20_0, .int .i64 x20_1, x20_2.v, x20_3.v] w3 fun w4 =>
  I3 (IntKind.i64.wrap (i + 1)) w4 ∧ m3 (IntKind.i64.wrap (i + 1)) w4 < m3 i w2)) (
  Q x7 w2)

theorem C_l_toProblemS {Q : Sl → World → Prop} {a : Sl} {w : World} (h : V_l_toProblemS Q a w) : Calls Tryz.prog F.l_toProblemS #[a.v] w (Ret [.at .sl] Q) :=
  mkC (hint := hint) (ann := annOf [(3, ⟨[(4, .int .i64)], [8, 9, 10, 11, 12, 13, 14, 15, 16, 17, 18, 19, 20, 21]⟩)]) (args := [a.v]) (rs := [.at .sl]) Tryz.func38 (by kernel_rfl) (by kernel_rfl) h

def V_l_toIntSS (Q : Sl → World → Prop) (a : Sl) (w : World) : Prop :=
  RUN Tryz.prog (.at .sl) (Instr.makeSlice T.t_sl_sl_int (.int .i64 a.len) (.int .i64 a.len)) w fun (x7 : Sl) w1 =>
  ∃ (I3 : Int → World → Prop) (m3 : Int → World → Nat), I3 0 w1 ∧ ∀ (i : Int) w2, I3 i w2 → ∀ _ _ _ _ _ _ _ _ _ _ _ _ _ _ : Value,
  cond (decide ((i : Int) < a.len)) (
  IX a i 1 fun (px18 : Addr) =>
  LD [.sl] px18 w2 fun (x19 : Sl) =>
  Calls Tryz.prog F.l_toIntS #[x19.v] w2 (Ret [.at .sl] fun (x20 : Sl) w3 =>
  IX x7 i 1 fun (px21 : Addr) =>
  ST px21 0 [x20.v] w3 fun w4 =>
  I3 (IntKind.i64.wrap (i + 1)) w4 ∧ m3 (IntKind.i64.wrap (i + 1)) w4 < m3 i w2)) (
  Q x7 w2)

theorem C_l_toIntSS {Q : Sl → World → Prop} {a : Sl} {w : World} (h : V_l_toIntSS Q a w) : Calls Tryz.prog F.l_toIntSS #[a.v] w (Ret [.at .sl] Q) :=
  mkC (hint := hint) (ann := annOf [(3, ⟨[(4, .int .i64)], [8, 9, 10, 11, 12, 13, 14, 15, 16, 17, 18, 19, 20, 21]⟩)]) (args := [a.v]) (rs := [.at .sl]) Tryz.func39 (by kernel_rfl) (by kernel_rfl) h

def V_i_problemsOk (Q : Bool → World → Prop) (ps : Sl) (w : World) : Prop :=
  NEW T.t_sl_i_Problem #[ps.v] w fun (p_ps : Addr) w1 =>
  LD [.sl] p_ps w1 fun (x3 : Sl) =>
  Calls Tryz.prog F.i_within #[.int .i64 x3.len, .int .i64 1, .int .i64 7] w1 (Ret [.at .bool] fun (x5 : Bool) w2 =>
  cond (!x5) (
  Q false w2) (
  LD [.sl] p_ps w2 fun (x7 : Sl) =>
  Calls Tryz.prog F.slices_ContainsFunc_sl_i_Problem_i_Problem #[x7.v, .func (.func F.i_problemsOk_1) #[] #[.pointer (some p_ps)]] w2 (Ret [.at .bool] fun (x9 : Bool) w3 =>
  Q (!x9) w3)))

theorem C_i_problemsOk {Q : Bool → World → Prop} {ps : Sl} {w : World} (h : V_i_problemsOk Q ps w) : Calls Tryz.prog F.i_problemsOk #[ps.v] w (Ret [.at .bool] Q) :=
  mkC (hint := hint) (ann := annOf []) (args := [ps.v]) (rs := [.at .bool]) Tryz.func40 (by kernel_rfl) (by kernel_rfl) h

def V_i_isRightBound (Q : Bool → World → Prop) (b_0 : Sl) (b_1 : Sl) (b_2 : Sl) (w : World) : Prop :=
  NEW T.t_i_Bound #[b_0.v, b_1.v, b_2.v] w fun (p_b : Addr) w1 =>
  LD [.sl] (p_b.add 0) w1 fun (x11 : Sl) =>
  LD [.sl] (p_b.add 1) w1 fun (x15 : Sl) =>
  cond ((x15.len : Int) != (IntKind.i64.wrap (x11.len - 1))) (
  Q false w1) (
  LD [.sl] (p_b.add 1) w1 fun (x20 : Sl) =>
  ∃ (I5 : Int → World → Prop) (m5 : Int → World → Nat), I5 0 w1 ∧ ∀ (x22 : Int) w2, I5 x22 w2 → ∀ _ _ _ _ _ _ _ _ _ _ _ _ _ _ _ _ _ _ _ _ _ _ _ _ _ _ _ _ _ _ _ _ _ _ _ _ _ : Value,
  cond (decide ((x22 : Int) < x20.len)) (
  IX x20 x22 1 fun (px25 : Addr) =>
  LD [.sl] px25 w2 fun (x26 : Sl) =>
  LD [.sl] (p_b.add 0) w2 fun (x29 : Sl) =>
  IX x29 x22 4 fun (px31 : Addr) =>
  LD [.int .i64, .int .i64, .sl, .sl] px31 w2 fun (x32_0 : Int) (x32_1 : Int) (x32_2 : Sl) (x32_3 : Sl) =>
  Calls Tryz.prog F.i_eliminate #[.agg #[.int .i64 x32_0, .int .i64 x32_1, x32_2.v, x32_3.v]] w2 (Ret [.agg [.int .i64, .int .i64, .sl, .sl], .at .sl, .at .sl, .at .bool] fun (x33_0_0 : Int) (x33_0_1 : Int) (x33_0_2 : Sl) (x33_0_3 : Sl) (x33_1 : Sl) (x33_2 : Sl) (x33_3 : Bool) w3 =>
  NEW T.t_i_Problem #[.int .i64 0, .int .i64 0, .slice none 0 0, .slice none 0 0] w3 fun (p_q : Addr) w4 =>
  ST p_q 0 [.int .i64 x33_0_0, .int .i64 x33_0_1, x33_0_2.v, x33_0_3.v] w4 fun w5 =>
  cond (!x33_3) (
  ∀ w6, Ext w5 w6 →
  Q false w6) (
  LD [.int .i64, .int .i64, .sl, .sl] p_q w5 fun (x41_0 : Int) (x41_1 : Int) (x41_2 : Sl) (x41_3 : Sl) =>
  LD [.sl] (p_b.add 0) w5 fun (x43 : Sl) =>
  IX x43 (IntKind.i64.wrap (x22 + 1)) 4 fun (px46 : Addr) =>
  LD [.int .i64, .int .i64, .sl, .sl] px46 w5 fun (x47_0 : Int) (x47_1 : Int) (x47_2 : Sl) (x47_3 : Sl) =>
  QCALL Tryz.prog F.i_isLabelMap #[.agg #[.int .i64 x41_0, .int .i64 x41_1, x41_2.v, x41_3.v], .agg #[.int .i64 x47_0, .int .i64 x47_1, x47_2.v, x47_3.v], x26.v] w5 [.at .bool] fun (x49 : Bool) =>
  ∀ w7, Ext w5 w7 →
  cond (!x49) (
  Q false w7) (
  I5 (IntKind.i64.wrap (x22 + 1)) w7 ∧ m5 (IntKind.i64.wrap (x22 + 1)) w7 < m5 x22 w2)))) (
  LD [.sl] (p_b.add 0) w2 fun (x54 : Sl) =>
  IX x54 (IntKind.i64.wrap (x11.len - 1)) 4 fun (px56 : Addr) =>
  LD [.int .i64, .int .i64, .sl, .sl] px56 w2 fun (x57_0 : Int) (x57_1 : Int) (x57_2 : Sl) (x57_3 : Sl) =>
  LD [.sl] (p_b.add 2) w2 fun (x59 : Sl) =>
  QCALL Tryz.prog F.i_isZeroRefusal #[.agg #[.int .i64 x57_0, .int .i64 x57_1, x57_2.v, x57_3.v], x59.v] w2 [.at .bool] fun (x60 : Bool) =>
  ∀ w8, Ext w2 w8 →
  Q x60 w8))

theorem C_i_isRightBound {Q : Bool → World → Prop} {b_0 : Sl} {b_1 : Sl} {b_2 : Sl} {w : World} (h : V_i_isRightBound Q b_0 b_1 b_2 w) : Calls Tryz.prog F.i_isRightBound #[.agg #[b_0.v, b_1.v, b_2.v]] w (Ret [.at .bool] Q) :=
  mkC (hint := hint) (ann := annOf [(5, ⟨[(22, .int .i64)], [2, 4, 5, 6, 7, 8, 9, 23, 24, 25, 26, 27, 28, 29, 30, 31, 32, 33, 34, 35, 36, 37, 38, 39, 40, 41, 42, 43, 44, 45, 46, 47, 48, 49, 50, 51, 52]⟩)]) (args := [.agg #[b_0.v, b_1.v, b_2.v]]) (rs := [.at .bool]) Tryz.func41 (by kernel_rfl) (by kernel_rfl) h

def V_l_eqProblemS (Q : Bool → World → Prop) (a : Sl) (b : Sl) (w : World) : Prop :=
  cond ((a.len : Int) != b.len) (
  Q false w) (
  ∃ (I4 : Int → World → Prop) (m4 : Int → World → Nat), I4 0 w ∧ ∀ (i : Int) w1, I4 i w1 → ∀ _ _ _ _ _ _ _ _ _ _ _ _ _ _ _ _ _ : Value,
  cond (decide ((i : Int) < a.len)) (
  IX a i 4 fun (px19 : Addr) =>
  LD [.int .i64, .int .i64, .sl, .sl] px19 w1 fun (x20_0 : Int) (x20_1 : Int) (x20_2 : Sl) (x20_3 : Sl) =>
  IX b i 4 fun (px23 : Addr) =>
  LD [.int .i64, .int .i64, .sl, .sl] px23 w1 fun (x24_0 : Int) (x24_1 : Int) (x24_2 : Sl) (x24_3 : Sl) =>
  QCALL Tryz.prog F.l_eqProblem #[.agg #[.int .i64 x20_0, .int .i64 x20_1, x20_2.v, x20_3.v], .agg #[.int .i64 x24_0, .int .i64 x24_1, x24_2.v, x24_3.v]] w1 [.at .bool] fun (x25 : Bool) =>
  ∀ w2, Ext w1 w2 →
  cond (!x25) (
  Q false w2) (
  I4 (IntKind.i64.wrap (i + 1)) w2 ∧ m4 (IntKind.i64.wrap (i + 1)) w2 < m4 i w1)) (
  Q true w1))

theorem C_l_eqProblemS {Q : Bool → World → Prop} {a : Sl} {b : Sl} {w : World} (h : V_l_eqProblemS Q a b w) : Calls Tryz.prog F.l_eqProblemS #[a.v, b.v] w (Ret [.at .bool] Q) :=
  mkC (hint := hint) (ann := annOf [(4, ⟨[(5, .int .i64)], [4, 11, 12, 13, 14, 15, 16, 17, 18, 19, 20, 21, 22, 23, 24, 25, 26]⟩)]) (args := [a.v, b.v]) (rs := [.at .bool]) Tryz.func42 (by kernel_rfl) (by kernel_rfl) h

def V_s_boGood (Q : Bool → World → Prop) (b_0 : Sl) (b_1 : Sl) (b_2 : Sl) (w : World) : Prop :=
  NEW T.t_i_Bound #[b_0.v, b_1.v, b_2.v] w fun (p_b : Addr) w1 =>
  LD [.sl] (p_b.add 0) w1 fun (x4 : Sl) =>
  Calls Tryz.prog F.s_boTwo #[x4.v] w1 (Ret [.at .bool] fun (x5 : Bool) w2 =>
  cond x5 (
  LD [.sl, .sl, .sl] p_b w2 fun (x7_0 : Sl) (x7_1 : Sl) (x7_2 : Sl) =>
  Calls Tryz.prog F.s_boRight #[.agg #[x7_0.v, x7_1.v, x7_2.v]] w2 (Ret [.at .bool] fun (x8 : Bool) w3 =>
  Q x8 w3)) (
  Q false w2))

theorem C_s_boGood {Q : Bool → World → Prop} {b_0 : Sl} {b_1 : Sl} {b_2 : Sl} {w : World} (h : V_s_boGood Q b_0 b_1 b_2 w) : Calls Tryz.prog F.s_boGood #[.agg #[b_0.v, b_1.v, b_2.v]] w (Ret [.at .bool] Q) :=
  mkC (hint := hint) (ann := annOf []) (args := [.agg #[b_0.v, b_1.v, b_2.v]]) (rs := [.at .bool]) Tryz.func43 (by kernel_rfl) (by kernel_rfl) h

def V_l_szIntS (Q : Int → World → Prop) (a : Sl) (left : Int) (w : World) : Prop :=
  cond (decide (((IntKind.i64.wrap (left - a.len)) : Int) < 0)) (
  Q (-1) w) (
  Q (IntKind.i64.wrap (left - a.len)) w)

theorem C_l_szIntS {Q : Int → World → Prop} {a : Sl} {left : Int} {w : World} (h : V_l_szIntS Q a left w) : Calls Tryz.prog F.l_szIntS #[a.v, .int .i64 left] w (Ret [.at (.int .i64)] Q) :=
  mkC (hint := hint) (ann := annOf []) (args := [a.v, .int .i64 left]) (rs := [.at (.int .i64)]) Tryz.func45 (by kernel_rfl) (by kernel_rfl) h

def V_l_toIntS (Q : Sl → World → Prop) (a : Sl) (w : World) : Prop :=
  RUN Tryz.prog (.at .sl) (Instr.makeSlice T.t_sl_int (.int .i64 a.len) (.int .i64 a.len)) w fun (x7 : Sl) w1 =>
  ∃ (I3 : Int → World → Prop) (m3 : Int → World → Nat), I3 0 w1 ∧ ∀ (i : Int) w2, I3 i w2 → ∀ _ _ _ _ _ _ _ _ _ _ _ _ _ : Value,
  cond (decide ((i : Int) < a.len)) (
  IX a i 1 fun (px18 : Addr) =>
  LD [.int .i64] px18 w2 fun (x19 : Int) =>
  IX x7 i 1 fun (px20 : Addr) =>
  ST px20 0 [.int .i64 x19] w2 fun w3 =>
  I3 (IntKind.i64.wrap (i + 1)) w3 ∧ m3 (IntKind.i64.wrap (i + 1)) w3 < m3 i w2) (
  Q x7 w2)

theorem C_l_toIntS {Q : Sl → World → Prop} {a : Sl} {w : World} (h : V_l_toIntS Q a w) : Calls Tryz.prog F.l_toIntS #[a.v] w (Ret [.at .sl] Q) :=
  mkC (hint := hint) (ann := annOf [(3, ⟨[(4, .int .i64)], [8, 9, 10, 11, 12, 13, 14, 15, 16, 17, 18, 19, 20]⟩)]) (args := [a.v]) (rs := [.at .sl]) Tryz.func52 (by kernel_rfl) (by kernel_rfl) h

def V_l_eqIntS (Q : Bool → World → Prop) (a : Sl) (b : Sl) (w : World) : Prop :=
  cond ((a.len : Int) != b.len) (
  Q false w) (
  ∃ (I4 : Int → World → Prop) (m4 : Int → World → Nat), I4 0 w ∧ ∀ (i : Int) w1, I4 i w1 → ∀ _ _ _ _ _ _ _ _ _ _ _ _ _ _ _ _ : Value,
  cond (decide ((i : Int) < a.len)) (
  IX a i 1 fun (px19 : Addr) =>
  LD [.int .i64] px19 w1 fun (x20 : Int) =>
  IX b i 1 fun (px23 : Addr) =>
  LD [.int .i64] px23 w1 fun (x24 : Int) =>
  ∀ w2, Ext w1 w2 →
  cond ((x20 : Int) != x24) (
  Q false w2) (
  I4 (IntKind.i64.wrap (i + 1)) w2 ∧ m4 (IntKind.i64.wrap (i + 1)) w2 < m4 i w1)) (
  Q true w1))

theorem C_l_eqIntS {Q : Bool → World → Prop} {a : Sl} {b : Sl} {w : World} (h : V_l_eqIntS Q a b w) : Calls Tryz.prog F.l_eqIntS #[a.v, b.v] w (Ret [.at .bool] Q) :=
  mkC (hint := hint) (ann := annOf [(4, ⟨[(5, .int .i64)], [4, 11, 12, 13, 14, 15, 16, 17, 18, 19, 20, 21, 22, 23, 24, 25]⟩)]) (args := [a.v, b.v]) (rs := [.at .bool]) Tryz.func60 (by kernel_rfl) (by kernel_rfl) h

def V_l_markIntS (Q : Int → World → Prop) (a : Sl) (k : Int) (w : World) : Prop :=
  ∃ (I2 : Int → Int → World → Prop) (m2 : Int → Int → World → Nat), I2 k 0 w ∧ ∀ (k_2 : Int) (i : Int) w1, I2 k_2 i w1 → ∀ _ _ _ _ _ _ _ _ _ _ _ _ : Value,
  cond (decide ((i : Int) < a.len)) (
  IX a i 1 fun (px15 : Addr) =>
  ST px15 0 [.int .i64 k_2] w1 fun w2 =>
  I2 (IntKind.i64.wrap (k_2 + 1)) (IntKind.i64.wrap (i + 1)) w2 ∧ m2 (IntKind.i64.wrap (k_2 + 1)) (IntKind.i64.wrap (i + 1)) w2 < m2 k_2 i w1) (
  Q k_2 w1)

theorem C_l_markIntS {Q : Int → World → Prop} {a : Sl} {k : Int} {w : World} (h : V_l_markIntS Q a k w) : Calls Tryz.prog F.l_markIntS #[a.v, .int .i64 k] w (Ret [.at (.int .i64)] Q) :=
  mkC (hint := hint) (ann := annOf [(2, ⟨[(1, .int .i64), (5, .int .i64)], [6, 7, 8, 9, 10, 11, 12, 13, 14, 15, 16, 17]⟩)]) (args := [a.v, .int .i64 k]) (rs := [.at (.int .i64)]) Tryz.func63 (by kernel_rfl) (by kernel_rfl) h

def V_l_heldIntS (Q : Int → World → Prop) (a : Sl) (k : Int) (w : World) : Prop :=
  ∃ (I2 : Int → Int → World → Prop) (m2 : Int → Int → World → Nat), I2 k 0 w ∧ ∀ (k_2 : Int) (i : Int) w1, I2 k_2 i w1 → ∀ _ _ _ _ _ _ _ _ _ _ _ _ _ _ _ : Value,
  cond (decide ((i : Int) < a.len)) (
  IX a i 1 fun (px14 : Addr) =>
  LD [.int .i64] px14 w1 fun (x15 : Int) =>
  cond ((x15 : Int) != k_2) (
  Q (-1) w1) (
  I2 (IntKind.i64.wrap (k_2 + 1)) (IntKind.i64.wrap (i + 1)) w1 ∧ m2 (IntKind.i64.wrap (k_2 + 1)) (IntKind.i64.wrap (i + 1)) w1 < m2 k_2 i w1)) (
  Q k_2 w1)

theorem C_l_heldIntS {Q : Int → World → Prop} {a : Sl} {k : Int} {w : World} (h : V_l_heldIntS Q a k w) : Calls Tryz.prog F.l_heldIntS #[a.v, .int .i64 k] w (Ret [.at (.int .i64)] Q) :=
  mkC (hint := hint) (ann := annOf [(2, ⟨[(1, .int .i64), (5, .int .i64)], [4, 6, 7, 8, 9, 10, 11, 12, 13, 14, 15, 16, 17, 18, 19]⟩)]) (args := [a.v, .int .i64 k]) (rs := [.at (.int .i64)]) Tryz.func64 (by kernel_rfl) (by kernel_rfl) h

def V_s_l1In (Q : Bool → World → Prop) (n : Int) (lo : Int) (hi : Int) (w : World) : Prop :=
  cond (decide ((n : Int) ≥ lo)) (
  Q (decide ((n : Int) ≤ hi)) w) (
  Q false w)

theorem C_s_l1In {Q : Bool → World → Prop} {n : Int} {lo : Int} {hi : Int} {w : World} (h : V_s_l1In Q n lo hi w) : Calls Tryz.prog F.s_l1In #[.int .i64 n, .int .i64 lo, .int .i64 hi] w (Ret [.at .bool] Q) :=
  mkC (hint := hint) (ann := annOf []) (args := [.int .i64 n, .int .i64 lo, .int .i64 hi]) (rs := [.at .bool]) Tryz.func65 (by kernel_rfl) (by kernel_rfl) h

def V_s_boBuild (Q : Sl → Sl → Sl → Bool → World → Prop) (x0 : Sl) (w : World) : Prop :=
  NEW T.t_i_Bound #[.slice none 0 0, .slice none 0 0, .slice none 0 0] w fun (px2 : Addr) w1 =>
  NEW T.t_i_Bound #[.slice none 0 0, .slice none 0 0, .slice none 0 0] w1 fun (px4 : Addr) w2 =>
  ST px4 0 [.slice none 0 0, .slice none 0 0, .slice none 0 0] w2 fun w3 =>
  ∃ (I3 : Int → World → Prop) (m3 : Int → World → Nat), I3 0 w3 ∧ ∀ (x18 : Int) w4, I3 x18 w4 → ∀ _ _ _ _ _ _ _ _ _ _ _ _ _ _ _ _ _ _ _ _ _ _ _ _ _ _ _ _ _ _ _ _ _ _ _ _ _ _ _ _ _ _ _ _ _ _ _ _ _ _ _ _ : Value,
  cond (decide ((x18 : Int) < x0.len)) (
  IX x0 x18 4 fun (px21 : Addr) =>
  LD [.int .i64, .int .i64, .sl, .sl] px21 w4 fun (x22_0 : Int) (x22_1 : Int) (x22_2 : Sl) (x22_3 : Sl) =>
  NEW T.t_i_Problem #[.int .i64 0, .int .i64 0, .slice none 0 0, .slice none 0 0] w4 fun (px6 : Addr) w5 =>
  ST px6 0 [.int .i64 x22_0, .int .i64 x22_1, x22_2.v, x22_3.v] w5 fun w6 =>
  ∀ w7, Ext w6 w7 → w7.heap = w6.heap → ∃ (D7 : Nat → Prop),
  ¬ D7 (px4.add 0).block ∧ (
  LD [.sl] (px4.add 0) w7 fun (x24 : Sl) =>
  LD [.int .i64, .int .i64, .sl, .sl] px6 w7 fun (x25_0 : Int) (x25_1 : Int) (x25_2 : Sl) (x25_3 : Sl) =>
  Chg w7 w7 D7 ∧ (
  Calls Tryz.prog F.s_boOwn #[.agg #[.int .i64 x25_0, .int .i64 x25_1, x25_2.v, x25_3.v]] w7 (Ret [.agg [.int .i64, .int .i64, .sl, .sl]] fun (x26_0 : Int) (x26_1 : Int) (x26_2 : Sl) (x26_3 : Sl) w8 =>
  Chg w7 w8 D7 ∧ (
  RUN Tryz.prog (.at .sl) (Instr.buildSlice T.t_sl_i_Problem 1 #[(0, .agg #[.int .i64 x26_0, .int .i64 x26_1, x26_2.v, x26_3.v])]) w8 fun (x27 : Sl) w9 =>
  Chg w7 w9 D7 ∧ (
  RUN Tryz.prog (.at .sl) (bsem .append #[T.t_sl_i_Problem, T.t_sl_i_Problem] T.t_sl_i_Problem #[x24.v, x27.v]) w9 fun (x28 : Sl) w10 =>
  Chg w7 w10 D7 ∧ (
  ST (px4.add 0) 0 [x28.v] w10 fun w11 =>
  cond ((x18 : Int) == 0) (
  I3 (IntKind.i64.wrap (x18 + 1)) w11 ∧ m3 (IntKind.i64.wrap (x18 + 1)) w11 < m3 x18 w4) (
  IX x0 (IntKind.i64.wrap (x18 - 1)) 4 fun (px36 : Addr) =>
  LD [.int .i64, .int .i64, .sl, .sl] px36 w11 fun (x37_0 : Int) (x37_1 : Int) (x37_2 : Sl) (x37_3 : Sl) =>
  Calls Tryz.prog F.s_EliminateRound #[.agg #[.int .i64 x37_0, .int .i64 x37_1, x37_2.v, x37_3.v]] w11 (Ret [.agg [.int .i64, .int .i64, .sl, .sl], .at .sl, .at .sl, .at .bool] fun (x38_0_0 : Int) (x38_0_1 : Int) (x38_0_2 : Sl) (x38_0_3 : Sl) (x38_1 : Sl) (x38_2 : Sl) (x38_3 : Bool) w12 =>
  NEW T.t_i_Problem #[.int .i64 0, .int .i64 0, .slice none 0 0, .slice none 0 0] w12 fun (px7 : Addr) w13 =>
  ST px7 0 [.int .i64 x38_0_0, .int .i64 x38_0_1, x38_0_2.v, x38_0_3.v] w13 fun w14 =>
  cond (!x38_3) (
  ST px2 0 [.slice none 0 0, .slice none 0 0, .slice none 0 0] w14 fun w15 =>
  LD [.sl, .sl, .sl] px2 w15 fun (r0_0 : Sl) (r0_1 : Sl) (r0_2 : Sl) =>
  Q r0_0 r0_1 r0_2 false w15) (
  LD [.int .i64, .int .i64, .sl, .sl] px7 w14 fun (x47_0 : Int) (x47_1 : Int) (x47_2 : Sl) (x47_3 : Sl) =>
  LD [.int .i64, .int .i64, .sl, .sl] px6 w14 fun (x48_0 : Int) (x48_1 : Int) (x48_2 : Sl) (x48_3 : Sl) =>
  Calls Tryz.prog F.s_LabelMapBetween #[.agg #[.int .i64 x47_0, .int .i64 x47_1, x47_2.v, x47_3.v], .agg #[.int .i64 x48_0, .int .i64 x48_1, x48_2.v, x48_3.v]] w14 (Ret [.at .sl, .at .bool] fun (x49_0 : Sl) (x49_1 : Bool) w16 =>
  cond (!x49_1) (
  ST px2 0 [.slice none 0 0, .slice none 0 0, .slice none 0 0] w16 fun w17 =>
  LD [.sl, .sl, .sl] px2 w17 fun (r0_0_2 : Sl) (r0_1_2 : Sl) (r0_2_2 : Sl) =>
  Q r0_0_2 r0_1_2 r0_2_2 false w17) (
  LD [.sl] (px4.add 1) w16 fun (x56 : Sl) =>
  RUN Tryz.prog (.at .sl) (Instr.buildSlice T.t_sl_sl_int 1 #[(0, x49_0.v)]) w16 fun (x58 : Sl) w18 =>
  RUN Tryz.prog (.at .sl) (bsem .append #[T.t_sl_sl_int, T.t_sl_sl_int] T.t_sl_sl_int #[x56.v, x58.v]) w18 fun (x59 : Sl) w19 =>
  ST (px4.add 1) 0 [x59.v] w19 fun w20 =>
  I3 (IntKind.i64.wrap (x18 + 1)) w20 ∧ m3 (IntKind.i64.wrap (x18 + 1)) w20 < m3 x18 w4)))))))))))) (
  IX x0 (IntKind.i64.wrap (x0.len - 1)) 4 fun (px67 : Addr) =>
  LD [.int .i64, .int .i64, .sl, .sl] px67 w4 fun (x68_0 : Int) (x68_1 : Int) (x68_2 : Sl) (x68_3 : Sl) =>
  Calls Tryz.prog F.s_RefusalOfZero #[.agg #[.int .i64 x68_0, .int .i64 x68_1, x68_2.v, x68_3.v]] w4 (Ret [.at .sl, .at .bool] fun (x69_0 : Sl) (x69_1 : Bool) w21 =>
  cond (!x69_1) (
  ST px2 0 [.slice none 0 0, .slice none 0 0, .slice none 0 0] w21 fun w22 =>
  LD [.sl, .sl, .sl] px2 w22 fun (r0_0_3 : Sl) (r0_1_3 : Sl) (r0_2_3 : Sl) =>
  Q r0_0_3 r0_1_3 r0_2_3 false w22) (
  ST (px4.add 2) 0 [x69_0.v] w21 fun w23 =>
  LD [.sl, .sl, .sl] px4 w23 fun (x77_0 : Sl) (x77_1 : Sl) (x77_2 : Sl) =>
  ST px2 0 [x77_0.v, x77_1.v, x77_2.v] w23 fun w24 =>
  LD [.sl, .sl, .sl] px2 w24 fun (r0_0_4 : Sl) (r0_1_4 : Sl) (r0_2_4 : Sl) =>
  Q r0_0_4 r0_1_4 r0_2_4 true w24)))

theorem C_s_boBuild {Q : Sl → Sl → Sl → Bool → World → Prop} {x0 : Sl} {w : World} (h : V_s_boBuild Q x0 w) : Calls Tryz.prog F.s_boBuild #[x0.v] w (Ret [.agg [.sl, .sl, .sl], .at .bool] Q) :=
  mkC (hint := hint) (ann := annOf [(3, ⟨[(18, .int .i64)], [3, 5, 6, 7, 8, 9, 10, 11, 12, 19, 20, 21, 22, 23, 24, 25, 26, 27, 28, 29, 30, 31, 32, 33, 34, 35, 36, 37, 38, 39, 40, 41, 42, 43, 44, 45, 46, 47, 48, 49, 50, 51, 52, 53, 54, 55, 56, 57, 58, 59, 60, 61]⟩)]) (args := [x0.v]) (rs := [.agg [.sl, .sl, .sl], .at .bool]) Tryz.func66 (by kernel_rfl) (by kernel_rfl) h

def V_i_within (Q : Bool → World → Prop) (n : Int) (low : Int) (high : Int) (w : World) : Prop :=
  cond (decide ((low : Int) ≤ n)) (
  Q (decide ((n : Int) ≤ high)) w) (
  Q false w)

theorem C_i_within {Q : Bool → World → Prop} {n : Int} {low : Int} {high : Int} {w : World} (h : V_i_within Q n low high w) : Calls Tryz.prog F.i_within #[.int .i64 n, .int .i64 low, .int .i64 high] w (Ret [.at .bool] Q) :=
  mkC (hint := hint) (ann := annOf []) (args := [.int .i64 n, .int .i64 low, .int .i64 high]) (rs := [.at .bool]) Tryz.func67 (by kernel_rfl) (by kernel_rfl) h

end Go.Proofs.YtndebacmnpghkaaGreat
end
