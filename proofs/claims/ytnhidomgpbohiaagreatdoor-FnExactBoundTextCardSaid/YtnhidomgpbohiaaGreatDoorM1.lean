/- Own texts, merged: Names, VCmp, Values, V0, V1. -/
import Derived.Test.YtnhidomgpbohiaaGreatDoorM0
import Derived.Test.YtnhidomgpbohiaaGreatDoorProg
import Derived.RangeFuncBox
import Derived.RangeFuncLeaves
import Derived.Shelf.Abstract
import Derived.WalkKit
import Derived.OwnWalkIn
import Derived.TacticsInMore
import Derived.LoopNIn
import Derived.LoopIn
set_option linter.unusedVariables false
section
/- The numbers of functions and types of this seat by their names, and of which kind a type's values are. Printed by a program. -/
namespace Go.Proofs.YtnhidomgpbohiaaGreatDoor
open Go.GX Go.RowKit

abbrev F.l_FnExactBoundText : FuncId := 4
abbrev F.l_toIntS : FuncId := 10
abbrev F.l_eqIntS : FuncId := 12
abbrev F.l_szBound : FuncId := 17
abbrev F.s_BoundText : FuncId := 18
abbrev F.l_toBound : FuncId := 19
abbrev F.i_BoundText : FuncId := 20
abbrev F.l_eqBound : FuncId := 21
abbrev F.l_szIntSS : FuncId := 31
abbrev F.l_toIntSS : FuncId := 39
abbrev F.slices_Index_sl_int_int : FuncId := 49
abbrev F.slices_Concat_sl_int_int : FuncId := 51
abbrev F.l_eqIntSS : FuncId := 52
abbrev F.l_szProblemS : FuncId := 54
abbrev F.s_boGood : FuncId := 55
abbrev F.s_boText : FuncId := 56
abbrev F.l_toProblemS : FuncId := 57
abbrev F.i_BoundOf : FuncId := 58
abbrev F.ptr_strings_Builder_WriteString : FuncId := 59
abbrev F.i_problemText : FuncId := 60
abbrev F.i_wordsLine : FuncId := 61
abbrev F.ptr_strings_Builder_String : FuncId := 62
abbrev F.l_eqProblemS : FuncId := 63
abbrev F.l_szIntS : FuncId := 79
abbrev F.s_l1In : FuncId := 80
abbrev F.s_l1Has : FuncId := 82
abbrev F.s_coThrough : FuncId := 89
abbrev F.s_l1Own : FuncId := 93
abbrev F.i_within : FuncId := 94
abbrev F.slices_Compare_sl_int_int : FuncId := 96
abbrev F.slices_IndexFunc_sl_int_int : FuncId := 99
abbrev F.slices_Sort_sl_int_int : FuncId := 109
abbrev F.i_images : FuncId := 111
abbrev F.slices_Grow_sl_int_int : FuncId := 113
abbrev F.l_szProblem : FuncId := 114
abbrev F.s_boTwo : FuncId := 115
abbrev F.s_boRight : FuncId := 116
abbrev F.s_prText : FuncId := 117
abbrev F.s_boLine : FuncId := 118
abbrev F.l_toProblem : FuncId := 119
abbrev F.i_CheckBound : FuncId := 120
abbrev F.strings_Join : FuncId := 122
abbrev F.strconv_Itoa : FuncId := 123
abbrev F.l_eqProblem : FuncId := 124
abbrev F.s_l1All : FuncId := 126
abbrev F.s_l1Same : FuncId := 127
abbrev F.s_prSorted : FuncId := 128
abbrev F.s_prOrder : FuncId := 129
abbrev F.s_maLine : FuncId := 130
abbrev F.slices_IsSorted_sl_int_int : FuncId := 135
abbrev F.s_prGood : FuncId := 136
abbrev F.i_allWithin : FuncId := 143
abbrev F.cmp_Compare_int : FuncId := 144
abbrev F.slices_Clone_sl_int_int : FuncId := 145
abbrev F.i_labelsIn : FuncId := 150
abbrev F.s_boZero : FuncId := 158
abbrev F.s_boStep : FuncId := 159
abbrev F.s_l1Num : FuncId := 160
abbrev F.i_problemsOk : FuncId := 161
abbrev F.i_isRightBound : FuncId := 162
abbrev F.s_l1Sign : FuncId := 166
abbrev F.cmp_Less_int : FuncId := 172
abbrev F.s_prLists : FuncId := 173
abbrev F.s_l1Put : FuncId := 175
abbrev F.slices_ContainsFunc_sl_int_int : FuncId := 179
abbrev F.i_allWithin_1 : FuncId := 180
abbrev F.cmp_isNaN_int : FuncId := 181
abbrev F.slices_Contains_sl_int_int : FuncId := 183
abbrev F.s_CheckZeroRefusal : FuncId := 196
abbrev F.s_EliminateRound : FuncId := 197
abbrev F.s_reMap : FuncId := 198
abbrev F.slices_ContainsFunc_sl_i_Problem_i_Problem : FuncId := 199
abbrev F.i_problemsOk_1 : FuncId := 200
abbrev F.i_IsProblem : FuncId := 201
abbrev F.i_eliminate : FuncId := 202
abbrev F.i_isLabelMap : FuncId := 203
abbrev F.i_isZeroRefusal : FuncId := 204
abbrev F.s_zeTwo : FuncId := 223
abbrev F.s_EdgeStep : FuncId := 224
abbrev F.s_elNode : FuncId := 225
abbrev F.s_reInto : FuncId := 226
abbrev F.slices_IndexFunc_sl_i_Problem_i_Problem : FuncId := 227
abbrev F.i_configurationsOk : FuncId := 228
abbrev F.i_edgeStep : FuncId := 229
abbrev F.i_nodeStep : FuncId := 230
abbrev F.i_Problem_hasLabels : FuncId := 231
abbrev F.i_Problem_node : FuncId := 232
abbrev F.slices_ContainsFunc_sl_sl_int_sl_int : FuncId := 233
abbrev F.i_isLabelMap_1 : FuncId := 234
abbrev F.i_Problem_edge : FuncId := 235
abbrev F.s_l1Most : FuncId := 251
abbrev F.s_prEdge : FuncId := 253
abbrev F.s_elEdge : FuncId := 254
abbrev F.s_elTabled : FuncId := 255
abbrev F.s_reChoices : FuncId := 256
abbrev F.s_elTable_rest : FuncId := 257
abbrev F.s_elTable_full : FuncId := 258
abbrev F.s_elMade : FuncId := 259
abbrev F.s_prHas : FuncId := 260
abbrev F.i_beside : FuncId := 261
abbrev F.i_newLabels : FuncId := 262
abbrev F.i_allowedBy : FuncId := 263
abbrev F.i_edgeStep_1 : FuncId := 264
abbrev F.i_Problem_nodeChoice : FuncId := 265
abbrev F.i_listsOf : FuncId := 266
abbrev F.i_newNodeSets : FuncId := 267
abbrev F.ptr_i_nodeSets_fullLists : FuncId := 268
abbrev F.i_nodeStep_1 : FuncId := 269
abbrev F.i_Problem_edgeChoice : FuncId := 270
abbrev F.i_hasConfiguration : FuncId := 271
abbrev F.slices_IndexFunc_sl_sl_int_sl_int : FuncId := 272
abbrev F.s_l1Least : FuncId := 282
abbrev F.s_elNear : FuncId := 283
abbrev F.s_prNode : FuncId := 284
abbrev F.s_elLabels : FuncId := 285
abbrev F.s_prInsert : FuncId := 286
abbrev F.s_elNumbers : FuncId := 287
abbrev F.s_elSome : FuncId := 288
abbrev F.i_isGoodPair : FuncId := 289
abbrev F.slices_Compact_sl_int_int : FuncId := 290
abbrev F.slices_BinarySearch_sl_int_int : FuncId := 291
abbrev F.i_sortedLists : FuncId := 292
abbrev F.slices_DeleteFunc_sl_sl_int_sl_int : FuncId := 293
abbrev F.i_multisets : FuncId := 294
abbrev F.i_allowedBy_1 : FuncId := 295
abbrev F.i_firstChoice : FuncId := 296
abbrev F.i_Problem_nodeChoice_1 : FuncId := 297
abbrev F.ptr_i_nodeSets_completing : FuncId := 298
abbrev F.ptr_i_nodeSets_isFull : FuncId := 299
abbrev F.i_Problem_edgeChoice_1 : FuncId := 300
abbrev F.slices_BinarySearchFunc_sl_sl_int_sl_int_sl_int : FuncId := 301
abbrev F.slices_Sorted_int : FuncId := 302
abbrev F.slices_Values_sl_int_int : FuncId := 303
abbrev F.s_elHas : FuncId := 307
abbrev F.s_elChoice : FuncId := 308
abbrev F.i_badPair : FuncId := 309
abbrev F.slices_isNaN_int : FuncId := 310
abbrev F.slices_SortFunc_sl_sl_int_sl_int : FuncId := 311
abbrev F.slices_CompactFunc_sl_sl_int_sl_int : FuncId := 312
abbrev F.slices_Equal_sl_int_int : FuncId := 313
abbrev F.i_firstChoice_1 : FuncId := 314
abbrev F.ptr_i_nodeSets_completing_1 : FuncId := 315
abbrev F.slices_Delete_sl_int_int : FuncId := 316
abbrev F.slices_Collect_int : FuncId := 317
abbrev F.slices_Values_sl_int_int_1 : FuncId := 318
abbrev F.slices_AppendSeq_sl_int_int : FuncId := 320
abbrev T.t_unit : TypeId := 0
abbrev T.t_int : TypeId := 3
abbrev T.t_bool : TypeId := 4
abbrev T.t_uint8 : TypeId := 5
abbrev T.t_string : TypeId := 9
abbrev T.t_sl_sl_int : TypeId := 22
abbrev T.t_sl_int : TypeId := 25
abbrev T.t_sl_l_Problem : TypeId := 37
abbrev T.t_l_Bound : TypeId := 39
abbrev T.t_sl_i_Problem : TypeId := 43
abbrev T.t_i_Bound : TypeId := 45
abbrev T.t_func_sl_int_bool : TypeId := 61
abbrev T.t_sl_uint8 : TypeId := 81
abbrev T.t_strings_Builder : TypeId := 83
abbrev T.t_i_Problem : TypeId := 85
abbrev T.t_sl_string : TypeId := 94
abbrev T.t_func_int_bool_1 : TypeId := 124
abbrev T.t_l_Problem : TypeId := 134
abbrev T.t_sl_bool : TypeId := 153
abbrev T.t_s_waPart : TypeId := 179
abbrev T.t_s_elTable : TypeId := 231
abbrev T.t_ptr_i_nodeSets : TypeId := 242
abbrev T.t_i_nodeSets : TypeId := 269
abbrev T.t_func_int_int_int_1 : TypeId := 283
def hints0 : List (List Sh) := [
  [],
  [.at .val],
  [.at (.int .i64)],
  [.at (.int .i64)],
  [.at .bool],
  [.at (.int .u8)],
  [.at (.int .u8)],
  [.agg [.int .i64, .int .i64, .bool, .int .u8]],
  [.agg [.int .i64, .int .i64, .bool, .int .u8]],
  [.at .str],
  [.at .str],
  [.at .str],
  [.at (.int .u64)],
  [.agg [.str, .int .u64]],
  [.agg [.str, .int .u64]],
  [.at .ptr]]
def hints1 : List (List Sh) := [
  [.at .ptr],
  [.at .ptr],
  [.agg [.ptr]],
  [.agg [.ptr]],
  [.at .val],
  [.at (.int .i32)],
  [.at .sl],
  [.agg [.int .i64, .sl]],
  [.agg [.int .i64, .sl]],
  [.at .sl],
  [.at .val],
  [.at .sl, .at .bool],
  [.at .val],
  [.agg [.int .i64, .sl]],
  [.at .val],
  [.at .val]]
def hints2 : List (List Sh) := [
  [.at .val],
  [.at .val],
  [.at .val],
  [.at .val],
  [.at .val],
  [.at .sl],
  [.agg [.sl, .sl, .sl]],
  [.agg [.sl, .sl, .sl]],
  [.at .val],
  [.at .str, .at .bool],
  [.at .val],
  [.at .sl],
  [.agg [.sl, .sl, .sl]],
  [.agg [.sl, .sl, .sl]],
  [.at .val],
  [.at .val]]
def hints3 : List (List Sh) := [
  [.at .val],
  [.agg [.int .i64, .int .i64, .sl]],
  [.agg [.int .i64, .int .i64, .sl]],
  [.agg [.int .i64, .int .i64, .sl], .at .bool],
  [.at .val],
  [.at .val],
  [.at .val],
  [.at .val],
  [.agg [.sl, .sl, .sl], .at .bool],
  [.at .val],
  [.at .val],
  [.at .val],
  [.at .val],
  [.at .val],
  [.at (.int .i64), .at .bool],
  [.at .val]]
def hints4 : List (List Sh) := [
  [.at (.int .i64), .at (.int .i64), .at .bool],
  [.at .val],
  [.at .val],
  [.at .val],
  [.at .val],
  [.at .val],
  [.at .val],
  [.at .val],
  [.at .val],
  [.at .val],
  [.at .val],
  [.at .val],
  [.at .val],
  [.at .val],
  [.at .val],
  [.at .val]]
def hints5 : List (List Sh) := [
  [.at .ptr],
  [.at .sl],
  [.agg [.ptr, .sl]],
  [.agg [.ptr, .sl]],
  [.agg [.int .i64, .int .i64, .sl, .sl]],
  [.agg [.int .i64, .int .i64, .sl, .sl]],
  [.at .val],
  [.at .val],
  [.at (.int .i64), .at .val],
  [.at .val],
  [.at .val],
  [.at .val],
  [.at .val],
  [.at .val],
  [.at .sl],
  [.at .val]]
def hints6 : List (List Sh) := [
  [.at .val],
  [.at .val],
  [.at .val],
  [.at .sl, .at .bool],
  [.at .val],
  [.at .val],
  [.agg [.int .i64, .int .i64, .sl, .sl], .at .bool],
  [.at .val],
  [.at .val],
  [.at .val],
  [.at .ptr],
  [.at .val],
  [.at .val],
  [.at .val],
  [.at .val],
  [.at .val]]
def hints7 : List (List Sh) := [
  [.at .val],
  [.at .val],
  [.at (.int .u64)],
  [.at .val],
  [.at .val],
  [.at .val],
  [.at .sl, .at (.int .i64)],
  [.at .val],
  [.at .val],
  [.at .val],
  [.at .val],
  [.at .val],
  [.at .val],
  [.at (.int .u64), .at (.int .u64)],
  [.at .val],
  [.at .val]]
def hints8 : List (List Sh) := [
  [.at .val],
  [.at .val],
  [.at .sl, .at .sl],
  [.at .val],
  [.at .val],
  [.at .val],
  [.agg [.int .i64, .int .i64, .sl, .sl]],
  [.at .val],
  [.at .val],
  [.at .val],
  [.at .bool, .at .bool],
  [.at .val],
  [.at .val],
  [.at .val],
  [.at .ptr],
  [.at .val]]
def hints9 : List (List Sh) := [
  [.at .val],
  [.at .val],
  [.at .val],
  [.at .val],
  [.at .val],
  [.at .val],
  [.at .ptr],
  [.at .val],
  [.at .val],
  [.at .sl],
  [.at .sl],
  [.at .val],
  [.at .sl],
  [.at .val],
  [.at (.int .u32)],
  [.at (.int .u32), .at (.int .u32)]]
def hints10 : List (List Sh) := [
  [.at .val],
  [.at (.int .u64)],
  [.at (.int .u64), .at (.int .u64)],
  [.at .val],
  [.at .val],
  [.at .val],
  [.at .val],
  [.at .val],
  [.at .val],
  [.at .ptr],
  [.at .val],
  [.at .val],
  [.at .val],
  [.at .val],
  [.at .val],
  [.at .val]]
def hints11 : List (List Sh) := [
  [.at .sl],
  [.at .val],
  [.agg [.sl, .int .i64, .sl]],
  [.agg [.sl, .int .i64, .sl]],
  [.at .val],
  [.at .val],
  [.at .val],
  [.at .val],
  [.at (.int .i64)],
  [.at (.int .i64), .at (.int .i64)],
  [.at .val],
  [.at .val],
  [.at .val],
  [.at .val],
  [.at .val],
  [.at .val]]
def hints12 : List (List Sh) := [
  [.agg [.int .i64, .int .i64, .sl, .sl], .at .sl, .at .sl, .at .bool],
  [.at .val],
  [.at .val],
  [.at .val],
  [.at .val],
  [.at (.int .i32), .at (.int .i64)],
  [.at .val],
  [.at .val],
  [.at .val],
  [.at .val],
  [.at (.int .u64)],
  [.at .val],
  [.at .val],
  [.at .val],
  [.at .ptr],
  [.at .val]]
def hints13 : List (List Sh) := [
  [.agg [.int .u8, .int .u8, .int .u8, .int .u8, .int .u8, .int .u8, .int .u8, .int .u8, .int .u8, .int .u8, .int .u8, .int .u8, .int .u8, .int .u8, .int .u8, .int .u8, .int .u8, .int .u8, .int .u8, .int .u8, .int .u8, .int .u8, .int .u8, .int .u8, .int .u8, .int .u8, .int .u8, .int .u8, .int .u8, .int .u8, .int .u8, .int .u8, .int .u8, .int .u8, .int .u8, .int .u8, .int .u8, .int .u8, .int .u8, .int .u8, .int .u8, .int .u8, .int .u8, .int .u8, .int .u8, .int .u8, .int .u8, .int .u8, .int .u8, .int .u8, .int .u8, .int .u8, .int .u8, .int .u8, .int .u8, .int .u8, .int .u8, .int .u8, .int .u8, .int .u8, .int .u8, .int .u8, .int .u8, .int .u8]],
  [.at .val],
  [.agg [.int .i64, .int .i64, .sl, .sl], .at .sl, .at .bool],
  [.at .val],
  [.at .val],
  [.at .val],
  [.at .val],
  [.at .val],
  [.agg [.int .u8, .int .u8, .int .u8, .int .u8, .int .u8, .int .u8, .int .u8, .int .u8, .int .u8, .int .u8, .int .u8, .int .u8, .int .u8, .int .u8, .int .u8, .int .u8, .int .u8, .int .u8, .int .u8, .int .u8, .int .u8, .int .u8, .int .u8, .int .u8]],
  [.at .val],
  [.at .sl, .at .str],
  [.at .val],
  [.at (.int .i64)],
  [.at (.int .i64), .at .val],
  [.at .val],
  [.at .ptr]]
def hints14 : List (List Sh) := [
  [.at .val],
  [.at .val],
  [.at .ptr],
  [.at (.int .i64), .at (.int .i64)],
  [.at .val],
  [.at .val],
  [.agg [.int .i64, .int .i64, .sl, .sl, .sl]],
  [.agg [.int .i64, .int .i64, .sl, .sl, .sl]],
  [.at .val],
  [.at .val],
  [.at .val],
  [.at .val],
  [.at .val],
  [.at .sl, .at .sl],
  [.at .val],
  [.at .val]]
def hints15 : List (List Sh) := [
  [.at .val],
  [.at .val],
  [.at .ptr],
  [.at .val],
  [.at .val],
  [.at .val],
  [.at .val],
  [.at .val],
  [.agg [.int .u64, .int .u64, .int .u64, .int .u64, .int .u64, .int .u64, .int .u64, .int .u64, .int .u64, .int .u64, .int .u64, .int .u64, .int .u64, .int .u64, .int .u64, .int .u64, .int .u64, .int .u64, .int .u64, .int .u64]],
  [.agg [.int .u8, .int .u8, .int .u8, .int .u8, .int .u8, .int .u8, .int .u8, .int .u8, .int .u8, .int .u8, .int .u8, .int .u8, .int .u8, .int .u8, .int .u8, .int .u8, .int .u8, .int .u8, .int .u8, .int .u8, .int .u8, .int .u8, .int .u8, .int .u8, .int .u8, .int .u8, .int .u8, .int .u8, .int .u8, .int .u8, .int .u8, .int .u8, .int .u8, .int .u8, .int .u8, .int .u8, .int .u8, .int .u8, .int .u8, .int .u8, .int .u8, .int .u8, .int .u8, .int .u8, .int .u8, .int .u8, .int .u8, .int .u8, .int .u8, .int .u8, .int .u8, .int .u8, .int .u8, .int .u8, .int .u8, .int .u8, .int .u8, .int .u8, .int .u8, .int .u8, .int .u8, .int .u8, .int .u8, .int .u8, .int .u8]],
  [.agg [.int .u8, .int .u8, .int .u8, .int .u8, .int .u8, .int .u8, .int .u8, .int .u8, .int .u8, .int .u8, .int .u8, .int .u8, .int .u8, .int .u8, .int .u8, .int .u8, .int .u8, .int .u8, .int .u8, .int .u8, .int .u8, .int .u8, .int .u8, .int .u8, .int .u8, .int .u8, .int .u8, .int .u8, .int .u8, .int .u8, .int .u8, .int .u8, .int .u8, .int .u8, .int .u8, .int .u8, .int .u8, .int .u8, .int .u8, .int .u8, .int .u8, .int .u8, .int .u8, .int .u8, .int .u8, .int .u8, .int .u8, .int .u8, .int .u8, .int .u8, .int .u8, .int .u8, .int .u8, .int .u8, .int .u8, .int .u8, .int .u8, .int .u8, .int .u8, .int .u8, .int .u8, .int .u8, .int .u8, .int .u8, .int .u8, .int .u8, .int .u8, .int .u8, .int .u8, .int .u8, .int .u8, .int .u8, .int .u8, .int .u8, .int .u8, .int .u8, .int .u8, .int .u8, .int .u8, .int .u8, .int .u8, .int .u8, .int .u8, .int .u8, .int .u8, .int .u8, .int .u8, .int .u8, .int .u8, .int .u8, .int .u8, .int .u8, .int .u8, .int .u8, .int .u8, .int .u8, .int .u8, .int .u8, .int .u8, .int .u8, .int .u8, .int .u8, .int .u8, .int .u8, .int .u8, .int .u8, .int .u8, .int .u8, .int .u8, .int .u8, .int .u8, .int .u8, .int .u8, .int .u8, .int .u8, .int .u8, .int .u8, .int .u8, .int .u8, .int .u8, .int .u8, .int .u8, .int .u8, .int .u8, .int .u8, .int .u8, .int .u8, .int .u8, .int .u8, .int .u8, .int .u8, .int .u8, .int .u8, .int .u8, .int .u8, .int .u8, .int .u8, .int .u8, .int .u8, .int .u8, .int .u8, .int .u8, .int .u8, .int .u8, .int .u8, .int .u8, .int .u8, .int .u8, .int .u8, .int .u8, .int .u8, .int .u8, .int .u8, .int .u8, .int .u8, .int .u8, .int .u8, .int .u8, .int .u8, .int .u8, .int .u8, .int .u8, .int .u8, .int .u8, .int .u8, .int .u8, .int .u8, .int .u8, .int .u8, .int .u8, .int .u8, .int .u8, .int .u8, .int .u8, .int .u8, .int .u8, .int .u8, .int .u8, .int .u8, .int .u8, .int .u8, .int .u8, .int .u8, .int .u8, .int .u8, .int .u8, .int .u8, .int .u8, .int .u8, .int .u8, .int .u8, .int .u8, .int .u8, .int .u8, .int .u8, .int .u8, .int .u8, .int .u8, .int .u8, .int .u8, .int .u8, .int .u8, .int .u8, .int .u8, .int .u8, .int .u8, .int .u8, .int .u8, .int .u8, .int .u8, .int .u8, .int .u8, .int .u8, .int .u8, .int .u8, .int .u8, .int .u8, .int .u8, .int .u8, .int .u8, .int .u8, .int .u8, .int .u8, .int .u8, .int .u8, .int .u8, .int .u8, .int .u8, .int .u8, .int .u8, .int .u8, .int .u8, .int .u8, .int .u8, .int .u8, .int .u8, .int .u8, .int .u8, .int .u8, .int .u8, .int .u8, .int .u8, .int .u8, .int .u8, .int .u8, .int .u8, .int .u8, .int .u8, .int .u8, .int .u8, .int .u8, .int .u8, .int .u8, .int .u8, .int .u8, .int .u8]],
  [.agg [.int .u8, .int .u8]],
  [.agg [.int .u8, .int .u8]],
  [.agg [.int .u8, .int .u8, .int .u8, .int .u8, .int .u8, .int .u8, .int .u8, .int .u8, .int .u8, .int .u8, .int .u8, .int .u8, .int .u8, .int .u8, .int .u8, .int .u8, .int .u8, .int .u8, .int .u8, .int .u8, .int .u8, .int .u8, .int .u8, .int .u8, .int .u8, .int .u8, .int .u8, .int .u8, .int .u8, .int .u8, .int .u8, .int .u8]],
  [.at .val],
  [.at (.int .u64), .at .val]]
def hints16 : List (List Sh) := [
  [.at .val],
  [.at .val],
  [.agg [.str, .str, .val]],
  [.agg [.str, .str, .val]],
  [.at .val],
  [.at .val],
  [.at .val],
  [.at .val],
  [.at .val],
  [.at .val],
  [.at .val],
  [.at .val],
  [.agg [.int .i64, .int .i64, .sl, .sl, .sl]],
  [.agg [.int .i64, .int .i64, .sl, .sl, .sl]],
  [.at .val],
  [.at .val]]
def hints17 : List (List Sh) := [
  [.at .val],
  [.at .val],
  [.at .val],
  [.at .val],
  [.at .ptr],
  [.agg [.str]],
  [.agg [.str]],
  [.at .val],
  [.at .val],
  [.at .val],
  [.at .val],
  [.at .val],
  [.at .val],
  [.agg [.int .u8, .int .u8, .int .u8, .int .u8, .int .u8, .int .u8, .int .u8, .int .u8, .int .u8, .int .u8, .int .u8, .int .u8, .int .u8, .int .u8, .int .u8, .int .u8, .int .u8, .int .u8, .int .u8, .int .u8, .int .u8, .int .u8, .int .u8, .int .u8, .int .u8, .int .u8, .int .u8, .int .u8, .int .u8, .int .u8, .int .u8, .int .u8]],
  [.at .val],
  [.at .val]]
def hints18 : List (List Sh) := [
  [.at .val],
  [.at .val],
  [.at .val],
  [.at .val],
  [.at .val],
  [.at .val],
  [.at .val],
  [.at .val],
  [.agg [.ptr, .ptr, .ptr, .str]],
  [.agg [.ptr, .ptr, .ptr, .str]],
  [.agg []],
  [.agg []],
  [.agg []],
  [.at (.int .u8)],
  [.at (.int .u8)],
  [.at .val]]
def hints19 : List (List Sh) := [
  [.at (.int .i32)],
  [.at (.int .i32)],
  [.agg [.int .u64, .int .u64, .int .u32, .int .u8, .int .u8, .int .u8, .int .u8, .val, .ptr, .int .i32, .int .i32]],
  [.agg [.int .u64, .int .u64, .int .u32, .int .u8, .int .u8, .int .u8, .int .u8, .val, .ptr, .int .i32, .int .i32]]]
def hint : Hint := hintOf [hints0, hints1, hints2, hints3, hints4, hints5, hints6, hints7, hints8, hints9, hints10, hints11, hints12, hints13, hints14, hints15, hints16, hints17, hints18, hints19]
end Go.Proofs.YtnhidomgpbohiaaGreatDoor
end

section
/- What the code of the comparison of integers computes to. Printed by a program. -/
namespace Go.Proofs.YtnhidomgpbohiaaGreatDoor
open Go.GX Go.RowKit
set_option linter.unusedVariables false
set_option maxRecDepth 100000

def V_cmp_Compare_int (Q : Int → World → Prop) (x : Int) (y : Int) (w : World) : Prop :=
  Calls Tryz.prog F.cmp_isNaN_int #[.int .i64 x] w (Ret [.at .bool] fun (x8 : Bool) w1 =>
  Calls Tryz.prog F.cmp_isNaN_int #[.int .i64 y] w1 (Ret [.at .bool] fun (x10 : Bool) w2 =>
  cond x8 (
  cond x10 (
  Q 0 w2) (
  Q (-1) w2)) (
  cond x10 (
  Q 1 w2) (
  cond (decide ((x : Int) < y)) (
  Q (-1) w2) (
  cond (decide ((x : Int) > y)) (
  Q 1 w2) (
  Q 0 w2))))))

theorem C_cmp_Compare_int {Q : Int → World → Prop} {x : Int} {y : Int} {w : World} (h : V_cmp_Compare_int Q x y w) : Calls Tryz.prog F.cmp_Compare_int #[.int .i64 x, .int .i64 y] w (Ret [.at (.int .i64)] Q) :=
  mkC (hint := hint) (ann := annOf []) (args := [.int .i64 x, .int .i64 y]) (rs := [.at (.int .i64)]) Tryz.func144 (by kernel_rfl) (by kernel_rfl) h

def V_cmp_Less_int (Q : Bool → World → Prop) (x : Int) (y : Int) (w : World) : Prop :=
  Calls Tryz.prog F.cmp_isNaN_int #[.int .i64 x] w (Ret [.at .bool] fun (x6 : Bool) w1 =>
  cond x6 (
  Calls Tryz.prog F.cmp_isNaN_int #[.int .i64 y] w1 (Ret [.at .bool] fun (x9 : Bool) w2 =>
  cond (!x9) (
  Q true w2) (
  Q (decide ((x : Int) < y)) w2))) (
  Q (decide ((x : Int) < y)) w1))

theorem C_cmp_Less_int {Q : Bool → World → Prop} {x : Int} {y : Int} {w : World} (h : V_cmp_Less_int Q x y w) : Calls Tryz.prog F.cmp_Less_int #[.int .i64 x, .int .i64 y] w (Ret [.at .bool] Q) :=
  mkC (hint := hint) (ann := annOf []) (args := [.int .i64 x, .int .i64 y]) (rs := [.at .bool]) Tryz.func172 (by kernel_rfl) (by kernel_rfl) h

def V_cmp_isNaN_int (Q : Bool → World → Prop) (x : Int) (w : World) : Prop :=
  Q ((x : Int) != x) w

theorem C_cmp_isNaN_int {Q : Bool → World → Prop} {x : Int} {w : World} (h : V_cmp_isNaN_int Q x w) : Calls Tryz.prog F.cmp_isNaN_int #[.int .i64 x] w (Ret [.at .bool] Q) :=
  mkC (hint := hint) (ann := annOf []) (args := [.int .i64 x]) (rs := [.at .bool]) Tryz.func181 (by kernel_rfl) (by kernel_rfl) h

end Go.Proofs.YtnhidomgpbohiaaGreatDoor
end

section
/- slices.Values at []int: its closure calls yield for each element; turned from the kit's worked text on the library's two iterators over a slice. -/
namespace Go.Proofs.YtnhidomgpbohiaaGreatDoor
open Go Go.RowKit Go.Shelf Go.Proofs

attribute [local go_sem] Oper.semAt_some

/-- What has come when k rounds are over. -/
def upto {α : Type} (f : Nat → α) (k : Nat) : List α := (List.range k).map f
theorem upto_succ {α : Type} (f : Nat → α) (k : Nat) : upto f (k + 1) = upto f k ++ [f k] := by simp [upto, List.range_succ]
theorem upto_length {α : Type} (f : Nat → α) (k : Nat) : (upto f k).length = k := by simp [upto]
theorem upto_all (zs : List Int) : upto (fun j => zs[j]?.getD 0) zs.length = zs := by
  apply List.ext_getElem
  · simp [upto]
  · intro i h1 h2
    simp [upto, h2]
theorem upto_take (zs : List Int) {k : Nat} (hk : k ≤ zs.length) : upto (fun j => zs[j]?.getD 0) k = zs.take k := by
  apply List.ext_getElem
  · simp [upto, hk]
  · intro i h1 h2
    have : i < zs.length := by simp [upto] at h1; omega
    simp [upto, this]

theorem add_block (ad : Addr) (k : Nat) : (ad.add k).block = ad.block := by unfold Addr.add; split <;> rfl

set_option maxRecDepth 100000 in
set_option maxHeartbeats 2000000 in
theorem values1_in (Fe : Fence) (n : Nat) (h7 : Fe.fn 318) (hro : Fe.round = none) (hn : 1 ≤ n) (l Bs n₀ len cap : Nat) (ad : Addr) (zs : List Int) (hreach : len * 8 ≤ 140737488351232) (hb : 0 < len → ad.block < n₀) (J Jx : List Int → World → Prop)
    (hY : ∀ pre x W, J pre W → pre.length < len → YieldAt Fe (n - 1) Tryz.prog l #[.int .i64 x] W fun e W' =>
      (e = .returned (.bool true) ∧ J (pre ++ [x]) W' ∧ Below n₀ W W') ∨ (e = .returned (.bool false) ∧ Jx (pre ++ [x]) W'))
    (W : World) (hBs : W.cell? ⟨Bs, 0, none⟩ = some (.slice (some ad) len cap)) (hc : ∀ j, j < len → W.cell? (ad.add j) = some (.int .i64 (zs[j]?.getD 0))) (h0 : J [] W) :
    CallsIn Fe n Tryz.prog 318 #[.func (.yield l) #[] #[], .pointer (some ⟨Bs, 0, none⟩)] W fun e W' => (∃ v, e = .returned v) ∧
      ((∃ ys, ys = upto (fun j => zs[j]?.getD 0) len ∧ J ys W') ∨ (∃ pre, (∃ k, k ≤ len ∧ pre = upto (fun j => zs[j]?.getD 0) k) ∧ Jx pre W')) := by
  refine callsIn_of_wp Tryz.func318 rfl h7 ?_ hro
  simp only [Tryz.ntmps318, List.size_toArray, List.length_cons, List.length_nil, Nat.reduceAdd, Nat.reduceSub, Array.replicate_succ, Array.replicate_zero, List.push_toArray, List.append_toArray, List.nil_append, List.cons_append]
  gi_wp2
  gi_loopw [7] (fun i wr => ∃ k : Nat, k ≤ len ∧ i = .int .i64 k ∧ J (upto (fun j => zs[j]?.getD 0) k) wr ∧ Below n₀ W wr)
    (fun i _ => len - (intOf i).toNat)
  case atStart => exact ⟨0, Nat.zero_le _, rfl, h0, Below.refl _ _⟩
  case round =>
    obtain ⟨k, hk, rfl, hJs, hnx⟩ := hrel
    have hcx : k < len → wr.cell? (ad.add k) = some (.int .i64 (zs[k]?.getD 0)) := fun h => (hnx.cell (p := ad.add k) (by rw [add_block]; exact hb (by omega))).trans (hc k h)
    by_cases hlt : k < len
    · obtain ⟨fn, tmps, assign, body, hy, hR⟩ := hY _ (zs[k]?.getD 0) wr hJs (by rw [upto_length]; exact hlt)
      have hcx' := hcx hlt
      gi_wp2
      refine hR.mono ?_
      rintro e W3 (⟨rfl, hJ3, hk3⟩ | ⟨rfl, hJx3⟩)
      · gi_wp2
        go_roundw
        case rel => exact ⟨k + 1, by omega, by simp, by rw [upto_succ]; exact hJ3, hnx.trans hk3⟩
        case measure => simp [intOf]; omega
      · gi_wp2
        refine bodyPost_ret (results_none rfl _ _ _) rfl ?_
        exact ⟨⟨_, rfl⟩, .inr ⟨_, ⟨k + 1, by omega, (upto_succ _ _).symm⟩, hJx3⟩⟩
    · obtain rfl : k = len := by omega
      gi_wp2
      go_end0
      exact ⟨⟨_, rfl⟩, .inl ⟨_, rfl, hJs⟩⟩

/-- The slice value sv holds the ints zs, in a block below n₀; or it is nil and there are none. -/
def IntsIn (n₀ : Nat) (W : World) (sv : Value) (zs : List Int) : Prop :=
  (∃ cap, sv = .slice none 0 cap ∧ zs = []) ∨ ∃ ad cap, sv = .slice (some ad) zs.length cap ∧ (0 < zs.length → ad.block < n₀) ∧ ∀ j, j < zs.length → W.cell? (ad.add j) = some (.int .i64 (zs[j]?.getD 0))
theorem IntsIn.below {n₀ : Nat} {A B : World} (h : Below n₀ A B) {sv : Value} {zs : List Int} : IntsIn n₀ A sv zs → IntsIn n₀ B sv zs
  | .inl e => .inl e
  | .inr ⟨ad, cap, e, hb, hc⟩ => .inr ⟨ad, cap, e, hb, fun j hj => (h.cell (p := ad.add j) (by rw [add_block]; exact hb (by omega))).trans (hc j hj)⟩

set_option maxRecDepth 100000 in
set_option maxHeartbeats 1000000 in
theorem values1_nil_in (Fe : Fence) (n : Nat) (h7 : Fe.fn 318) (hro : Fe.round = none) (l Bs cap : Nat) (J : List Int → World → Prop) (W : World) (hBs : W.cell? ⟨Bs, 0, none⟩ = some (.slice none 0 cap)) (h0 : J [] W) :
    CallsIn Fe n Tryz.prog 318 #[.func (.yield l) #[] #[], .pointer (some ⟨Bs, 0, none⟩)] W fun e W' => (∃ v, e = .returned v) ∧ J [] W' := by
  refine callsIn_of_wp Tryz.func318 rfl h7 ?_ hro
  simp only [Tryz.ntmps318, List.size_toArray, List.length_cons, List.length_nil, Nat.reduceAdd, Nat.reduceSub, Array.replicate_succ, Array.replicate_zero, List.push_toArray, List.append_toArray, List.nil_append, List.cons_append]
  gi_wp2
  gi_loopw [7] (fun i wr => i = .int .i64 0 ∧ J [] wr) (fun _ _ => 0)
  case atStart => exact ⟨rfl, h0⟩
  case round =>
    obtain ⟨rfl, hJs⟩ := hrel
    gi_wp2
    go_end0
    exact ⟨⟨_, rfl⟩, hJs⟩

theorem values_stops (Fe : Fence) (n : Nat) (h7 : Fe.fn 318) (hro : Fe.round = none) (hn : 1 ≤ n) (Bs n₀ : Nat) (sv : Value) (zs : List Int) (hreach : zs.length * 8 ≤ 140737488351232) (w : World) (hBs : Bs < w.heap.size) (hn₀ : n₀ ≤ w.heap.size)
    (hc : w.cell? ⟨Bs, 0, none⟩ = some sv) (hI : IntsIn n₀ w sv zs) :
    SeqStopsK Fe n Tryz.prog 318 #[.pointer (some ⟨Bs, 0, none⟩)] (fun x : Int => #[Value.int .i64 x]) (Below n₀) (fun ys => ys = zs) (fun pre => pre <+: zs) zs.length w := fun l J Jx W hW _ _ hY h0 => by
  have hc' := (hW.cell (p := ⟨Bs, 0, none⟩) hBs).trans hc
  rcases hI.below (hW.mono hn₀) with ⟨cap, rfl, rfl⟩ | ⟨ad, cap, rfl, hb, hcs⟩
  · exact (values1_nil_in Fe n h7 hro l Bs cap J W hc' h0).mono fun e W' ⟨he, hj⟩ => ⟨he, .inl ⟨_, rfl, hj⟩⟩
  · refine (values1_in Fe n h7 hro hn l Bs n₀ zs.length cap ad zs hreach hb J Jx hY W hc' hcs h0).mono ?_
    rintro e W' ⟨he, ⟨ys, rfl, hj⟩ | ⟨pre, ⟨k, hk, rfl⟩, hj⟩⟩
    · exact ⟨he, .inl ⟨_, upto_all zs, hj⟩⟩
    · exact ⟨he, .inr ⟨_, by rw [upto_take zs hk]; exact List.take_prefix _ _, hj⟩⟩

end Go.Proofs.YtnhidomgpbohiaaGreatDoor
end

section
/- What each function's code computes to. Printed by a program. -/
namespace Go.Proofs.YtnhidomgpbohiaaGreatDoor
open Go.GX Go.RowKit
set_option linter.unusedVariables false
set_option maxRecDepth 100000

def V_l_FnExactBoundText (Q : Bool → World → Prop) (aB_0 : Sl) (aB_1 : Sl) (aB_2 : Sl) (w : World) : Prop :=
  NEW T.t_l_Bound #[aB_0.v, aB_1.v, aB_2.v] w fun (p_aB : Addr) w1 =>
  LD [.sl, .sl, .sl] p_aB w1 fun (x9_0 : Sl) (x9_1 : Sl) (x9_2 : Sl) =>
  Calls Tryz.prog F.l_szBound #[.agg #[x9_0.v, x9_1.v, x9_2.v], .int .i64 1048576] w1 (Ret [.at (.int .i64)] fun (x11 : Int) w2 =>
  cond (decide ((x11 : Int) < 0)) (
  Q true w2) (
  LD [.sl, .sl, .sl] p_aB w2 fun (x15_0 : Sl) (x15_1 : Sl) (x15_2 : Sl) =>
  Calls Tryz.prog F.l_toBound #[.agg #[x15_0.v, x15_1.v, x15_2.v]] w2 (Ret [.agg [.sl, .sl, .sl]] fun (x16_0 : Sl) (x16_1 : Sl) (x16_2 : Sl) w3 =>
  Calls Tryz.prog F.s_BoundText #[.agg #[x16_0.v, x16_1.v, x16_2.v]] w3 (Ret [.at .str, .at .bool] fun (x17_0 : ByteArray) (x17_1 : Bool) w4 =>
  LD [.sl, .sl, .sl] p_aB w4 fun (x20_0 : Sl) (x20_1 : Sl) (x20_2 : Sl) =>
  Calls Tryz.prog F.l_toBound #[.agg #[x20_0.v, x20_1.v, x20_2.v]] w4 (Ret [.agg [.sl, .sl, .sl]] fun (x21_0 : Sl) (x21_1 : Sl) (x21_2 : Sl) w5 =>
  NEW T.t_i_Bound #[.slice none 0 0, .slice none 0 0, .slice none 0 0] w5 fun (px0 : Addr) w6 =>
  ST px0 0 [x21_0.v, x21_1.v, x21_2.v] w6 fun w7 =>
  LD [.sl, .sl, .sl] px0 w7 fun (x23_0 : Sl) (x23_1 : Sl) (x23_2 : Sl) =>
  Calls Tryz.prog F.i_BoundText #[.agg #[x23_0.v, x23_1.v, x23_2.v]] w7 (Ret [.at .str, .at .bool] fun (x24_0 : ByteArray) (x24_1 : Bool) w8 =>
  cond (!(x24_0.toList == x17_0.toList)) (
  Q false w8) (
  cond (!(x24_1 == x17_1)) (
  Q false w8) (
  ∀ w12, Ext w8 w12 → w12.heap = w8.heap →
  LD [.sl, .sl, .sl] px0 w12 fun (x35_0_2 : Sl) (x35_1_2 : Sl) (x35_2_2 : Sl) =>
  LD [.sl, .sl, .sl] p_aB w12 fun (x36_0_2 : Sl) (x36_1_2 : Sl) (x36_2_2 : Sl) =>
  Ext w12 w12 ∧ (
  Calls Tryz.prog F.l_toBound #[.agg #[x36_0_2.v, x36_1_2.v, x36_2_2.v]] w12 (Ret [.agg [.sl, .sl, .sl]] fun (x37_0_2 : Sl) (x37_1_2 : Sl) (x37_2_2 : Sl) w13 =>
  Ext w12 w13 ∧ (
  Calls Tryz.prog F.l_eqBound #[.agg #[x35_0_2.v, x35_1_2.v, x35_2_2.v], .agg #[x37_0_2.v, x37_1_2.v, x37_2_2.v]] w13 (Ret [.at .bool] fun (x38_2 : Bool) w14 =>
  Ext w12 w14 ∧ (
  cond (!x38_2) (
  Q false w14) (
  Q true w14))))))))))))))

theorem C_l_FnExactBoundText {Q : Bool → World → Prop} {aB_0 : Sl} {aB_1 : Sl} {aB_2 : Sl} {w : World} (h : V_l_FnExactBoundText Q aB_0 aB_1 aB_2 w) : Calls Tryz.prog F.l_FnExactBoundText #[.agg #[aB_0.v, aB_1.v, aB_2.v]] w (Ret [.at .bool] Q) :=
  mkC (hint := hint) (ann := annOf []) (args := [.agg #[aB_0.v, aB_1.v, aB_2.v]]) (rs := [.at .bool]) Tryz.func4 (by kernel_rfl) (by kernel_rfl) h

def V_l_toIntS (Q : Sl → World → Prop) (a : Sl) (w : World) : Prop :=
  RUN Tryz.prog (.at .sl) (Instr.makeSlice T.t_sl_int (.int .i64 a.len) (.int .i64 a.len)) w fun (x7 : Sl) w1 =>
  ∃ (I3 : Int → World → Prop) (m3 : Int → World → Nat), I3 0 w1 ∧ ∀ (i : Int) w2, I3 i w2 → ∀ _ _ _ _ _ _ _ _ _ _ _ _ _ : Value,
  cond (decide ((i : Int) < a.len)) (
  IX a i 1 fun (px18 : Addr) =>
  LD [.int .i64] px18 w2 fun (x19 : Int) =>
  IX x7 i 1 fun (px20 : Addr) =>
  ST px20 0 [.int .i64 x19] w2 fun w3 =>
  I3 (IntKind.i64.wrap (i + 1)) w3 ∧ m3 (IntKind.i64.wrap (i + 1)) w3 < m3 i w2) (
  Q x7 w2)

theorem C_l_toIntS {Q : Sl → World → Prop} {a : Sl} {w : World} (h : V_l_toIntS Q a w) : Calls Tryz.prog F.l_toIntS #[a.v] w (Ret [.at .sl] Q) :=
  mkC (hint := hint) (ann := annOf [(3, ⟨[(4, .int .i64)], [8, 9, 10, 11, 12, 13, 14, 15, 16, 17, 18, 19, 20]⟩)]) (args := [a.v]) (rs := [.at .sl]) Tryz.func10 (by kernel_rfl) (by kernel_rfl) h

def V_l_eqIntS (Q : Bool → World → Prop) (a : Sl) (b : Sl) (w : World) : Prop :=
  cond ((a.len : Int) != b.len) (
  Q false w) (
  ∃ (I4 : Int → World → Prop) (m4 : Int → World → Nat), I4 0 w ∧ ∀ (i : Int) w1, I4 i w1 → ∀ _ _ _ _ _ _ _ _ _ _ _ _ _ _ _ _ : Value,
  cond (decide ((i : Int) < a.len)) (
  IX a i 1 fun (px19 : Addr) =>
  LD [.int .i64] px19 w1 fun (x20 : Int) =>
  IX b i 1 fun (px23 : Addr) =>
  LD [.int .i64] px23 w1 fun (x24 : Int) =>
  ∀ w2, Ext w1 w2 →
  cond ((x20 : Int) != x24) (
  Q false w2) (
  I4 (IntKind.i64.wrap (i + 1)) w2 ∧ m4 (IntKind.i64.wrap (i + 1)) w2 < m4 i w1)) (
  Q true w1))

theorem C_l_eqIntS {Q : Bool → World → Prop} {a : Sl} {b : Sl} {w : World} (h : V_l_eqIntS Q a b w) : Calls Tryz.prog F.l_eqIntS #[a.v, b.v] w (Ret [.at .bool] Q) :=
  mkC (hint := hint) (ann := annOf [(4, ⟨[(5, .int .i64)], [4, 11, 12, 13, 14, 15, 16, 17, 18, 19, 20, 21, 22, 23, 24, 25]⟩)]) (args := [a.v, b.v]) (rs := [.at .bool]) Tryz.func12 (by kernel_rfl) (by kernel_rfl) h

def V_l_szBound (Q : Int → World → Prop) (a_0 : Sl) (a_1 : Sl) (a_2 : Sl) (left : Int) (w : World) : Prop :=
  NEW T.t_l_Bound #[a_0.v, a_1.v, a_2.v] w fun (p_a : Addr) w1 =>
  LD [.sl] (p_a.add 0) w1 fun (x6 : Sl) =>
  Calls Tryz.prog F.l_szProblemS #[x6.v, .int .i64 left] w1 (Ret [.at (.int .i64)] fun (x8 : Int) w2 =>
  cond (decide ((x8 : Int) < 0)) (
  Q (-1) w2) (
  LD [.sl] (p_a.add 1) w2 fun (x12 : Sl) =>
  Calls Tryz.prog F.l_szIntSS #[x12.v, .int .i64 x8] w2 (Ret [.at (.int .i64)] fun (x14 : Int) w3 =>
  cond (decide ((x14 : Int) < 0)) (
  Q (-1) w3) (
  LD [.sl] (p_a.add 2) w3 fun (x18 : Sl) =>
  Calls Tryz.prog F.l_szIntSS #[x18.v, .int .i64 x14] w3 (Ret [.at (.int .i64)] fun (x20 : Int) w4 =>
  cond (decide ((x20 : Int) < 0)) (
  Q (-1) w4) (
  Q x20 w4))))))

theorem C_l_szBound {Q : Int → World → Prop} {a_0 : Sl} {a_1 : Sl} {a_2 : Sl} {left : Int} {w : World} (h : V_l_szBound Q a_0 a_1 a_2 left w) : Calls Tryz.prog F.l_szBound #[.agg #[a_0.v, a_1.v, a_2.v], .int .i64 left] w (Ret [.at (.int .i64)] Q) :=
  mkC (hint := hint) (ann := annOf []) (args := [.agg #[a_0.v, a_1.v, a_2.v], .int .i64 left]) (rs := [.at (.int .i64)]) Tryz.func17 (by kernel_rfl) (by kernel_rfl) h

def V_s_BoundText (Q : ByteArray → Bool → World → Prop) (b_0 : Sl) (b_1 : Sl) (b_2 : Sl) (w : World) : Prop :=
  NEW T.t_i_Bound #[b_0.v, b_1.v, b_2.v] w fun (p_b : Addr) w1 =>
  LD [.sl, .sl, .sl] p_b w1 fun (x4_0 : Sl) (x4_1 : Sl) (x4_2 : Sl) =>
  Calls Tryz.prog F.s_boGood #[.agg #[x4_0.v, x4_1.v, x4_2.v]] w1 (Ret [.at .bool] fun (x5 : Bool) w2 =>
  cond (!x5) (
  Q (ByteArray.mk #[]) false w2) (
  LD [.sl, .sl, .sl] p_b w2 fun (x7_0 : Sl) (x7_1 : Sl) (x7_2 : Sl) =>
  Calls Tryz.prog F.s_boText #[.agg #[x7_0.v, x7_1.v, x7_2.v]] w2 (Ret [.at .str] fun (x8 : ByteArray) w3 =>
  Q x8 true w3)))

theorem C_s_BoundText {Q : ByteArray → Bool → World → Prop} {b_0 : Sl} {b_1 : Sl} {b_2 : Sl} {w : World} (h : V_s_BoundText Q b_0 b_1 b_2 w) : Calls Tryz.prog F.s_BoundText #[.agg #[b_0.v, b_1.v, b_2.v]] w (Ret [.at .str, .at .bool] Q) :=
  mkC (hint := hint) (ann := annOf []) (args := [.agg #[b_0.v, b_1.v, b_2.v]]) (rs := [.at .str, .at .bool]) Tryz.func18 (by kernel_rfl) (by kernel_rfl) h

def V_l_toBound (Q : Sl → Sl → Sl → World → Prop) (a_0 : Sl) (a_1 : Sl) (a_2 : Sl) (w : World) : Prop :=
  NEW T.t_l_Bound #[a_0.v, a_1.v, a_2.v] w fun (p_a : Addr) w1 =>
  NEW T.t_i_Bound #[.slice none 0 0, .slice none 0 0, .slice none 0 0] w1 fun (px2 : Addr) w2 =>
  NEW T.t_i_Bound #[.slice none 0 0, .slice none 0 0, .slice none 0 0] w2 fun (p_out : Addr) w3 =>
  LD [.sl] (p_a.add 0) w3 fun (x5 : Sl) =>
  Calls Tryz.prog F.l_toProblemS #[x5.v] w3 (Ret [.at .sl] fun (x6 : Sl) w4 =>
  ST (p_out.add 0) 0 [x6.v] w4 fun w5 =>
  LD [.sl] (p_a.add 1) w5 fun (x9 : Sl) =>
  Calls Tryz.prog F.l_toIntSS #[x9.v] w5 (Ret [.at .sl] fun (x10 : Sl) w6 =>
  ST (p_out.add 1) 0 [x10.v] w6 fun w7 =>
  LD [.sl] (p_a.add 2) w7 fun (x13 : Sl) =>
  Calls Tryz.prog F.l_toIntSS #[x13.v] w7 (Ret [.at .sl] fun (x14 : Sl) w8 =>
  ST (p_out.add 2) 0 [x14.v] w8 fun w9 =>
  LD [.sl, .sl, .sl] p_out w9 fun (x16_0 : Sl) (x16_1 : Sl) (x16_2 : Sl) =>
  ST px2 0 [x16_0.v, x16_1.v, x16_2.v] w9 fun w10 =>
  LD [.sl, .sl, .sl] px2 w10 fun (r0_0 : Sl) (r0_1 : Sl) (r0_2 : Sl) =>
  Q r0_0 r0_1 r0_2 w10)))

theorem C_l_toBound {Q : Sl → Sl → Sl → World → Prop} {a_0 : Sl} {a_1 : Sl} {a_2 : Sl} {w : World} (h : V_l_toBound Q a_0 a_1 a_2 w) : Calls Tryz.prog F.l_toBound #[.agg #[a_0.v, a_1.v, a_2.v]] w (Ret [.agg [.sl, .sl, .sl]] Q) :=
  mkC (hint := hint) (ann := annOf []) (args := [.agg #[a_0.v, a_1.v, a_2.v]]) (rs := [.agg [.sl, .sl, .sl]]) Tryz.func19 (by kernel_rfl) (by kernel_rfl) h

def V_i_BoundText (Q : ByteArray → Bool → World → Prop) (b_0 : Sl) (b_1 : Sl) (b_2 : Sl) (w : World) : Prop :=
  NEW T.t_i_Bound #[b_0.v, b_1.v, b_2.v] w fun (p_b : Addr) w1 =>
  LD [.sl, .sl, .sl] p_b w1 fun (x14_0 : Sl) (x14_1 : Sl) (x14_2 : Sl) =>
  Calls Tryz.prog F.i_BoundOf #[.agg #[x14_0.v, x14_1.v, x14_2.v]] w1 (Ret [.at (.int .i64), .at .bool] fun (x15_0 : Int) (x15_1 : Bool) w2 =>
  cond (!x15_1) (
  Q (ByteArray.mk #[]) false w2) (
  NEW T.t_strings_Builder #[.pointer none, .slice none 0 0] w2 fun (p_out : Addr) w3 =>
  LD [.sl] (p_b.add 0) w3 fun (x21 : Sl) =>
  ∃ (I6 : Int → World → Prop) (m6 : Int → World → Nat), I6 0 w3 ∧ ∀ (x23 : Int) w4, I6 x23 w4 → ∀ _ _ _ _ _ _ _ _ : Value,
  cond (decide ((x23 : Int) < x21.len)) (
  IX x21 x23 4 fun (px25 : Addr) =>
  LD [.int .i64, .int .i64, .sl, .sl] px25 w4 fun (x26_0 : Int) (x26_1 : Int) (x26_2 : Sl) (x26_3 : Sl) =>
  NEW T.t_i_Problem #[.int .i64 0, .int .i64 0, .slice none 0 0, .slice none 0 0] w4 fun (p_p : Addr) w5 =>
  ST p_p 0 [.int .i64 x26_0, .int .i64 x26_1, x26_2.v, x26_3.v] w5 fun w6 =>
  LD [.int .i64, .int .i64, .sl, .sl] p_p w6 fun (x27_0 : Int) (x27_1 : Int) (x27_2 : Sl) (x27_3 : Sl) =>
  Calls Tryz.prog F.i_problemText #[.agg #[.int .i64 x27_0, .int .i64 x27_1, x27_2.v, x27_3.v]] w6 (Ret [.at .str] fun (x28 : ByteArray) w7 =>
  Calls Tryz.prog F.ptr_strings_Builder_WriteString #[.pointer (some p_out), .string x28] w7 (Ret [.at (.int .i64), .at .val] fun (x29_0 : Int) (x29_1 : Value) w8 =>
  I6 (IntKind.i64.wrap (x23 + 1)) w8 ∧ m6 (IntKind.i64.wrap (x23 + 1)) w8 < m6 x23 w4))) (
  LD [.sl] (p_b.add 1) w4 fun (x32 : Sl) =>
  ∃ (I11 : Int → World → Prop) (m11 : Int → World → Nat), I11 0 w4 ∧ ∀ (x34 : Int) w9, I11 x34 w9 → ∀ _ _ _ _ _ _ _ _ _ : Value,
  cond (decide ((x34 : Int) < x32.len)) (
  IX x32 x34 1 fun (px36 : Addr) =>
  LD [.sl] px36 w9 fun (x37 : Sl) =>
  Calls Tryz.prog F.i_wordsLine #[.string (ByteArray.mk #[109, 97, 112]), x37.v] w9 (Ret [.at .str] fun (x39 : ByteArray) w10 =>
  x39.size + (ByteArray.mk #[10]).size ≤ 9223372036854775807 ∧ (
  Calls Tryz.prog F.ptr_strings_Builder_WriteString #[.pointer (some p_out), .string (x39 ++ (ByteArray.mk #[10]))] w10 (Ret [.at (.int .i64), .at .val] fun (x41_0 : Int) (x41_1 : Value) w11 =>
  I11 (IntKind.i64.wrap (x34 + 1)) w11 ∧ m11 (IntKind.i64.wrap (x34 + 1)) w11 < m11 x34 w9)))) (
  LD [.sl] (p_b.add 2) w9 fun (x44 : Sl) =>
  ∃ (I16 : Int → World → Prop) (m16 : Int → World → Nat), I16 0 w9 ∧ ∀ (x46 : Int) w12, I16 x46 w12 → ∀ _ _ _ _ _ _ _ _ _ : Value,
  cond (decide ((x46 : Int) < x44.len)) (
  IX x44 x46 1 fun (px48 : Addr) =>
  LD [.sl] px48 w12 fun (x49 : Sl) =>
  Calls Tryz.prog F.i_wordsLine #[.string (ByteArray.mk #[110, 111, 116]), x49.v] w12 (Ret [.at .str] fun (x51 : ByteArray) w13 =>
  x51.size + (ByteArray.mk #[10]).size ≤ 9223372036854775807 ∧ (
  Calls Tryz.prog F.ptr_strings_Builder_WriteString #[.pointer (some p_out), .string (x51 ++ (ByteArray.mk #[10]))] w13 (Ret [.at (.int .i64), .at .val] fun (x53_0 : Int) (x53_1 : Value) w14 =>
  I16 (IntKind.i64.wrap (x46 + 1)) w14 ∧ m16 (IntKind.i64.wrap (x46 + 1)) w14 < m16 x46 w12)))) (
  Calls Tryz.prog F.ptr_strings_Builder_String #[.pointer (some p_out)] w12 (Ret [.at .str] fun (x55 : ByteArray) w15 =>
  Q x55 true w15))))))

theorem C_i_BoundText {Q : ByteArray → Bool → World → Prop} {b_0 : Sl} {b_1 : Sl} {b_2 : Sl} {w : World} (h : V_i_BoundText Q b_0 b_1 b_2 w) : Calls Tryz.prog F.i_BoundText #[.agg #[b_0.v, b_1.v, b_2.v]] w (Ret [.at .str, .at .bool] Q) :=
  mkC (hint := hint) (ann := annOf [(6, ⟨[(23, .int .i64)], [8, 24, 25, 26, 27, 28, 29, 30]⟩), (11, ⟨[(34, .int .i64)], [10, 35, 36, 37, 38, 39, 40, 41, 42]⟩), (16, ⟨[(46, .int .i64)], [12, 47, 48, 49, 50, 51, 52, 53, 54]⟩)]) (args := [.agg #[b_0.v, b_1.v, b_2.v]]) (rs := [.at .str, .at .bool]) Tryz.func20 (by kernel_rfl) (by kernel_rfl) h

def V_l_eqBound (Q : Bool → World → Prop) (a_0 : Sl) (a_1 : Sl) (a_2 : Sl) (b_0 : Sl) (b_1 : Sl) (b_2 : Sl) (w : World) : Prop :=
  NEW T.t_i_Bound #[a_0.v, a_1.v, a_2.v] w fun (p_a : Addr) w1 =>
  NEW T.t_i_Bound #[b_0.v, b_1.v, b_2.v] w1 fun (p_b : Addr) w2 =>
  LD [.sl] (p_a.add 0) w2 fun (x6 : Sl) =>
  LD [.sl] (p_b.add 0) w2 fun (x8 : Sl) =>
  Calls Tryz.prog F.l_eqProblemS #[x6.v, x8.v] w2 (Ret [.at .bool] fun (x9 : Bool) w3 =>
  cond (!x9) (
  Q false w3) (
  LD [.sl] (p_a.add 1) w3 fun (x12 : Sl) =>
  LD [.sl] (p_b.add 1) w3 fun (x14 : Sl) =>
  Calls Tryz.prog F.l_eqIntSS #[x12.v, x14.v] w3 (Ret [.at .bool] fun (x15 : Bool) w4 =>
  cond (!x15) (
  Q false w4) (
  LD [.sl] (p_a.add 2) w4 fun (x18 : Sl) =>
  LD [.sl] (p_b.add 2) w4 fun (x20 : Sl) =>
  Calls Tryz.prog F.l_eqIntSS #[x18.v, x20.v] w4 (Ret [.at .bool] fun (x21 : Bool) w5 =>
  cond (!x21) (
  Q false w5) (
  Q true w5))))))

theorem C_l_eqBound {Q : Bool → World → Prop} {a_0 : Sl} {a_1 : Sl} {a_2 : Sl} {b_0 : Sl} {b_1 : Sl} {b_2 : Sl} {w : World} (h : V_l_eqBound Q a_0 a_1 a_2 b_0 b_1 b_2 w) : Calls Tryz.prog F.l_eqBound #[.agg #[a_0.v, a_1.v, a_2.v], .agg #[b_0.v, b_1.v, b_2.v]] w (Ret [.at .bool] Q) :=
  mkC (hint := hint) (ann := annOf []) (args := [.agg #[a_0.v, a_1.v, a_2.v], .agg #[b_0.v, b_1.v, b_2.v]]) (rs := [.at .bool]) Tryz.func21 (by kernel_rfl) (by kernel_rfl) h

def V_l_szIntSS (Q : Int → World → Prop) (a : Sl) (left : Int) (w : World) : Prop :=
  cond (decide (((IntKind.i64.wrap (left - a.len)) : Int) < 0)) (
  Q (-1) w) (
  ∃ (I5 : Int → Int → World → Prop) (m5 : Int → Int → World → Nat), I5 (IntKind.i64.wrap (left - a.len)) 0 w ∧ ∀ (left_2 : Int) (i : Int) w1, I5 left_2 i w1 → ∀ _ _ _ _ _ _ _ _ _ _ _ _ _ _ _ : Value,
  cond (decide ((i : Int) < a.len)) (
  IX a i 1 fun (px20 : Addr) =>
  LD [.sl] px20 w1 fun (x21 : Sl) =>
  Calls Tryz.prog F.l_szIntS #[x21.v, .int .i64 left_2] w1 (Ret [.at (.int .i64)] fun (x23 : Int) w2 =>
  cond (decide ((x23 : Int) < 0)) (
  Q (-1) w2) (
  I5 x23 (IntKind.i64.wrap (i + 1)) w2 ∧ m5 x23 (IntKind.i64.wrap (i + 1)) w2 < m5 left_2 i w1))) (
  Q left_2 w1))

theorem C_l_szIntSS {Q : Int → World → Prop} {a : Sl} {left : Int} {w : World} (h : V_l_szIntSS Q a left w) : Calls Tryz.prog F.l_szIntSS #[a.v, .int .i64 left] w (Ret [.at (.int .i64)] Q) :=
  mkC (hint := hint) (ann := annOf [(5, ⟨[(1, .int .i64), (5, .int .i64)], [4, 12, 13, 14, 15, 16, 17, 18, 19, 20, 21, 22, 23, 24, 25]⟩)]) (args := [a.v, .int .i64 left]) (rs := [.at (.int .i64)]) Tryz.func31 (by kernel_rfl) (by kernel_rfl) h

def V_l_toIntSS (Q : Sl → World → Prop) (a : Sl) (w : World) : Prop :=
  RUN Tryz.prog (.at .sl) (Instr.makeSlice T.t_sl_sl_int (.int .i64 a.len) (.int .i64 a.len)) w fun (x7 : Sl) w1 =>
  ∃ (I3 : Int → World → Prop) (m3 : Int → World → Nat), I3 0 w1 ∧ ∀ (i : Int) w2, I3 i w2 → ∀ _ _ _ _ _ _ _ _ _ _ _ _ _ _ : Value,
  cond (decide ((i : Int) < a.len)) (
  IX a i 1 fun (px18 : Addr) =>
  LD [.sl] px18 w2 fun (x19 : Sl) =>
  Calls Tryz.prog F.l_toIntS #[x19.v] w2 (Ret [.at .sl] fun (x20 : Sl) w3 =>
  IX x7 i 1 fun (px21 : Addr) =>
  ST px21 0 [x20.v] w3 fun w4 =>
  I3 (IntKind.i64.wrap (i + 1)) w4 ∧ m3 (IntKind.i64.wrap (i + 1)) w4 < m3 i w2)) (
  Q x7 w2)

theorem C_l_toIntSS {Q : Sl → World → Prop} {a : Sl} {w : World} (h : V_l_toIntSS Q a w) : Calls Tryz.prog F.l_toIntSS #[a.v] w (Ret [.at .sl] Q) :=
  mkC (hint := hint) (ann := annOf [(3, ⟨[(4, .int .i64)], [8, 9, 10, 11, 12, 13, 14, 15, 16, 17, 18, 19, 20, 21]⟩)]) (args := [a.v]) (rs := [.at .sl]) Tryz.func39 (by kernel_rfl) (by kernel_rfl) h

def V_slices_Index_sl_int_int (Q : Int → World → Prop) (s : Sl) (v : Int) (w : World) : Prop :=
  ∃ (I2 : Int → World → Prop) (m2 : Int → World → Nat), I2 0 w ∧ ∀ (x8 : Int) w1, I2 x8 w1 → ∀ _ _ _ _ _ _ _ _ _ _ _ _ : Value,
  cond (decide ((x8 : Int) < s.len)) (
  IX s x8 1 fun (px14 : Addr) =>
  LD [.int .i64] px14 w1 fun (x15 : Int) =>
  cond ((v : Int) == x15) (
  Q x8 w1) (
  I2 (IntKind.i64.wrap (x8 + 1)) w1 ∧ m2 (IntKind.i64.wrap (x8 + 1)) w1 < m2 x8 w1)) (
  Q (-1) w1)

theorem C_slices_Index_sl_int_int {Q : Int → World → Prop} {s : Sl} {v : Int} {w : World} (h : V_slices_Index_sl_int_int Q s v w) : Calls Tryz.prog F.slices_Index_sl_int_int #[s.v, .int .i64 v] w (Ret [.at (.int .i64)] Q) :=
  mkC (hint := hint) (ann := annOf [(2, ⟨[(8, .int .i64)], [4, 5, 9, 10, 11, 12, 13, 14, 15, 16, 17, 18]⟩)]) (args := [s.v, .int .i64 v]) (rs := [.at (.int .i64)]) Tryz.func49 (by kernel_rfl) (by kernel_rfl) h

def V_slices_Concat_sl_int_int (Q : Sl → World → Prop) (slices : Sl) (w : World) : Prop :=
  ∃ (I3 : Int → Int → World → Prop) (m3 : Int → Int → World → Nat), I3 0 0 w ∧ ∀ (size1 : Int) (x11 : Int) w1, I3 size1 x11 w1 → ∀ _ _ _ _ _ _ _ _ _ _ _ _ : Value,
  cond (decide ((x11 : Int) < slices.len)) (
  IX slices x11 1 fun (px13 : Addr) =>
  LD [.sl] px13 w1 fun (x14 : Sl) =>
  cond (decide (((IntKind.i64.wrap (size1 + x14.len)) : Int) < 0)) (
  False) (
  I3 (IntKind.i64.wrap (size1 + x14.len)) (IntKind.i64.wrap (x11 + 1)) w1 ∧ m3 (IntKind.i64.wrap (size1 + x14.len)) (IntKind.i64.wrap (x11 + 1)) w1 < m3 size1 x11 w1)) (
  Calls Tryz.prog F.slices_Grow_sl_int_int #[.slice none 0 0, .int .i64 size1] w1 (Ret [.at .sl] fun (x24 : Sl) w2 =>
  ∃ (I11 : Sl → Int → World → Prop) (m11 : Sl → Int → World → Nat), I11 x24 0 w2 ∧ ∀ (newslice : Sl) (x27 : Int) w3, I11 newslice x27 w3 → ∀ _ _ _ _ _ _ _ _ : Value,
  cond (decide ((x27 : Int) < slices.len)) (
  IX slices x27 1 fun (px29 : Addr) =>
  LD [.sl] px29 w3 fun (x30 : Sl) =>
  RUN Tryz.prog (.at .sl) (bsem .append #[T.t_sl_int, T.t_sl_int] T.t_sl_int #[newslice.v, x30.v]) w3 fun (x33 : Sl) w4 =>
  I11 x33 (IntKind.i64.wrap (x27 + 1)) w4 ∧ m11 x33 (IntKind.i64.wrap (x27 + 1)) w4 < m11 newslice x27 w3) (
  Q newslice w3)))

theorem C_slices_Concat_sl_int_int {Q : Sl → World → Prop} {slices : Sl} {w : World} (h : V_slices_Concat_sl_int_int Q slices w) : Calls Tryz.prog F.slices_Concat_sl_int_int #[slices.v] w (Ret [.at .sl] Q) :=
  mkC (hint := hint) (ann := annOf [(3, ⟨[(3, .int .i64), (11, .int .i64)], [5, 12, 13, 14, 15, 16, 17, 18, 19, 20, 21, 22]⟩), (11, ⟨[(6, .sl), (27, .int .i64)], [8, 28, 29, 30, 31, 32, 33, 34]⟩)]) (args := [slices.v]) (rs := [.at .sl]) Tryz.func51 (by kernel_rfl) (by kernel_rfl) h

def V_l_eqIntSS (Q : Bool → World → Prop) (a : Sl) (b : Sl) (w : World) : Prop :=
  cond ((a.len : Int) != b.len) (
  Q false w) (
  ∃ (I4 : Int → World → Prop) (m4 : Int → World → Nat), I4 0 w ∧ ∀ (i : Int) w1, I4 i w1 → ∀ _ _ _ _ _ _ _ _ _ _ _ _ _ _ _ _ _ : Value,
  cond (decide ((i : Int) < a.len)) (
  IX a i 1 fun (px19 : Addr) =>
  LD [.sl] px19 w1 fun (x20 : Sl) =>
  IX b i 1 fun (px23 : Addr) =>
  LD [.sl] px23 w1 fun (x24 : Sl) =>
  QCALL Tryz.prog F.l_eqIntS #[x20.v, x24.v] w1 [.at .bool] fun (x25 : Bool) =>
  ∀ w2, Ext w1 w2 →
  cond (!x25) (
  Q false w2) (
  I4 (IntKind.i64.wrap (i + 1)) w2 ∧ m4 (IntKind.i64.wrap (i + 1)) w2 < m4 i w1)) (
  Q true w1))

theorem C_l_eqIntSS {Q : Bool → World → Prop} {a : Sl} {b : Sl} {w : World} (h : V_l_eqIntSS Q a b w) : Calls Tryz.prog F.l_eqIntSS #[a.v, b.v] w (Ret [.at .bool] Q) :=
  mkC (hint := hint) (ann := annOf [(4, ⟨[(5, .int .i64)], [4, 11, 12, 13, 14, 15, 16, 17, 18, 19, 20, 21, 22, 23, 24, 25, 26]⟩)]) (args := [a.v, b.v]) (rs := [.at .bool]) Tryz.func52 (by kernel_rfl) (by kernel_rfl) h

def V_l_szProblemS (Q : Int → World → Prop) (a : Sl) (left : Int) (w : World) : Prop :=
  cond (decide (((IntKind.i64.wrap (left - a.len)) : Int) < 0)) (
  Q (-1) w) (
  ∃ (I5 : Int → Int → World → Prop) (m5 : Int → Int → World → Nat), I5 (IntKind.i64.wrap (left - a.len)) 0 w ∧ ∀ (left_2 : Int) (i : Int) w1, I5 left_2 i w1 → ∀ _ _ _ _ _ _ _ _ _ _ _ _ _ _ _ : Value,
  cond (decide ((i : Int) < a.len)) (
  IX a i 4 fun (px20 : Addr) =>
  LD [.int .i64, .int .i64, .sl, .sl] px20 w1 fun (x21_0 : Int) (x21_1 : Int) (x21_2 : Sl) (x21_3 : Sl) =>
  Calls Tryz.prog F.l_szProblem #[.agg #[.int .i64 x21_0, .int .i64 x21_1, x21_2.v, x21_3.v], .int .i64 left_2] w1 (Ret [.at (.int .i64)] fun (x23 : Int) w2 =>
  cond (decide ((x23 : Int) < 0)) (
  Q (-1) w2) (
  I5 x23 (IntKind.i64.wrap (i + 1)) w2 ∧ m5 x23 (IntKind.i64.wrap (i + 1)) w2 < m5 left_2 i w1))) (
  Q left_2 w1))

theorem C_l_szProblemS {Q : Int → World → Prop} {a : Sl} {left : Int} {w : World} (h : V_l_szProblemS Q a left w) : Calls Tryz.prog F.l_szProblemS #[a.v, .int .i64 left] w (Ret [.at (.int .i64)] Q) :=
  mkC (hint := hint) (ann := annOf [(5, ⟨[(1, .int .i64), (5, .int .i64)], [4, 12, 13, 14, 15, 16, 17, 18, 19, 20, 21, 22, 23, 24, 25]⟩)]) (args := [a.v, .int .i64 left]) (rs := [.at (.int .i64)]) Tryz.func54 (by kernel_rfl) (by kernel_rfl) h

def V_s_boGood (Q : Bool → World → Prop) (b_0 : Sl) (b_1 : Sl) (b_2 : Sl) (w : World) : Prop :=
  NEW T.t_i_Bound #[b_0.v, b_1.v, b_2.v] w fun (p_b : Addr) w1 =>
  LD [.sl] (p_b.add 0) w1 fun (x4 : Sl) =>
  Calls Tryz.prog F.s_boTwo #[x4.v] w1 (Ret [.at .bool] fun (x5 : Bool) w2 =>
  cond x5 (
  LD [.sl, .sl, .sl] p_b w2 fun (x7_0 : Sl) (x7_1 : Sl) (x7_2 : Sl) =>
  Calls Tryz.prog F.s_boRight #[.agg #[x7_0.v, x7_1.v, x7_2.v]] w2 (Ret [.at .bool] fun (x8 : Bool) w3 =>
  Q x8 w3)) (
  Q false w2))

theorem C_s_boGood {Q : Bool → World → Prop} {b_0 : Sl} {b_1 : Sl} {b_2 : Sl} {w : World} (h : V_s_boGood Q b_0 b_1 b_2 w) : Calls Tryz.prog F.s_boGood #[.agg #[b_0.v, b_1.v, b_2.v]] w (Ret [.at .bool] Q) :=
  mkC (hint := hint) (ann := annOf []) (args := [.agg #[b_0.v, b_1.v, b_2.v]]) (rs := [.at .bool]) Tryz.func55 (by kernel_rfl) (by kernel_rfl) h

def V_s_boText (Q : ByteArray → World → Prop) (b_0 : Sl) (b_1 : Sl) (b_2 : Sl) (w : World) : Prop :=
  NEW T.t_i_Bound #[b_0.v, b_1.v, b_2.v] w fun (p_b : Addr) w1 =>
  LD [.sl] (p_b.add 0) w1 fun (x11 : Sl) =>
  ∃ (I3 : ByteArray → Int → World → Prop) (m3 : ByteArray → Int → World → Nat), I3 (ByteArray.mk #[]) 0 w1 ∧ ∀ (out : ByteArray) (x13 : Int) w2, I3 out x13 w2 → ∀ _ _ _ _ _ _ _ _ _ : Value,
  cond (decide ((x13 : Int) < x11.len)) (
  IX x11 x13 4 fun (px15 : Addr) =>
  LD [.int .i64, .int .i64, .sl, .sl] px15 w2 fun (x16_0 : Int) (x16_1 : Int) (x16_2 : Sl) (x16_3 : Sl) =>
  NEW T.t_i_Problem #[.int .i64 0, .int .i64 0, .slice none 0 0, .slice none 0 0] w2 fun (p_p : Addr) w3 =>
  ST p_p 0 [.int .i64 x16_0, .int .i64 x16_1, x16_2.v, x16_3.v] w3 fun w4 =>
  LD [.int .i64, .int .i64, .sl, .sl] p_p w4 fun (x18_0 : Int) (x18_1 : Int) (x18_2 : Sl) (x18_3 : Sl) =>
  Calls Tryz.prog F.s_prText #[.agg #[.int .i64 x18_0, .int .i64 x18_1, x18_2.v, x18_3.v]] w4 (Ret [.at .str] fun (x19 : ByteArray) w5 =>
  out.size + x19.size ≤ 9223372036854775807 ∧ (
  I3 (out ++ x19) (IntKind.i64.wrap (x13 + 1)) w5 ∧ m3 (out ++ x19) (IntKind.i64.wrap (x13 + 1)) w5 < m3 out x13 w2))) (
  LD [.sl] (p_b.add 1) w2 fun (x23 : Sl) =>
  ∃ (I8 : ByteArray → Int → World → Prop) (m8 : ByteArray → Int → World → Nat), I8 out 0 w2 ∧ ∀ (out_2 : ByteArray) (x25 : Int) w6, I8 out_2 x25 w6 → ∀ _ _ _ _ _ _ _ _ _ : Value,
  cond (decide ((x25 : Int) < x23.len)) (
  IX x23 x25 1 fun (px27 : Addr) =>
  LD [.sl] px27 w6 fun (x28 : Sl) =>
  Calls Tryz.prog F.s_boLine #[.string (ByteArray.mk #[109, 97, 112]), x28.v] w6 (Ret [.at .str] fun (x31 : ByteArray) w7 =>
  out_2.size + x31.size ≤ 9223372036854775807 ∧ (
  I8 (out_2 ++ x31) (IntKind.i64.wrap (x25 + 1)) w7 ∧ m8 (out_2 ++ x31) (IntKind.i64.wrap (x25 + 1)) w7 < m8 out_2 x25 w6))) (
  LD [.sl] (p_b.add 2) w6 fun (x35 : Sl) =>
  ∃ (I13 : ByteArray → Int → World → Prop) (m13 : ByteArray → Int → World → Nat), I13 out_2 0 w6 ∧ ∀ (out_3 : ByteArray) (x37 : Int) w8, I13 out_3 x37 w8 → ∀ _ _ _ _ _ _ _ _ _ : Value,
  cond (decide ((x37 : Int) < x35.len)) (
  IX x35 x37 1 fun (px39 : Addr) =>
  LD [.sl] px39 w8 fun (x40 : Sl) =>
  Calls Tryz.prog F.s_boLine #[.string (ByteArray.mk #[110, 111, 116]), x40.v] w8 (Ret [.at .str] fun (x43 : ByteArray) w9 =>
  out_3.size + x43.size ≤ 9223372036854775807 ∧ (
  I13 (out_3 ++ x43) (IntKind.i64.wrap (x37 + 1)) w9 ∧ m13 (out_3 ++ x43) (IntKind.i64.wrap (x37 + 1)) w9 < m13 out_3 x37 w8))) (
  Q out_3 w8)))

theorem C_s_boText {Q : ByteArray → World → Prop} {b_0 : Sl} {b_1 : Sl} {b_2 : Sl} {w : World} (h : V_s_boText Q b_0 b_1 b_2 w) : Calls Tryz.prog F.s_boText #[.agg #[b_0.v, b_1.v, b_2.v]] w (Ret [.at .str] Q) :=
  mkC (hint := hint) (ann := annOf [(3, ⟨[(3, .str), (13, .int .i64)], [5, 14, 15, 16, 17, 18, 19, 20, 21]⟩), (8, ⟨[(3, .str), (25, .int .i64)], [7, 26, 27, 28, 29, 30, 31, 32, 33]⟩), (13, ⟨[(3, .str), (37, .int .i64)], [9, 38, 39, 40, 41, 42, 43, 44, 45]⟩)]) (args := [.agg #[b_0.v, b_1.v, b_2.v]]) (rs := [.at .str]) Tryz.func56 (by kernel_rfl) (by kernel_rfl) h

def V_l_toProblemS (Q : Sl → World → Prop) (a : Sl) (w : World) : Prop :=
  RUN Tryz.prog (.at .sl) (Instr.makeSlice T.t_sl_i_Problem (.int .i64 a.len) (.int .i64 a.len)) w fun (x7 : Sl) w1 =>
  ∃ (I3 : Int → World → Prop) (m3 : Int → World → Nat), I3 0 w1 ∧ ∀ (i : Int) w2, I3 i w2 → ∀ _ _ _ _ _ _ _ _ _ _ _ _ _ _ : Value,
  cond (decide ((i : Int) < a.len)) (
  IX a i 4 fun (px18 : Addr) =>
  LD [.int .i64, .int .i64, .sl, .sl] px18 w2 fun (x19_0 : Int) (x19_1 : Int) (x19_2 : Sl) (x19_3 : Sl) =>
  Calls Tryz.prog F.l_toProblem #[.agg #[.int .i64 x19_0, .int .i64 x19_1, x19_2.v, x19_3.v]] w2 (Ret [.agg [.int .i64, .int .i64, .sl, .sl]] fun (x20_0 : Int) (x20_1 : Int) (x20_2 : Sl) (x20_3 : Sl) w3 =>
  IX x7 i 4 fun (px21 : Addr) =>
  ST px21 0 [.int .i64 x20_0, .int .i64 x20_1, x20_2.v, x20_3.v] w3 fun w4 =>
  I3 (IntKind.i64.wrap (i + 1)) w4 ∧ m3 (IntKind.i64.wrap (i + 1)) w4 < m3 i w2)) (
  Q x7 w2)

theorem C_l_toProblemS {Q : Sl → World → Prop} {a : Sl} {w : World} (h : V_l_toProblemS Q a w) : Calls Tryz.prog F.l_toProblemS #[a.v] w (Ret [.at .sl] Q) :=
  mkC (hint := hint) (ann := annOf [(3, ⟨[(4, .int .i64)], [8, 9, 10, 11, 12, 13, 14, 15, 16, 17, 18, 19, 20, 21]⟩)]) (args := [a.v]) (rs := [.at .sl]) Tryz.func57 (by kernel_rfl) (by kernel_rfl) h

def V_i_BoundOf (Q : Int → Bool → World → Prop) (b_0 : Sl) (b_1 : Sl) (b_2 : Sl) (w : World) : Prop :=
  NEW T.t_i_Bound #[b_0.v, b_1.v, b_2.v] w fun (p_b : Addr) w1 =>
  LD [.sl, .sl, .sl] p_b w1 fun (x7_0 : Sl) (x7_1 : Sl) (x7_2 : Sl) =>
  Calls Tryz.prog F.i_CheckBound #[.agg #[x7_0.v, x7_1.v, x7_2.v]] w1 (Ret [.at .bool, .at .bool] fun (x8_0 : Bool) (x8_1 : Bool) w2 =>
  cond (!x8_0) (
  Q 0 false w2) (
  cond (!x8_1) (
  Q 0 false w2) (
  LD [.sl] (p_b.add 1) w2 fun (x18_2 : Sl) =>
  Q x18_2.len true w2)))

theorem C_i_BoundOf {Q : Int → Bool → World → Prop} {b_0 : Sl} {b_1 : Sl} {b_2 : Sl} {w : World} (h : V_i_BoundOf Q b_0 b_1 b_2 w) : Calls Tryz.prog F.i_BoundOf #[.agg #[b_0.v, b_1.v, b_2.v]] w (Ret [.at (.int .i64), .at .bool] Q) :=
  mkC (hint := hint) (ann := annOf []) (args := [.agg #[b_0.v, b_1.v, b_2.v]]) (rs := [.at (.int .i64), .at .bool]) Tryz.func58 (by kernel_rfl) (by kernel_rfl) h

def V_i_problemText (Q : ByteArray → World → Prop) (p_0 : Int) (p_1 : Int) (p_2 : Sl) (p_3 : Sl) (w : World) : Prop :=
  NEW T.t_i_Problem #[.int .i64 p_0, .int .i64 p_1, p_2.v, p_3.v] w fun (p_p : Addr) w1 =>
  LD [.int .i64] (p_p.add 0) w1 fun (x9 : Int) =>
  LD [.int .i64] (p_p.add 1) w1 fun (x11 : Int) =>
  RUN Tryz.prog (.at .sl) (Instr.buildSlice T.t_sl_int 2 #[(0, .int .i64 x9), (1, .int .i64 x11)]) w1 fun (x12 : Sl) w2 =>
  Calls Tryz.prog F.i_wordsLine #[.string (ByteArray.mk #[112, 114, 111, 98, 108, 101, 109]), x12.v] w2 (Ret [.at .str] fun (x13 : ByteArray) w3 =>
  RUN Tryz.prog (.at .sl) (Instr.buildSlice T.t_sl_string 1 #[(0, .string x13)]) w3 fun (x14 : Sl) w4 =>
  LD [.sl] (p_p.add 2) w4 fun (x16 : Sl) =>
  ∃ (I3 : Sl → Int → World → Prop) (m3 : Sl → Int → World → Nat), I3 x14 0 w4 ∧ ∀ (lines : Sl) (x18 : Int) w5, I3 lines x18 w5 → ∀ _ _ _ _ _ _ _ _ _ _ : Value,
  cond (decide ((x18 : Int) < x16.len)) (
  IX x16 x18 1 fun (px20 : Addr) =>
  LD [.sl] px20 w5 fun (x21 : Sl) =>
  Calls Tryz.prog F.i_wordsLine #[.string (ByteArray.mk #[110, 111, 100, 101]), x21.v] w5 (Ret [.at .str] fun (x24 : ByteArray) w6 =>
  RUN Tryz.prog (.at .sl) (Instr.buildSlice T.t_sl_string 1 #[(0, .string x24)]) w6 fun (x25 : Sl) w7 =>
  RUN Tryz.prog (.at .sl) (bsem .append #[T.t_sl_string, T.t_sl_string] T.t_sl_string #[lines.v, x25.v]) w7 fun (x26 : Sl) w8 =>
  I3 x26 (IntKind.i64.wrap (x18 + 1)) w8 ∧ m3 x26 (IntKind.i64.wrap (x18 + 1)) w8 < m3 lines x18 w5)) (
  LD [.sl] (p_p.add 3) w5 fun (x29 : Sl) =>
  ∃ (I8 : Sl → Int → World → Prop) (m8 : Sl → Int → World → Nat), I8 lines 0 w5 ∧ ∀ (lines_2 : Sl) (x31 : Int) w9, I8 lines_2 x31 w9 → ∀ _ _ _ _ _ _ _ _ _ _ : Value,
  cond (decide ((x31 : Int) < x29.len)) (
  IX x29 x31 1 fun (px33 : Addr) =>
  LD [.sl] px33 w9 fun (x34 : Sl) =>
  Calls Tryz.prog F.i_wordsLine #[.string (ByteArray.mk #[101, 100, 103, 101]), x34.v] w9 (Ret [.at .str] fun (x37 : ByteArray) w10 =>
  RUN Tryz.prog (.at .sl) (Instr.buildSlice T.t_sl_string 1 #[(0, .string x37)]) w10 fun (x38 : Sl) w11 =>
  RUN Tryz.prog (.at .sl) (bsem .append #[T.t_sl_string, T.t_sl_string] T.t_sl_string #[lines_2.v, x38.v]) w11 fun (x39 : Sl) w12 =>
  I8 x39 (IntKind.i64.wrap (x31 + 1)) w12 ∧ m8 x39 (IntKind.i64.wrap (x31 + 1)) w12 < m8 lines_2 x31 w9)) (
  Calls Tryz.prog F.strings_Join #[lines_2.v, .string (ByteArray.mk #[10])] w9 (Ret [.at .str] fun (x42 : ByteArray) w13 =>
  x42.size + (ByteArray.mk #[10]).size ≤ 9223372036854775807 ∧ (
  Q (x42 ++ (ByteArray.mk #[10])) w13)))))

theorem C_i_problemText {Q : ByteArray → World → Prop} {p_0 : Int} {p_1 : Int} {p_2 : Sl} {p_3 : Sl} {w : World} (h : V_i_problemText Q p_0 p_1 p_2 p_3 w) : Calls Tryz.prog F.i_problemText #[.agg #[.int .i64 p_0, .int .i64 p_1, p_2.v, p_3.v]] w (Ret [.at .str] Q) :=
  mkC (hint := hint) (ann := annOf [(3, ⟨[(3, .sl), (18, .int .i64)], [5, 19, 20, 21, 22, 23, 24, 25, 26, 27]⟩), (8, ⟨[(3, .sl), (31, .int .i64)], [7, 32, 33, 34, 35, 36, 37, 38, 39, 40]⟩)]) (args := [.agg #[.int .i64 p_0, .int .i64 p_1, p_2.v, p_3.v]]) (rs := [.at .str]) Tryz.func60 (by kernel_rfl) (by kernel_rfl) h

def V_i_wordsLine (Q : ByteArray → World → Prop) (word : ByteArray) (numbers : Sl) (w : World) : Prop :=
  ∃ (I2 : ByteArray → Int → World → Prop) (m2 : ByteArray → Int → World → Nat), I2 word 0 w ∧ ∀ (word_2 : ByteArray) (x9 : Int) w1, I2 word_2 x9 w1 → ∀ _ _ _ _ _ _ _ _ _ _ _ _ _ _ : Value,
  cond (decide ((x9 : Int) < numbers.len)) (
  IX numbers x9 1 fun (px11 : Addr) =>
  LD [.int .i64] px11 w1 fun (x12 : Int) =>
  cond ((x12 : Int) == (-1)) (
  word_2.size + (ByteArray.mk #[32, 42]).size ≤ 9223372036854775807 ∧ (
  I2 (word_2 ++ (ByteArray.mk #[32, 42])) (IntKind.i64.wrap (x9 + 1)) w1 ∧ m2 (word_2 ++ (ByteArray.mk #[32, 42])) (IntKind.i64.wrap (x9 + 1)) w1 < m2 word_2 x9 w1)) (
  Calls Tryz.prog F.strconv_Itoa #[.int .i64 x12] w1 (Ret [.at .str] fun (x19 : ByteArray) w2 =>
  (ByteArray.mk #[32]).size + x19.size ≤ 9223372036854775807 ∧ (
  word_2.size + ((ByteArray.mk #[32]) ++ x19).size ≤ 9223372036854775807 ∧ (
  I2 (word_2 ++ ((ByteArray.mk #[32]) ++ x19)) (IntKind.i64.wrap (x9 + 1)) w2 ∧ m2 (word_2 ++ ((ByteArray.mk #[32]) ++ x19)) (IntKind.i64.wrap (x9 + 1)) w2 < m2 word_2 x9 w1))))) (
  Q word_2 w1)

theorem C_i_wordsLine {Q : ByteArray → World → Prop} {word : ByteArray} {numbers : Sl} {w : World} (h : V_i_wordsLine Q word numbers w) : Calls Tryz.prog F.i_wordsLine #[.string word, numbers.v] w (Ret [.at .str] Q) :=
  mkC (hint := hint) (ann := annOf [(2, ⟨[(0, .str), (9, .int .i64)], [6, 10, 11, 12, 13, 14, 15, 16, 17, 18, 19, 20, 21, 22]⟩)]) (args := [.string word, numbers.v]) (rs := [.at .str]) Tryz.func61 (by kernel_rfl) (by kernel_rfl) h

def V_l_eqProblemS (Q : Bool → World → Prop) (a : Sl) (b : Sl) (w : World) : Prop :=
  cond ((a.len : Int) != b.len) (
  Q false w) (
  ∃ (I4 : Int → World → Prop) (m4 : Int → World → Nat), I4 0 w ∧ ∀ (i : Int) w1, I4 i w1 → ∀ _ _ _ _ _ _ _ _ _ _ _ _ _ _ _ _ _ : Value,
  cond (decide ((i : Int) < a.len)) (
  IX a i 4 fun (px19 : Addr) =>
  LD [.int .i64, .int .i64, .sl, .sl] px19 w1 fun (x20_0 : Int) (x20_1 : Int) (x20_2 : Sl) (x20_3 : Sl) =>
  IX b i 4 fun (px23 : Addr) =>
  LD [.int .i64, .int .i64, .sl, .sl] px23 w1 fun (x24_0 : Int) (x24_1 : Int) (x24_2 : Sl) (x24_3 : Sl) =>
  QCALL Tryz.prog F.l_eqProblem #[.agg #[.int .i64 x20_0, .int .i64 x20_1, x20_2.v, x20_3.v], .agg #[.int .i64 x24_0, .int .i64 x24_1, x24_2.v, x24_3.v]] w1 [.at .bool] fun (x25 : Bool) =>
  ∀ w2, Ext w1 w2 →
  cond (!x25) (
  Q false w2) (
  I4 (IntKind.i64.wrap (i + 1)) w2 ∧ m4 (IntKind.i64.wrap (i + 1)) w2 < m4 i w1)) (
  Q true w1))

theorem C_l_eqProblemS {Q : Bool → World → Prop} {a : Sl} {b : Sl} {w : World} (h : V_l_eqProblemS Q a b w) : Calls Tryz.prog F.l_eqProblemS #[a.v, b.v] w (Ret [.at .bool] Q) :=
  mkC (hint := hint) (ann := annOf [(4, ⟨[(5, .int .i64)], [4, 11, 12, 13, 14, 15, 16, 17, 18, 19, 20, 21, 22, 23, 24, 25, 26]⟩)]) (args := [a.v, b.v]) (rs := [.at .bool]) Tryz.func63 (by kernel_rfl) (by kernel_rfl) h

end Go.Proofs.YtnhidomgpbohiaaGreatDoor
end

section
/- What each function's code computes to. Printed by a program. -/
namespace Go.Proofs.YtnhidomgpbohiaaGreatDoor
open Go.GX Go.RowKit
set_option linter.unusedVariables false
set_option maxRecDepth 100000

def V_l_szIntS (Q : Int → World → Prop) (a : Sl) (left : Int) (w : World) : Prop :=
  cond (decide (((IntKind.i64.wrap (left - a.len)) : Int) < 0)) (
  Q (-1) w) (
  Q (IntKind.i64.wrap (left - a.len)) w)

theorem C_l_szIntS {Q : Int → World → Prop} {a : Sl} {left : Int} {w : World} (h : V_l_szIntS Q a left w) : Calls Tryz.prog F.l_szIntS #[a.v, .int .i64 left] w (Ret [.at (.int .i64)] Q) :=
  mkC (hint := hint) (ann := annOf []) (args := [a.v, .int .i64 left]) (rs := [.at (.int .i64)]) Tryz.func79 (by kernel_rfl) (by kernel_rfl) h

def V_s_l1In (Q : Bool → World → Prop) (n : Int) (lo : Int) (hi : Int) (w : World) : Prop :=
  cond (decide ((n : Int) ≥ lo)) (
  Q (decide ((n : Int) ≤ hi)) w) (
  Q false w)

theorem C_s_l1In {Q : Bool → World → Prop} {n : Int} {lo : Int} {hi : Int} {w : World} (h : V_s_l1In Q n lo hi w) : Calls Tryz.prog F.s_l1In #[.int .i64 n, .int .i64 lo, .int .i64 hi] w (Ret [.at .bool] Q) :=
  mkC (hint := hint) (ann := annOf []) (args := [.int .i64 n, .int .i64 lo, .int .i64 hi]) (rs := [.at .bool]) Tryz.func80 (by kernel_rfl) (by kernel_rfl) h

def V_s_l1Has (Q : Bool → World → Prop) (l : Sl) (n : Int) (w : World) : Prop :=
  ∃ (I2 : Int → World → Prop) (m2 : Int → World → Nat), I2 0 w ∧ ∀ (x9 : Int) w1, I2 x9 w1 → ∀ _ _ _ _ _ _ _ _ _ : Value,
  cond (decide ((x9 : Int) < l.len)) (
  IX l x9 1 fun (px11 : Addr) =>
  LD [.int .i64] px11 w1 fun (x12 : Int) =>
  cond ((x12 : Int) == n) (
  Q true w1) (
  I2 (IntKind.i64.wrap (x9 + 1)) w1 ∧ m2 (IntKind.i64.wrap (x9 + 1)) w1 < m2 x9 w1)) (
  Q false w1)

theorem C_s_l1Has {Q : Bool → World → Prop} {l : Sl} {n : Int} {w : World} (h : V_s_l1Has Q l n w) : Calls Tryz.prog F.s_l1Has #[l.v, .int .i64 n] w (Ret [.at .bool] Q) :=
  mkC (hint := hint) (ann := annOf [(2, ⟨[(9, .int .i64)], [4, 6, 10, 11, 12, 13, 14, 15, 16]⟩)]) (args := [l.v, .int .i64 n]) (rs := [.at .bool]) Tryz.func82 (by kernel_rfl) (by kernel_rfl) h

def V_s_coThrough (Q : Sl → World → Prop) (l : Sl) (at1 : Sl) (w : World) : Prop :=
  ∃ (I3 : Sl → Int → World → Prop) (m3 : Sl → Int → World → Nat), I3 (⟨none, 0, 0⟩) 0 w ∧ ∀ (out : Sl) (x10 : Int) w1, I3 out x10 w1 → ∀ _ _ _ _ _ _ _ _ _ _ _ _ : Value,
  cond (decide ((x10 : Int) < at1.len)) (
  IX at1 x10 1 fun (px12 : Addr) =>
  LD [.int .i64] px12 w1 fun (x13 : Int) =>
  IX l x13 1 fun (px17 : Addr) =>
  LD [.int .i64] px17 w1 fun (x18 : Int) =>
  RUN Tryz.prog (.at .sl) (Instr.buildSlice T.t_sl_int 1 #[(0, .int .i64 x18)]) w1 fun (x19 : Sl) w2 =>
  RUN Tryz.prog (.at .sl) (bsem .append #[T.t_sl_int, T.t_sl_int] T.t_sl_int #[out.v, x19.v]) w2 fun (x20 : Sl) w3 =>
  I3 x20 (IntKind.i64.wrap (x10 + 1)) w3 ∧ m3 x20 (IntKind.i64.wrap (x10 + 1)) w3 < m3 out x10 w1) (
  Q out w1)

theorem C_s_coThrough {Q : Sl → World → Prop} {l : Sl} {at1 : Sl} {w : World} (h : V_s_coThrough Q l at1 w) : Calls Tryz.prog F.s_coThrough #[l.v, at1.v] w (Ret [.at .sl] Q) :=
  mkC (hint := hint) (ann := annOf [(3, ⟨[(5, .sl), (10, .int .i64)], [7, 11, 12, 13, 14, 15, 16, 17, 18, 19, 20, 21]⟩)]) (args := [l.v, at1.v]) (rs := [.at .sl]) Tryz.func89 (by kernel_rfl) (by kernel_rfl) h

def V_s_l1Own (Q : Sl → World → Prop) (l : Sl) (w : World) : Prop :=
  RUN Tryz.prog (.at .sl) (Instr.buildSlice T.t_sl_int 0 #[]) w fun (x3 : Sl) w1 =>
  RUN Tryz.prog (.at .sl) (bsem .append #[T.t_sl_int, T.t_sl_int] T.t_sl_int #[x3.v, l.v]) w1 fun (x5 : Sl) w2 =>
  Q x5 w2

theorem C_s_l1Own {Q : Sl → World → Prop} {l : Sl} {w : World} (h : V_s_l1Own Q l w) : Calls Tryz.prog F.s_l1Own #[l.v] w (Ret [.at .sl] Q) :=
  mkC (hint := hint) (ann := annOf []) (args := [l.v]) (rs := [.at .sl]) Tryz.func93 (by kernel_rfl) (by kernel_rfl) h

def V_i_within (Q : Bool → World → Prop) (n : Int) (low : Int) (high : Int) (w : World) : Prop :=
  cond (decide ((low : Int) ≤ n)) (
  Q (decide ((n : Int) ≤ high)) w) (
  Q false w)

theorem C_i_within {Q : Bool → World → Prop} {n : Int} {low : Int} {high : Int} {w : World} (h : V_i_within Q n low high w) : Calls Tryz.prog F.i_within #[.int .i64 n, .int .i64 low, .int .i64 high] w (Ret [.at .bool] Q) :=
  mkC (hint := hint) (ann := annOf []) (args := [.int .i64 n, .int .i64 low, .int .i64 high]) (rs := [.at .bool]) Tryz.func94 (by kernel_rfl) (by kernel_rfl) h

def V_slices_Compare_sl_int_int (Q : Int → World → Prop) (s1 : Sl) (s2 : Sl) (w : World) : Prop :=
  ∃ (I2 : Int → World → Prop) (m2 : Int → World → Nat), I2 0 w ∧ ∀ (x11 : Int) w1, I2 x11 w1 → ∀ _ _ _ _ _ _ _ _ _ _ _ _ _ _ _ _ _ _ _ _ _ _ _ _ : Value,
  cond (decide ((x11 : Int) < s1.len)) (
  IX s1 x11 1 fun (px14 : Addr) =>
  LD [.int .i64] px14 w1 fun (x15 : Int) =>
  cond (decide ((x11 : Int) ≥ s2.len)) (
  Q 1 w1) (
  IX s2 x11 1 fun (px22 : Addr) =>
  LD [.int .i64] px22 w1 fun (x23 : Int) =>
  Calls Tryz.prog F.cmp_Compare_int #[.int .i64 x15, .int .i64 x23] w1 (Ret [.at (.int .i64)] fun (x26 : Int) w2 =>
  cond ((x26 : Int) != 0) (
  Q x26 w2) (
  I2 (IntKind.i64.wrap (x11 + 1)) w2 ∧ m2 (IntKind.i64.wrap (x11 + 1)) w2 < m2 x11 w1)))) (
  cond (decide ((s1.len : Int) < s2.len)) (
  Q (-1) w1) (
  Q 0 w1))

theorem C_slices_Compare_sl_int_int {Q : Int → World → Prop} {s1 : Sl} {s2 : Sl} {w : World} (h : V_slices_Compare_sl_int_int Q s1 s2 w) : Calls Tryz.prog F.slices_Compare_sl_int_int #[s1.v, s2.v] w (Ret [.at (.int .i64)] Q) :=
  mkC (hint := hint) (ann := annOf [(2, ⟨[(11, .int .i64)], [4, 5, 6, 7, 8, 12, 13, 14, 15, 16, 17, 18, 19, 20, 21, 22, 23, 24, 25, 26, 27, 28, 29, 30]⟩)]) (args := [s1.v, s2.v]) (rs := [.at (.int .i64)]) Tryz.func96 (by kernel_rfl) (by kernel_rfl) h

def V_slices_IndexFunc_sl_int_int (Q : Int → World → Prop) (s : Sl) (f : Value) (w : World) : Prop :=
  ∃ (I2 : Int → World → Prop) (m2 : Int → World → Nat), I2 0 w ∧ ∀ (x8 : Int) w1, I2 x8 w1 → ∀ _ _ _ _ _ _ _ _ _ _ _ _ : Value,
  cond (decide ((x8 : Int) < s.len)) (
  IX s x8 1 fun (px14 : Addr) =>
  LD [.int .i64] px14 w1 fun (x15 : Int) =>
  CALLV Tryz.prog f #[.int .i64 x15] w1 (Ret [.at .bool] fun (x16 : Bool) w2 =>
  cond x16 (
  Q x8 w2) (
  I2 (IntKind.i64.wrap (x8 + 1)) w2 ∧ m2 (IntKind.i64.wrap (x8 + 1)) w2 < m2 x8 w1))) (
  Q (-1) w1)

theorem C_slices_IndexFunc_sl_int_int {Q : Int → World → Prop} {s : Sl} {f : Value} {w : World} (h : V_slices_IndexFunc_sl_int_int Q s f w) : Calls Tryz.prog F.slices_IndexFunc_sl_int_int #[s.v, f] w (Ret [.at (.int .i64)] Q) :=
  mkC (hint := hint) (ann := annOf [(2, ⟨[(8, .int .i64)], [4, 5, 9, 10, 11, 12, 13, 14, 15, 16, 17, 18]⟩)]) (args := [s.v, f]) (rs := [.at (.int .i64)]) Tryz.func99 (by kernel_rfl) (by kernel_rfl) h

def V_i_images (Q : Sl → World → Prop) (labels : Sl) (f : Sl) (w : World) : Prop :=
  ∃ (I3 : Sl → Int → World → Prop) (m3 : Sl → Int → World → Nat), I3 (⟨none, 0, 0⟩) 0 w ∧ ∀ (out : Sl) (x10 : Int) w1, I3 out x10 w1 → ∀ _ _ _ _ _ _ _ _ _ _ _ _ : Value,
  cond (decide ((x10 : Int) < labels.len)) (
  IX labels x10 1 fun (px12 : Addr) =>
  LD [.int .i64] px12 w1 fun (x13 : Int) =>
  IX f x13 1 fun (px17 : Addr) =>
  LD [.int .i64] px17 w1 fun (x18 : Int) =>
  RUN Tryz.prog (.at .sl) (Instr.buildSlice T.t_sl_int 1 #[(0, .int .i64 x18)]) w1 fun (x19 : Sl) w2 =>
  RUN Tryz.prog (.at .sl) (bsem .append #[T.t_sl_int, T.t_sl_int] T.t_sl_int #[out.v, x19.v]) w2 fun (x20 : Sl) w3 =>
  I3 x20 (IntKind.i64.wrap (x10 + 1)) w3 ∧ m3 x20 (IntKind.i64.wrap (x10 + 1)) w3 < m3 out x10 w1) (
  Q out w1)

theorem C_i_images {Q : Sl → World → Prop} {labels : Sl} {f : Sl} {w : World} (h : V_i_images Q labels f w) : Calls Tryz.prog F.i_images #[labels.v, f.v] w (Ret [.at .sl] Q) :=
  mkC (hint := hint) (ann := annOf [(3, ⟨[(5, .sl), (10, .int .i64)], [7, 11, 12, 13, 14, 15, 16, 17, 18, 19, 20, 21]⟩)]) (args := [labels.v, f.v]) (rs := [.at .sl]) Tryz.func111 (by kernel_rfl) (by kernel_rfl) h

def V_slices_Grow_sl_int_int (Q : Sl → World → Prop) (s : Sl) (n : Int) (w : World) : Prop :=
  cond (decide ((n : Int) < 0)) (
  False) (
  RUN Tryz.prog (.at (.int .i64)) (bsem .cap #[T.t_sl_int] T.t_int #[s.v]) w fun (x10 : Int) w1 =>
  cond (decide (((IntKind.i64.wrap (n - (IntKind.i64.wrap (x10 - s.len)))) : Int) > 0)) (
  RUN Tryz.prog (.at (.int .i64)) (bsem .cap #[T.t_sl_int] T.t_int #[s.v]) w1 fun (x19 : Int) w2 =>
  SLC s none (some x19) 1 fun (x20 : Sl) =>
  RUN Tryz.prog (.at .sl) (bsem .append #[T.t_sl_int, T.t_int] T.t_sl_int #[x20.v, .int .i64 (IntKind.i64.wrap (n - (IntKind.i64.wrap (x10 - s.len))))]) w2 fun (x22 : Sl) w3 =>
  SLC x22 none (some s.len) 1 fun (x25 : Sl) =>
  Q x25 w3) (
  Q s w1))

theorem C_slices_Grow_sl_int_int {Q : Sl → World → Prop} {s : Sl} {n : Int} {w : World} (h : V_slices_Grow_sl_int_int Q s n w) : Calls Tryz.prog F.slices_Grow_sl_int_int #[s.v, .int .i64 n] w (Ret [.at .sl] Q) :=
  mkC (hint := hint) (ann := annOf []) (args := [s.v, .int .i64 n]) (rs := [.at .sl]) Tryz.func113 (by kernel_rfl) (by kernel_rfl) h

def V_l_szProblem (Q : Int → World → Prop) (a_0 : Int) (a_1 : Int) (a_2 : Sl) (a_3 : Sl) (left : Int) (w : World) : Prop :=
  NEW T.t_l_Problem #[.int .i64 a_0, .int .i64 a_1, a_2.v, a_3.v] w fun (p_a : Addr) w1 =>
  LD [.sl] (p_a.add 2) w1 fun (x6 : Sl) =>
  Calls Tryz.prog F.l_szIntSS #[x6.v, .int .i64 left] w1 (Ret [.at (.int .i64)] fun (x8 : Int) w2 =>
  cond (decide ((x8 : Int) < 0)) (
  Q (-1) w2) (
  LD [.sl] (p_a.add 3) w2 fun (x12 : Sl) =>
  Calls Tryz.prog F.l_szIntSS #[x12.v, .int .i64 x8] w2 (Ret [.at (.int .i64)] fun (x14 : Int) w3 =>
  cond (decide ((x14 : Int) < 0)) (
  Q (-1) w3) (
  Q x14 w3))))

theorem C_l_szProblem {Q : Int → World → Prop} {a_0 : Int} {a_1 : Int} {a_2 : Sl} {a_3 : Sl} {left : Int} {w : World} (h : V_l_szProblem Q a_0 a_1 a_2 a_3 left w) : Calls Tryz.prog F.l_szProblem #[.agg #[.int .i64 a_0, .int .i64 a_1, a_2.v, a_3.v], .int .i64 left] w (Ret [.at (.int .i64)] Q) :=
  mkC (hint := hint) (ann := annOf []) (args := [.agg #[.int .i64 a_0, .int .i64 a_1, a_2.v, a_3.v], .int .i64 left]) (rs := [.at (.int .i64)]) Tryz.func114 (by kernel_rfl) (by kernel_rfl) h

def V_s_boTwo (Q : Bool → World → Prop) (ps : Sl) (w : World) : Prop :=
  ∃ (I2 : Int → World → Prop) (m2 : Int → World → Nat), I2 0 w ∧ ∀ (x7 : Int) w1, I2 x7 w1 → ∀ _ _ _ _ _ _ _ _ _ _ _ _ _ _ _ _ _ _ : Value,
  cond (decide ((x7 : Int) < ps.len)) (
  IX ps x7 4 fun (px9 : Addr) =>
  LD [.int .i64, .int .i64, .sl, .sl] px9 w1 fun (x10_0 : Int) (x10_1 : Int) (x10_2 : Sl) (x10_3 : Sl) =>
  NEW T.t_i_Problem #[.int .i64 0, .int .i64 0, .slice none 0 0, .slice none 0 0] w1 fun (p_p : Addr) w2 =>
  ST p_p 0 [.int .i64 x10_0, .int .i64 x10_1, x10_2.v, x10_3.v] w2 fun w3 =>
  LD [.int .i64, .int .i64, .sl, .sl] p_p w3 fun (x11_0 : Int) (x11_1 : Int) (x11_2 : Sl) (x11_3 : Sl) =>
  QCALL Tryz.prog F.s_prGood #[.agg #[.int .i64 x11_0, .int .i64 x11_1, x11_2.v, x11_3.v]] w3 [.at .bool] fun (x12 : Bool) =>
  cond (!x12) (
  ∀ w4, Ext w3 w4 →
  Q false w4) (
  LD [.int .i64] (p_p.add 1) w3 fun (x16 : Int) =>
  IX ps 0 4 fun (px18 : Addr) =>
  LD [.int .i64] (px18.add 1) w3 fun (x20 : Int) =>
  ∀ w5, Ext w3 w5 →
  cond ((x16 : Int) != x20) (
  Q false w5) (
  I2 (IntKind.i64.wrap (x7 + 1)) w5 ∧ m2 (IntKind.i64.wrap (x7 + 1)) w5 < m2 x7 w1))) (
  Calls Tryz.prog F.s_l1In #[.int .i64 ps.len, .int .i64 1, .int .i64 7] w1 (Ret [.at .bool] fun (x26 : Bool) w6 =>
  Q x26 w6))

theorem C_s_boTwo {Q : Bool → World → Prop} {ps : Sl} {w : World} (h : V_s_boTwo Q ps w) : Calls Tryz.prog F.s_boTwo #[ps.v] w (Ret [.at .bool] Q) :=
  mkC (hint := hint) (ann := annOf [(2, ⟨[(7, .int .i64)], [2, 4, 8, 9, 10, 11, 12, 13, 14, 15, 16, 17, 18, 19, 20, 21, 22, 23]⟩)]) (args := [ps.v]) (rs := [.at .bool]) Tryz.func115 (by kernel_rfl) (by kernel_rfl) h

def V_s_boRight_k1 (Q : Bool → World → Prop) (p_b : Addr) (w4 : World) : Prop :=
  LD [.sl] (p_b.add 1) w4 fun (x27 : Sl) =>
  ∃ (I5 : Int → World → Prop) (m5 : Int → World → Nat), I5 0 w4 ∧ ∀ (x29 : Int) w5, I5 x29 w5 → ∀ _ _ _ _ _ _ _ _ _ _ _ _ _ _ _ _ _ _ _ _ _ _ : Value,
  cond (decide ((x29 : Int) < x27.len)) (
  IX x27 x29 1 fun (px32 : Addr) =>
  LD [.sl] px32 w5 fun (x33 : Sl) =>
  LD [.sl] (p_b.add 0) w5 fun (x35 : Sl) =>
  IX x35 x29 4 fun (px37 : Addr) =>
  LD [.int .i64, .int .i64, .sl, .sl] px37 w5 fun (x38_0 : Int) (x38_1 : Int) (x38_2 : Sl) (x38_3 : Sl) =>
  LD [.sl] (p_b.add 0) w5 fun (x40 : Sl) =>
  IX x40 (IntKind.i64.wrap (x29 + 1)) 4 fun (px43 : Addr) =>
  LD [.int .i64, .int .i64, .sl, .sl] px43 w5 fun (x44_0 : Int) (x44_1 : Int) (x44_2 : Sl) (x44_3 : Sl) =>
  QCALL Tryz.prog F.s_boStep #[.agg #[.int .i64 x38_0, .int .i64 x38_1, x38_2.v, x38_3.v], .agg #[.int .i64 x44_0, .int .i64 x44_1, x44_2.v, x44_3.v], x33.v] w5 [.at .bool] fun (x46 : Bool) =>
  ∀ w6, Ext w5 w6 →
  cond (!x46) (
  Q false w6) (
  I5 (IntKind.i64.wrap (x29 + 1)) w6 ∧ m5 (IntKind.i64.wrap (x29 + 1)) w6 < m5 x29 w5)) (
  Q true w5)

def V_s_boRight (Q : Bool → World → Prop) (b_0 : Sl) (b_1 : Sl) (b_2 : Sl) (w : World) : Prop :=
  NEW T.t_i_Bound #[b_0.v, b_1.v, b_2.v] w fun (p_b : Addr) w1 =>
  LD [.sl] (p_b.add 0) w1 fun (x7 : Sl) =>
  LD [.sl] (p_b.add 1) w1 fun (x11 : Sl) =>
  cond ((x11.len : Int) != (IntKind.i64.wrap (x7.len - 1))) (
  ∀ w2, Ext w1 w2 →
  Q false w2) (
  LD [.sl] (p_b.add 0) w1 fun (x17 : Sl) =>
  IX x17 (IntKind.i64.wrap (x7.len - 1)) 4 fun (px19 : Addr) =>
  LD [.int .i64, .int .i64, .sl, .sl] px19 w1 fun (x20_0 : Int) (x20_1 : Int) (x20_2 : Sl) (x20_3 : Sl) =>
  LD [.sl] (p_b.add 2) w1 fun (x22 : Sl) =>
  QCALL Tryz.prog F.s_boZero #[.agg #[.int .i64 x20_0, .int .i64 x20_1, x20_2.v, x20_3.v], x22.v] w1 [.at .bool] fun (x23 : Bool) =>
  ∀ w3, Ext w1 w3 →
  cond (!x23) (
  Q false w3) (
  V_s_boRight_k1 Q p_b w3))

theorem C_s_boRight {Q : Bool → World → Prop} {b_0 : Sl} {b_1 : Sl} {b_2 : Sl} {w : World} (h : V_s_boRight Q b_0 b_1 b_2 w) : Calls Tryz.prog F.s_boRight #[.agg #[b_0.v, b_1.v, b_2.v]] w (Ret [.at .bool] Q) :=
  mkC (hint := hint) (ann := annOf [(5, ⟨[(29, .int .i64)], [2, 4, 5, 30, 31, 32, 33, 34, 35, 36, 37, 38, 39, 40, 41, 42, 43, 44, 45, 46, 47, 48]⟩)]) (args := [.agg #[b_0.v, b_1.v, b_2.v]]) (rs := [.at .bool]) Tryz.func116 (by kernel_rfl) (by kernel_rfl) h

def V_s_prText (Q : ByteArray → World → Prop) (p_0 : Int) (p_1 : Int) (p_2 : Sl) (p_3 : Sl) (w : World) : Prop :=
  NEW T.t_i_Problem #[.int .i64 p_0, .int .i64 p_1, p_2.v, p_3.v] w fun (p_p : Addr) w1 =>
  LD [.int .i64] (p_p.add 0) w1 fun (x9 : Int) =>
  LD [.int .i64] (p_p.add 1) w1 fun (x11 : Int) =>
  RUN Tryz.prog (.at .sl) (Instr.buildSlice T.t_sl_int 2 #[(0, .int .i64 x9), (1, .int .i64 x11)]) w1 fun (x12 : Sl) w2 =>
  Calls Tryz.prog F.s_maLine #[.string (ByteArray.mk #[112, 114, 111, 98, 108, 101, 109]), x12.v] w2 (Ret [.at .str] fun (x13 : ByteArray) w3 =>
  x13.size + (ByteArray.mk #[10]).size ≤ 9223372036854775807 ∧ (
  LD [.sl] (p_p.add 2) w3 fun (x16 : Sl) =>
  ∃ (I3 : ByteArray → Int → World → Prop) (m3 : ByteArray → Int → World → Nat), I3 (x13 ++ (ByteArray.mk #[10])) 0 w3 ∧ ∀ (out : ByteArray) (x18 : Int) w4, I3 out x18 w4 → ∀ _ _ _ _ _ _ _ _ _ _ : Value,
  cond (decide ((x18 : Int) < x16.len)) (
  IX x16 x18 1 fun (px20 : Addr) =>
  LD [.sl] px20 w4 fun (x21 : Sl) =>
  Calls Tryz.prog F.s_maLine #[.string (ByteArray.mk #[110, 111, 100, 101]), x21.v] w4 (Ret [.at .str] fun (x24 : ByteArray) w5 =>
  x24.size + (ByteArray.mk #[10]).size ≤ 9223372036854775807 ∧ (
  out.size + (x24 ++ (ByteArray.mk #[10])).size ≤ 9223372036854775807 ∧ (
  I3 (out ++ (x24 ++ (ByteArray.mk #[10]))) (IntKind.i64.wrap (x18 + 1)) w5 ∧ m3 (out ++ (x24 ++ (ByteArray.mk #[10]))) (IntKind.i64.wrap (x18 + 1)) w5 < m3 out x18 w4)))) (
  LD [.sl] (p_p.add 3) w4 fun (x29 : Sl) =>
  ∃ (I8 : ByteArray → Int → World → Prop) (m8 : ByteArray → Int → World → Nat), I8 out 0 w4 ∧ ∀ (out_2 : ByteArray) (x31 : Int) w6, I8 out_2 x31 w6 → ∀ _ _ _ _ _ _ _ _ _ _ : Value,
  cond (decide ((x31 : Int) < x29.len)) (
  IX x29 x31 1 fun (px33 : Addr) =>
  LD [.sl] px33 w6 fun (x34 : Sl) =>
  Calls Tryz.prog F.s_maLine #[.string (ByteArray.mk #[101, 100, 103, 101]), x34.v] w6 (Ret [.at .str] fun (x37 : ByteArray) w7 =>
  x37.size + (ByteArray.mk #[10]).size ≤ 9223372036854775807 ∧ (
  out_2.size + (x37 ++ (ByteArray.mk #[10])).size ≤ 9223372036854775807 ∧ (
  I8 (out_2 ++ (x37 ++ (ByteArray.mk #[10]))) (IntKind.i64.wrap (x31 + 1)) w7 ∧ m8 (out_2 ++ (x37 ++ (ByteArray.mk #[10]))) (IntKind.i64.wrap (x31 + 1)) w7 < m8 out_2 x31 w6)))) (
  Q out_2 w6))))

theorem C_s_prText {Q : ByteArray → World → Prop} {p_0 : Int} {p_1 : Int} {p_2 : Sl} {p_3 : Sl} {w : World} (h : V_s_prText Q p_0 p_1 p_2 p_3 w) : Calls Tryz.prog F.s_prText #[.agg #[.int .i64 p_0, .int .i64 p_1, p_2.v, p_3.v]] w (Ret [.at .str] Q) :=
  mkC (hint := hint) (ann := annOf [(3, ⟨[(3, .str), (18, .int .i64)], [5, 19, 20, 21, 22, 23, 24, 25, 26, 27]⟩), (8, ⟨[(3, .str), (31, .int .i64)], [7, 32, 33, 34, 35, 36, 37, 38, 39, 40]⟩)]) (args := [.agg #[.int .i64 p_0, .int .i64 p_1, p_2.v, p_3.v]]) (rs := [.at .str]) Tryz.func117 (by kernel_rfl) (by kernel_rfl) h

def V_s_boLine (Q : ByteArray → World → Prop) (word : ByteArray) (l : Sl) (w : World) : Prop :=
  ∃ (I2 : ByteArray → Int → World → Prop) (m2 : ByteArray → Int → World → Nat), I2 word 0 w ∧ ∀ (word_2 : ByteArray) (x9 : Int) w1, I2 word_2 x9 w1 → ∀ _ _ _ _ _ _ _ _ _ _ : Value,
  cond (decide ((x9 : Int) < l.len)) (
  IX l x9 1 fun (px11 : Addr) =>
  LD [.int .i64] px11 w1 fun (x12 : Int) =>
  Calls Tryz.prog F.s_l1Num #[.int .i64 x12] w1 (Ret [.at .str] fun (x15 : ByteArray) w2 =>
  (ByteArray.mk #[32]).size + x15.size ≤ 9223372036854775807 ∧ (
  word_2.size + ((ByteArray.mk #[32]) ++ x15).size ≤ 9223372036854775807 ∧ (
  I2 (word_2 ++ ((ByteArray.mk #[32]) ++ x15)) (IntKind.i64.wrap (x9 + 1)) w2 ∧ m2 (word_2 ++ ((ByteArray.mk #[32]) ++ x15)) (IntKind.i64.wrap (x9 + 1)) w2 < m2 word_2 x9 w1)))) (
  word_2.size + (ByteArray.mk #[10]).size ≤ 9223372036854775807 ∧ (
  Q (word_2 ++ (ByteArray.mk #[10])) w1))

theorem C_s_boLine {Q : ByteArray → World → Prop} {word : ByteArray} {l : Sl} {w : World} (h : V_s_boLine Q word l w) : Calls Tryz.prog F.s_boLine #[.string word, l.v] w (Ret [.at .str] Q) :=
  mkC (hint := hint) (ann := annOf [(2, ⟨[(0, .str), (9, .int .i64)], [6, 10, 11, 12, 13, 14, 15, 16, 17, 18]⟩)]) (args := [.string word, l.v]) (rs := [.at .str]) Tryz.func118 (by kernel_rfl) (by kernel_rfl) h

def V_l_toProblem (Q : Int → Int → Sl → Sl → World → Prop) (a_0 : Int) (a_1 : Int) (a_2 : Sl) (a_3 : Sl) (w : World) : Prop :=
  NEW T.t_l_Problem #[.int .i64 a_0, .int .i64 a_1, a_2.v, a_3.v] w fun (p_a : Addr) w1 =>
  NEW T.t_i_Problem #[.int .i64 0, .int .i64 0, .slice none 0 0, .slice none 0 0] w1 fun (px2 : Addr) w2 =>
  NEW T.t_i_Problem #[.int .i64 0, .int .i64 0, .slice none 0 0, .slice none 0 0] w2 fun (p_out : Addr) w3 =>
  LD [.int .i64] (p_a.add 0) w3 fun (x5 : Int) =>
  ST (p_out.add 0) 0 [.int .i64 x5] w3 fun w4 =>
  LD [.int .i64] (p_a.add 1) w4 fun (x8 : Int) =>
  ST (p_out.add 1) 0 [.int .i64 x8] w4 fun w5 =>
  LD [.sl] (p_a.add 2) w5 fun (x11 : Sl) =>
  Calls Tryz.prog F.l_toIntSS #[x11.v] w5 (Ret [.at .sl] fun (x12 : Sl) w6 =>
  ST (p_out.add 2) 0 [x12.v] w6 fun w7 =>
  LD [.sl] (p_a.add 3) w7 fun (x15 : Sl) =>
  Calls Tryz.prog F.l_toIntSS #[x15.v] w7 (Ret [.at .sl] fun (x16 : Sl) w8 =>
  ST (p_out.add 3) 0 [x16.v] w8 fun w9 =>
  LD [.int .i64, .int .i64, .sl, .sl] p_out w9 fun (x18_0 : Int) (x18_1 : Int) (x18_2 : Sl) (x18_3 : Sl) =>
  ST px2 0 [.int .i64 x18_0, .int .i64 x18_1, x18_2.v, x18_3.v] w9 fun w10 =>
  LD [.int .i64, .int .i64, .sl, .sl] px2 w10 fun (r0_0 : Int) (r0_1 : Int) (r0_2 : Sl) (r0_3 : Sl) =>
  Q r0_0 r0_1 r0_2 r0_3 w10))

theorem C_l_toProblem {Q : Int → Int → Sl → Sl → World → Prop} {a_0 : Int} {a_1 : Int} {a_2 : Sl} {a_3 : Sl} {w : World} (h : V_l_toProblem Q a_0 a_1 a_2 a_3 w) : Calls Tryz.prog F.l_toProblem #[.agg #[.int .i64 a_0, .int .i64 a_1, a_2.v, a_3.v]] w (Ret [.agg [.int .i64, .int .i64, .sl, .sl]] Q) :=
  mkC (hint := hint) (ann := annOf []) (args := [.agg #[.int .i64 a_0, .int .i64 a_1, a_2.v, a_3.v]]) (rs := [.agg [.int .i64, .int .i64, .sl, .sl]]) Tryz.func119 (by kernel_rfl) (by kernel_rfl) h

def V_i_CheckBound (Q : Bool → Bool → World → Prop) (b_0 : Sl) (b_1 : Sl) (b_2 : Sl) (w : World) : Prop :=
  NEW T.t_i_Bound #[b_0.v, b_1.v, b_2.v] w fun (p_b : Addr) w1 =>
  LD [.sl] (p_b.add 0) w1 fun (x5 : Sl) =>
  Calls Tryz.prog F.i_problemsOk #[x5.v] w1 (Ret [.at .bool] fun (x6 : Bool) w2 =>
  cond (!x6) (
  Q false false w2) (
  LD [.sl, .sl, .sl] p_b w2 fun (x8_0 : Sl) (x8_1 : Sl) (x8_2 : Sl) =>
  Calls Tryz.prog F.i_isRightBound #[.agg #[x8_0.v, x8_1.v, x8_2.v]] w2 (Ret [.at .bool] fun (x9 : Bool) w3 =>
  Q x9 true w3)))

theorem C_i_CheckBound {Q : Bool → Bool → World → Prop} {b_0 : Sl} {b_1 : Sl} {b_2 : Sl} {w : World} (h : V_i_CheckBound Q b_0 b_1 b_2 w) : Calls Tryz.prog F.i_CheckBound #[.agg #[b_0.v, b_1.v, b_2.v]] w (Ret [.at .bool, .at .bool] Q) :=
  mkC (hint := hint) (ann := annOf []) (args := [.agg #[b_0.v, b_1.v, b_2.v]]) (rs := [.at .bool, .at .bool]) Tryz.func120 (by kernel_rfl) (by kernel_rfl) h

def V_l_eqProblem (Q : Bool → World → Prop) (a_0 : Int) (a_1 : Int) (a_2 : Sl) (a_3 : Sl) (b_0 : Int) (b_1 : Int) (b_2 : Sl) (b_3 : Sl) (w : World) : Prop :=
  NEW T.t_i_Problem #[.int .i64 a_0, .int .i64 a_1, a_2.v, a_3.v] w fun (p_a : Addr) w1 =>
  NEW T.t_i_Problem #[.int .i64 b_0, .int .i64 b_1, b_2.v, b_3.v] w1 fun (p_b : Addr) w2 =>
  LD [.int .i64] (p_a.add 0) w2 fun (x6 : Int) =>
  LD [.int .i64] (p_b.add 0) w2 fun (x8 : Int) =>
  cond ((x6 : Int) != x8) (
  Q false w2) (
  LD [.int .i64] (p_a.add 1) w2 fun (x11 : Int) =>
  LD [.int .i64] (p_b.add 1) w2 fun (x13 : Int) =>
  cond ((x11 : Int) != x13) (
  Q false w2) (
  LD [.sl] (p_a.add 2) w2 fun (x16 : Sl) =>
  LD [.sl] (p_b.add 2) w2 fun (x18 : Sl) =>
  Calls Tryz.prog F.l_eqIntSS #[x16.v, x18.v] w2 (Ret [.at .bool] fun (x19 : Bool) w3 =>
  cond (!x19) (
  Q false w3) (
  LD [.sl] (p_a.add 3) w3 fun (x22 : Sl) =>
  LD [.sl] (p_b.add 3) w3 fun (x24 : Sl) =>
  Calls Tryz.prog F.l_eqIntSS #[x22.v, x24.v] w3 (Ret [.at .bool] fun (x25 : Bool) w4 =>
  cond (!x25) (
  Q false w4) (
  Q true w4))))))

theorem C_l_eqProblem {Q : Bool → World → Prop} {a_0 : Int} {a_1 : Int} {a_2 : Sl} {a_3 : Sl} {b_0 : Int} {b_1 : Int} {b_2 : Sl} {b_3 : Sl} {w : World} (h : V_l_eqProblem Q a_0 a_1 a_2 a_3 b_0 b_1 b_2 b_3 w) : Calls Tryz.prog F.l_eqProblem #[.agg #[.int .i64 a_0, .int .i64 a_1, a_2.v, a_3.v], .agg #[.int .i64 b_0, .int .i64 b_1, b_2.v, b_3.v]] w (Ret [.at .bool] Q) :=
  mkC (hint := hint) (ann := annOf []) (args := [.agg #[.int .i64 a_0, .int .i64 a_1, a_2.v, a_3.v], .agg #[.int .i64 b_0, .int .i64 b_1, b_2.v, b_3.v]]) (rs := [.at .bool]) Tryz.func124 (by kernel_rfl) (by kernel_rfl) h

def V_s_l1All (Q : Bool → World → Prop) (l : Sl) (lo : Int) (hi : Int) (w : World) : Prop :=
  ∃ (I2 : Int → World → Prop) (m2 : Int → World → Nat), I2 0 w ∧ ∀ (x11 : Int) w1, I2 x11 w1 → ∀ _ _ _ _ _ _ _ _ _ _ _ : Value,
  cond (decide ((x11 : Int) < l.len)) (
  IX l x11 1 fun (px13 : Addr) =>
  LD [.int .i64] px13 w1 fun (x14 : Int) =>
  Calls Tryz.prog F.s_l1In #[.int .i64 x14, .int .i64 lo, .int .i64 hi] w1 (Ret [.at .bool] fun (x18 : Bool) w2 =>
  cond (!x18) (
  Q false w2) (
  I2 (IntKind.i64.wrap (x11 + 1)) w2 ∧ m2 (IntKind.i64.wrap (x11 + 1)) w2 < m2 x11 w1))) (
  Q true w1)

theorem C_s_l1All {Q : Bool → World → Prop} {l : Sl} {lo : Int} {hi : Int} {w : World} (h : V_s_l1All Q l lo hi w) : Calls Tryz.prog F.s_l1All #[l.v, .int .i64 lo, .int .i64 hi] w (Ret [.at .bool] Q) :=
  mkC (hint := hint) (ann := annOf [(2, ⟨[(11, .int .i64)], [6, 8, 12, 13, 14, 15, 16, 17, 18, 19, 20]⟩)]) (args := [l.v, .int .i64 lo, .int .i64 hi]) (rs := [.at .bool]) Tryz.func126 (by kernel_rfl) (by kernel_rfl) h

def V_s_l1Same (Q : Bool → World → Prop) (a : Sl) (b : Sl) (w : World) : Prop :=
  cond ((a.len : Int) != b.len) (
  Q false w) (
  ∃ (I4 : Int → World → Prop) (m4 : Int → World → Nat), I4 0 w ∧ ∀ (x13 : Int) w1, I4 x13 w1 → ∀ _ _ _ _ _ _ _ _ _ _ _ _ _ _ : Value,
  cond (decide ((x13 : Int) < a.len)) (
  IX a x13 1 fun (px18 : Addr) =>
  LD [.int .i64] px18 w1 fun (x19 : Int) =>
  IX b x13 1 fun (px22 : Addr) =>
  LD [.int .i64] px22 w1 fun (x23 : Int) =>
  ∀ w2, Ext w1 w2 →
  cond ((x19 : Int) != x23) (
  Q false w2) (
  I4 (IntKind.i64.wrap (x13 + 1)) w2 ∧ m4 (IntKind.i64.wrap (x13 + 1)) w2 < m4 x13 w1)) (
  Q true w1))

theorem C_s_l1Same {Q : Bool → World → Prop} {a : Sl} {b : Sl} {w : World} (h : V_s_l1Same Q a b w) : Calls Tryz.prog F.s_l1Same #[a.v, b.v] w (Ret [.at .bool] Q) :=
  mkC (hint := hint) (ann := annOf [(4, ⟨[(13, .int .i64)], [4, 5, 14, 15, 16, 17, 18, 19, 20, 21, 22, 23, 24, 25]⟩)]) (args := [a.v, b.v]) (rs := [.at .bool]) Tryz.func127 (by kernel_rfl) (by kernel_rfl) h

def V_s_prSorted (Q : Sl → World → Prop) (l : Sl) (w : World) : Prop :=
  Calls Tryz.prog F.s_l1Own #[l.v] w (Ret [.at .sl] fun (x8 : Sl) w1 =>
  ∃ (I3 : Int → World → Prop) (m3 : Int → World → Nat), I3 0 w1 ∧ ∀ (x11 : Int) w2, I3 x11 w2 → ∀ _ _ _ _ _ _ _ _ _ _ _ _ _ _ _ _ _ _ _ _ _ _ _ _ _ _ _ _ _ _ _ _ _ _ _ _ _ _ _ _ : Value,
  cond (decide ((x11 : Int) < x8.len)) (
  ∃ (I6 : Int → World → Prop) (m6 : Int → World → Nat), I6 x11 w2 ∧ ∀ (k : Int) w3, I6 k w3 → ∀ _ _ _ _ _ _ _ _ _ _ _ _ _ _ _ _ _ _ _ _ _ _ _ _ _ _ _ _ _ _ _ _ _ _ : Value,
  cond (decide ((k : Int) > 0)) (
  IX x8 (IntKind.i64.wrap (k - 1)) 1 fun (px21 : Addr) =>
  LD [.int .i64] px21 w3 fun (x22 : Int) =>
  IX x8 k 1 fun (px25 : Addr) =>
  LD [.int .i64] px25 w3 fun (x26 : Int) =>
  ∀ w4, Ext w3 w4 →
  cond (decide ((x22 : Int) > x26)) (
  IX x8 k 1 fun (px33_2 : Addr) =>
  LD [.int .i64] px33_2 w4 fun (x34_2 : Int) =>
  IX x8 (IntKind.i64.wrap (k - 1)) 1 fun (px40_2 : Addr) =>
  LD [.int .i64] px40_2 w4 fun (x41_2 : Int) =>
  IX x8 k 1 fun (px42_2 : Addr) =>
  ST px42_2 0 [.int .i64 x41_2] w4 fun w8 =>
  IX x8 (IntKind.i64.wrap (k - 1)) 1 fun (px47_2 : Addr) =>
  ST px47_2 0 [.int .i64 x34_2] w8 fun w9 =>
  I6 (IntKind.i64.wrap (k - 1)) w9 ∧ m6 (IntKind.i64.wrap (k - 1)) w9 < m6 k w3) (
  I3 (IntKind.i64.wrap (x11 + 1)) w4 ∧ m3 (IntKind.i64.wrap (x11 + 1)) w4 < m3 x11 w2)) (
  ∀ w5, Ext w3 w5 →
  I3 (IntKind.i64.wrap (x11 + 1)) w5 ∧ m3 (IntKind.i64.wrap (x11 + 1)) w5 < m3 x11 w2)) (
  Q x8 w2))

theorem C_s_prSorted {Q : Sl → World → Prop} {l : Sl} {w : World} (h : V_s_prSorted Q l w) : Calls Tryz.prog F.s_prSorted #[l.v] w (Ret [.at .sl] Q) :=
  mkC (hint := hint) (ann := annOf [(3, ⟨[(11, .int .i64)], [4, 5, 6, 12, 13, 14, 15, 16, 17, 18, 19, 20, 21, 22, 23, 24, 25, 26, 27, 28, 29, 30, 31, 32, 33, 34, 35, 36, 37, 38, 39, 40, 41, 42, 43, 44, 45, 46, 47, 48]⟩), (6, ⟨[(5, .int .i64)], [6, 15, 16, 17, 18, 19, 20, 21, 22, 23, 24, 25, 26, 27, 28, 29, 30, 31, 32, 33, 34, 35, 36, 37, 38, 39, 40, 41, 42, 43, 44, 45, 46, 47]⟩)]) (args := [l.v]) (rs := [.at .sl]) Tryz.func128 (by kernel_rfl) (by kernel_rfl) h

def V_s_prOrder (Q : Int → World → Prop) (a : Sl) (b : Sl) (w : World) : Prop :=
  ∃ (I2 : Int → World → Prop) (m2 : Int → World → Nat), I2 0 w ∧ ∀ (x9 : Int) w1, I2 x9 w1 → ∀ _ _ _ _ _ _ _ _ _ _ _ _ _ _ _ _ _ _ _ _ _ : Value,
  cond (decide ((x9 : Int) < a.len)) (
  IX a x9 1 fun (px12 : Addr) =>
  LD [.int .i64] px12 w1 fun (x13 : Int) =>
  IX b x9 1 fun (px17 : Addr) =>
  LD [.int .i64] px17 w1 fun (x18 : Int) =>
  cond ((x13 : Int) != x18) (
  IX b x9 1 fun (px23 : Addr) =>
  LD [.int .i64] px23 w1 fun (x24 : Int) =>
  Calls Tryz.prog F.s_l1Sign #[.int .i64 (IntKind.i64.wrap (x13 - x24))] w1 (Ret [.at (.int .i64)] fun (x26 : Int) w2 =>
  Q x26 w2)) (
  I2 (IntKind.i64.wrap (x9 + 1)) w1 ∧ m2 (IntKind.i64.wrap (x9 + 1)) w1 < m2 x9 w1)) (
  Q 0 w1)

theorem C_s_prOrder {Q : Int → World → Prop} {a : Sl} {b : Sl} {w : World} (h : V_s_prOrder Q a b w) : Calls Tryz.prog F.s_prOrder #[a.v, b.v] w (Ret [.at (.int .i64)] Q) :=
  mkC (hint := hint) (ann := annOf [(2, ⟨[(9, .int .i64)], [4, 5, 6, 10, 11, 12, 13, 14, 15, 16, 17, 18, 19, 20, 21, 22, 23, 24, 25, 26, 27]⟩)]) (args := [a.v, b.v]) (rs := [.at (.int .i64)]) Tryz.func129 (by kernel_rfl) (by kernel_rfl) h

def V_s_maLine (Q : ByteArray → World → Prop) (word : ByteArray) (l : Sl) (w : World) : Prop :=
  ∃ (I2 : ByteArray → Int → World → Prop) (m2 : ByteArray → Int → World → Nat), I2 word 0 w ∧ ∀ (word_2 : ByteArray) (x9 : Int) w1, I2 word_2 x9 w1 → ∀ _ _ _ _ _ _ _ _ _ _ _ _ _ _ : Value,
  cond (decide ((x9 : Int) < l.len)) (
  IX l x9 1 fun (px11 : Addr) =>
  LD [.int .i64] px11 w1 fun (x12 : Int) =>
  cond (decide ((x12 : Int) < 0)) (
  word_2.size + (ByteArray.mk #[32, 42]).size ≤ 9223372036854775807 ∧ (
  I2 (word_2 ++ (ByteArray.mk #[32, 42])) (IntKind.i64.wrap (x9 + 1)) w1 ∧ m2 (word_2 ++ (ByteArray.mk #[32, 42])) (IntKind.i64.wrap (x9 + 1)) w1 < m2 word_2 x9 w1)) (
  Calls Tryz.prog F.s_l1Num #[.int .i64 x12] w1 (Ret [.at .str] fun (x19 : ByteArray) w2 =>
  (ByteArray.mk #[32]).size + x19.size ≤ 9223372036854775807 ∧ (
  word_2.size + ((ByteArray.mk #[32]) ++ x19).size ≤ 9223372036854775807 ∧ (
  I2 (word_2 ++ ((ByteArray.mk #[32]) ++ x19)) (IntKind.i64.wrap (x9 + 1)) w2 ∧ m2 (word_2 ++ ((ByteArray.mk #[32]) ++ x19)) (IntKind.i64.wrap (x9 + 1)) w2 < m2 word_2 x9 w1))))) (
  Q word_2 w1)

theorem C_s_maLine {Q : ByteArray → World → Prop} {word : ByteArray} {l : Sl} {w : World} (h : V_s_maLine Q word l w) : Calls Tryz.prog F.s_maLine #[.string word, l.v] w (Ret [.at .str] Q) :=
  mkC (hint := hint) (ann := annOf [(2, ⟨[(0, .str), (9, .int .i64)], [6, 10, 11, 12, 13, 14, 15, 16, 17, 18, 19, 20, 21, 22]⟩)]) (args := [.string word, l.v]) (rs := [.at .str]) Tryz.func130 (by kernel_rfl) (by kernel_rfl) h

def V_slices_IsSorted_sl_int_int (Q : Bool → World → Prop) (x : Sl) (w : World) : Prop :=
  ∃ (I2 : Int → World → Prop) (m2 : Int → World → Nat), I2 (IntKind.i64.wrap (x.len - 1)) w ∧ ∀ (i : Int) w1, I2 i w1 → ∀ _ _ _ _ _ _ _ _ _ _ _ _ _ _ _ : Value,
  cond (decide ((i : Int) > 0)) (
  IX x i 1 fun (px13 : Addr) =>
  LD [.int .i64] px13 w1 fun (x14 : Int) =>
  IX x (IntKind.i64.wrap (i - 1)) 1 fun (px18 : Addr) =>
  LD [.int .i64] px18 w1 fun (x19 : Int) =>
  QCALL Tryz.prog F.cmp_Less_int #[.int .i64 x14, .int .i64 x19] w1 [.at .bool] fun (x20 : Bool) =>
  ∀ w2, Ext w1 w2 →
  cond x20 (
  Q false w2) (
  I2 (IntKind.i64.wrap (i - 1)) w2 ∧ m2 (IntKind.i64.wrap (i - 1)) w2 < m2 i w1)) (
  Q true w1)

theorem C_slices_IsSorted_sl_int_int {Q : Bool → World → Prop} {x : Sl} {w : World} (h : V_slices_IsSorted_sl_int_int Q x w) : Calls Tryz.prog F.slices_IsSorted_sl_int_int #[x.v] w (Ret [.at .bool] Q) :=
  mkC (hint := hint) (ann := annOf [(2, ⟨[(3, .int .i64)], [2, 7, 8, 9, 10, 11, 12, 13, 14, 15, 16, 17, 18, 19, 20]⟩)]) (args := [x.v]) (rs := [.at .bool]) Tryz.func135 (by kernel_rfl) (by kernel_rfl) h

def V_s_prGood (Q : Bool → World → Prop) (p_0 : Int) (p_1 : Int) (p_2 : Sl) (p_3 : Sl) (w : World) : Prop :=
  NEW T.t_i_Problem #[.int .i64 p_0, .int .i64 p_1, p_2.v, p_3.v] w fun (p_p : Addr) w1 =>
  LD [.int .i64] (p_p.add 0) w1 fun (x4 : Int) =>
  Calls Tryz.prog F.s_l1In #[.int .i64 x4, .int .i64 1, .int .i64 8] w1 (Ret [.at .bool] fun (x5 : Bool) w2 =>
  cond x5 (
  LD [.int .i64] (p_p.add 1) w2 fun (x8 : Int) =>
  Calls Tryz.prog F.s_l1In #[.int .i64 x8, .int .i64 1, .int .i64 4] w2 (Ret [.at .bool] fun (x9 : Bool) w3 =>
  cond x9 (
  LD [.sl] (p_p.add 2) w3 fun (x13 : Sl) =>
  LD [.int .i64] (p_p.add 1) w3 fun (x15 : Int) =>
  LD [.int .i64] (p_p.add 0) w3 fun (x17 : Int) =>
  Calls Tryz.prog F.s_prLists #[x13.v, .int .i64 x15, .int .i64 x17] w3 (Ret [.at .bool] fun (x18 : Bool) w4 =>
  cond x18 (
  LD [.sl] (p_p.add 3) w4 fun (x22 : Sl) =>
  LD [.int .i64] (p_p.add 0) w4 fun (x24 : Int) =>
  Calls Tryz.prog F.s_prLists #[x22.v, .int .i64 2, .int .i64 x24] w4 (Ret [.at .bool] fun (x25 : Bool) w5 =>
  Q x25 w5)) (
  Q false w4))) (
  Q false w3))) (
  Q false w2))

theorem C_s_prGood {Q : Bool → World → Prop} {p_0 : Int} {p_1 : Int} {p_2 : Sl} {p_3 : Sl} {w : World} (h : V_s_prGood Q p_0 p_1 p_2 p_3 w) : Calls Tryz.prog F.s_prGood #[.agg #[.int .i64 p_0, .int .i64 p_1, p_2.v, p_3.v]] w (Ret [.at .bool] Q) :=
  mkC (hint := hint) (ann := annOf []) (args := [.agg #[.int .i64 p_0, .int .i64 p_1, p_2.v, p_3.v]]) (rs := [.at .bool]) Tryz.func136 (by kernel_rfl) (by kernel_rfl) h

def V_i_allWithin (Q : Bool → World → Prop) (list : Sl) (low : Int) (high : Int) (w : World) : Prop :=
  NEW T.t_int #[.int .i64 low] w fun (p_low : Addr) w1 =>
  NEW T.t_int #[.int .i64 high] w1 fun (p_high : Addr) w2 =>
  Calls Tryz.prog F.slices_ContainsFunc_sl_int_int #[list.v, .func (.func F.i_allWithin_1) #[] #[.pointer (some p_low), .pointer (some p_high)]] w2 (Ret [.at .bool] fun (x9 : Bool) w3 =>
  Q (!x9) w3)

theorem C_i_allWithin {Q : Bool → World → Prop} {list : Sl} {low : Int} {high : Int} {w : World} (h : V_i_allWithin Q list low high w) : Calls Tryz.prog F.i_allWithin #[list.v, .int .i64 low, .int .i64 high] w (Ret [.at .bool] Q) :=
  mkC (hint := hint) (ann := annOf []) (args := [list.v, .int .i64 low, .int .i64 high]) (rs := [.at .bool]) Tryz.func143 (by kernel_rfl) (by kernel_rfl) h

def V_slices_Clone_sl_int_int (Q : Sl → World → Prop) (s : Sl) (w : World) : Prop :=
  cond s.a.isNone (
  Q (⟨none, 0, 0⟩) w) (
  RUN Tryz.prog (.at .sl) (Instr.buildSlice T.t_sl_int 0 #[]) w fun (x5 : Sl) w1 =>
  RUN Tryz.prog (.at .sl) (bsem .append #[T.t_sl_int, T.t_sl_int] T.t_sl_int #[x5.v, s.v]) w1 fun (x7 : Sl) w2 =>
  Q x7 w2)

theorem C_slices_Clone_sl_int_int {Q : Sl → World → Prop} {s : Sl} {w : World} (h : V_slices_Clone_sl_int_int Q s w) : Calls Tryz.prog F.slices_Clone_sl_int_int #[s.v] w (Ret [.at .sl] Q) :=
  mkC (hint := hint) (ann := annOf []) (args := [s.v]) (rs := [.at .sl]) Tryz.func145 (by kernel_rfl) (by kernel_rfl) h

def V_i_labelsIn (Q : Sl → World → Prop) (set1 : Int) (w : World) : Prop :=
  ∃ (I3 : Sl → Int → World → Prop) (m3 : Sl → Int → World → Nat), I3 (⟨none, 0, 0⟩) 0 w ∧ ∀ (out : Sl) (a : Int) w1, I3 out a w1 → ∀ _ _ _ _ _ _ _ _ _ _ _ _ _ _ _ : Value,
  (0 : Int) ≤ a ∧ (
  cond (((shrI .i64 set1 a) : Int) != 0) (
  (0 : Int) ≤ a ∧ (
  cond (((bitAnd .i64 (shrI .i64 set1 a) 1) : Int) == 1) (
  RUN Tryz.prog (.at .sl) (Instr.buildSlice T.t_sl_int 1 #[(0, .int .i64 a)]) w1 fun (x18 : Sl) w2 =>
  RUN Tryz.prog (.at .sl) (bsem .append #[T.t_sl_int, T.t_sl_int] T.t_sl_int #[out.v, x18.v]) w2 fun (x19 : Sl) w3 =>
  I3 x19 (IntKind.i64.wrap (a + 1)) w3 ∧ m3 x19 (IntKind.i64.wrap (a + 1)) w3 < m3 out a w1) (
  I3 out (IntKind.i64.wrap (a + 1)) w1 ∧ m3 out (IntKind.i64.wrap (a + 1)) w1 < m3 out a w1))) (
  Q out w1))

theorem C_i_labelsIn {Q : Sl → World → Prop} {set1 : Int} {w : World} (h : V_i_labelsIn Q set1 w) : Calls Tryz.prog F.i_labelsIn #[.int .i64 set1] w (Ret [.at .sl] Q) :=
  mkC (hint := hint) (ann := annOf [(3, ⟨[(3, .sl), (4, .int .i64)], [5, 6, 7, 8, 9, 10, 11, 12, 13, 14, 15, 16, 17, 18, 19]⟩)]) (args := [.int .i64 set1]) (rs := [.at .sl]) Tryz.func150 (by kernel_rfl) (by kernel_rfl) h

def V_s_boZero (Q : Bool → World → Prop) (p_0 : Int) (p_1 : Int) (p_2 : Sl) (p_3 : Sl) (pairs : Sl) (w : World) : Prop :=
  NEW T.t_i_Problem #[.int .i64 p_0, .int .i64 p_1, p_2.v, p_3.v] w fun (p_p : Addr) w1 =>
  LD [.int .i64, .int .i64, .sl, .sl] p_p w1 fun (x8_0 : Int) (x8_1 : Int) (x8_2 : Sl) (x8_3 : Sl) =>
  Calls Tryz.prog F.s_CheckZeroRefusal #[.agg #[.int .i64 x8_0, .int .i64 x8_1, x8_2.v, x8_3.v], pairs.v] w1 (Ret [.at .bool, .at .bool] fun (x10_0 : Bool) (x10_1 : Bool) w2 =>
  Q x10_0 w2)

theorem C_s_boZero {Q : Bool → World → Prop} {p_0 : Int} {p_1 : Int} {p_2 : Sl} {p_3 : Sl} {pairs : Sl} {w : World} (h : V_s_boZero Q p_0 p_1 p_2 p_3 pairs w) : Calls Tryz.prog F.s_boZero #[.agg #[.int .i64 p_0, .int .i64 p_1, p_2.v, p_3.v], pairs.v] w (Ret [.at .bool] Q) :=
  mkC (hint := hint) (ann := annOf []) (args := [.agg #[.int .i64 p_0, .int .i64 p_1, p_2.v, p_3.v], pairs.v]) (rs := [.at .bool]) Tryz.func158 (by kernel_rfl) (by kernel_rfl) h

def V_s_boStep (Q : Bool → World → Prop) (p_0 : Int) (p_1 : Int) (p_2 : Sl) (p_3 : Sl) (q_0 : Int) (q_1 : Int) (q_2 : Sl) (q_3 : Sl) (f : Sl) (w : World) : Prop :=
  NEW T.t_i_Problem #[.int .i64 p_0, .int .i64 p_1, p_2.v, p_3.v] w fun (p_p : Addr) w1 =>
  NEW T.t_i_Problem #[.int .i64 q_0, .int .i64 q_1, q_2.v, q_3.v] w1 fun (p_q : Addr) w2 =>
  LD [.int .i64, .int .i64, .sl, .sl] p_p w2 fun (x12_0 : Int) (x12_1 : Int) (x12_2 : Sl) (x12_3 : Sl) =>
  Calls Tryz.prog F.s_EliminateRound #[.agg #[.int .i64 x12_0, .int .i64 x12_1, x12_2.v, x12_3.v]] w2 (Ret [.agg [.int .i64, .int .i64, .sl, .sl], .at .sl, .at .sl, .at .bool] fun (x13_0_0 : Int) (x13_0_1 : Int) (x13_0_2 : Sl) (x13_0_3 : Sl) (x13_1 : Sl) (x13_2 : Sl) (x13_3 : Bool) w3 =>
  NEW T.t_i_Problem #[.int .i64 0, .int .i64 0, .slice none 0 0, .slice none 0 0] w3 fun (p_r : Addr) w4 =>
  ST p_r 0 [.int .i64 x13_0_0, .int .i64 x13_0_1, x13_0_2.v, x13_0_3.v] w4 fun w5 =>
  cond x13_3 (
  LD [.int .i64, .int .i64, .sl, .sl] p_r w5 fun (x20_0 : Int) (x20_1 : Int) (x20_2 : Sl) (x20_3 : Sl) =>
  LD [.int .i64, .int .i64, .sl, .sl] p_q w5 fun (x21_0 : Int) (x21_1 : Int) (x21_2 : Sl) (x21_3 : Sl) =>
  Calls Tryz.prog F.s_reMap #[.agg #[.int .i64 x20_0, .int .i64 x20_1, x20_2.v, x20_3.v], .agg #[.int .i64 x21_0, .int .i64 x21_1, x21_2.v, x21_3.v], f.v] w5 (Ret [.at .bool] fun (x23 : Bool) w6 =>
  Q x23 w6)) (
  Q false w5))

theorem C_s_boStep {Q : Bool → World → Prop} {p_0 : Int} {p_1 : Int} {p_2 : Sl} {p_3 : Sl} {q_0 : Int} {q_1 : Int} {q_2 : Sl} {q_3 : Sl} {f : Sl} {w : World} (h : V_s_boStep Q p_0 p_1 p_2 p_3 q_0 q_1 q_2 q_3 f w) : Calls Tryz.prog F.s_boStep #[.agg #[.int .i64 p_0, .int .i64 p_1, p_2.v, p_3.v], .agg #[.int .i64 q_0, .int .i64 q_1, q_2.v, q_3.v], f.v] w (Ret [.at .bool] Q) :=
  mkC (hint := hint) (ann := annOf []) (args := [.agg #[.int .i64 p_0, .int .i64 p_1, p_2.v, p_3.v], .agg #[.int .i64 q_0, .int .i64 q_1, q_2.v, q_3.v], f.v]) (rs := [.at .bool]) Tryz.func159 (by kernel_rfl) (by kernel_rfl) h

def V_s_l1Num (Q : ByteArray → World → Prop) (n : Int) (w : World) : Prop :=
  cond (decide ((n : Int) < 10)) (
  RUN Tryz.prog (.at .sl) (Instr.buildSlice T.t_sl_uint8 1 #[(0, .int .u8 (IntKind.u8.wrap (IntKind.i64.wrap (48 + n))))]) w fun (x8 : Sl) w1 =>
  RUN Tryz.prog (.at .str) (convert T.t_sl_uint8 T.t_string (x8.v)) w1 fun (x9 : ByteArray) w2 =>
  Q x9 w2) (
  ∀ w3, Ext w w3 → w3.heap = w.heap →
  (10 : Int) ≠ 0 ∧ (
  (10 : Int) ≠ 0 ∧ (
  (
  Calls Tryz.prog F.s_l1Num #[.int .i64 (IntKind.i64.wrap (Int.tdiv n 10))] w3 (Ret [.at .str] fun (x12 : ByteArray) w4 =>
  Ext w3 w4 ∧ (
  Ext w4 w4 ∧ (
  RUN Tryz.prog (.at .sl) (Instr.buildSlice T.t_sl_uint8 1 #[(0, .int .u8 (IntKind.u8.wrap (IntKind.i64.wrap (48 + (Int.tmod n 10)))))]) w4 fun (x17 : Sl) w5 =>
  Ext w4 w5 ∧ (
  RUN Tryz.prog (.at .str) (convert T.t_sl_uint8 T.t_string (x17.v)) w5 fun (x18 : ByteArray) w6 =>
  Ext w5 w6 ∧ (
  x12.size + x18.size ≤ 9223372036854775807 ∧ (
  Ext w6 w6 ∧ (
  Ext w6 w6 ∧ (
  Q (x12 ++ x18) w6))))))))) ∧ (
  Ext w3 w3 ∧ (
  (
  Calls Tryz.prog F.s_l1Num #[.int .i64 (IntKind.i64.wrap (Int.tdiv n 10))] w3 (Ret [.at .str] fun (x12_2 : ByteArray) w7 =>
  Ext w3 w7 ∧ (
  RUN Tryz.prog (.at .sl) (Instr.buildSlice T.t_sl_uint8 1 #[(0, .int .u8 (IntKind.u8.wrap (IntKind.i64.wrap (48 + (Int.tmod n 10)))))]) w7 fun (x17_2 : Sl) w8 =>
  Ext w7 w8 ∧ (
  RUN Tryz.prog (.at .str) (convert T.t_sl_uint8 T.t_string (x17_2.v)) w8 fun (x18_2 : ByteArray) w9 =>
  Ext w8 w9 ∧ (
  x12_2.size + x18_2.size ≤ 9223372036854775807 ∧ (
  Ext w9 w9 ∧ (
  Ext w9 w9 ∧ (
  Q (x12_2 ++ x18_2) w9)))))))) ∧ (
  RUN Tryz.prog (.at .sl) (Instr.buildSlice T.t_sl_uint8 1 #[(0, .int .u8 (IntKind.u8.wrap (IntKind.i64.wrap (48 + (Int.tmod n 10)))))]) w3 fun (x17_3 : Sl) w10 =>
  Ext w3 w10 ∧ (
  (
  Calls Tryz.prog F.s_l1Num #[.int .i64 (IntKind.i64.wrap (Int.tdiv n 10))] w10 (Ret [.at .str] fun (x12_3 : ByteArray) w11 =>
  Ext w10 w11 ∧ (
  RUN Tryz.prog (.at .str) (convert T.t_sl_uint8 T.t_string (x17_3.v)) w11 fun (x18_3 : ByteArray) w12 =>
  Ext w11 w12 ∧ (
  x12_3.size + x18_3.size ≤ 9223372036854775807 ∧ (
  Ext w12 w12 ∧ (
  Ext w12 w12 ∧ (
  Q (x12_3 ++ x18_3) w12))))))) ∧ (
  RUN Tryz.prog (.at .str) (convert T.t_sl_uint8 T.t_string (x17_3.v)) w10 fun (x18_4 : ByteArray) w13 =>
  Ext w10 w13 ∧ (
  Calls Tryz.prog F.s_l1Num #[.int .i64 (IntKind.i64.wrap (Int.tdiv n 10))] w13 (Ret [.at .str] fun (x12_4 : ByteArray) w14 =>
  Ext w13 w14 ∧ (
  x12_4.size + x18_4.size ≤ 9223372036854775807 ∧ (
  Ext w14 w14 ∧ (
  Ext w14 w14 ∧ (
  Q (x12_4 ++ x18_4) w14))))))))))))))

theorem C_s_l1Num {Q : ByteArray → World → Prop} {n : Int} {w : World} (h : V_s_l1Num Q n w) : Calls Tryz.prog F.s_l1Num #[.int .i64 n] w (Ret [.at .str] Q) :=
  mkC (hint := hint) (ann := annOf []) (args := [.int .i64 n]) (rs := [.at .str]) Tryz.func160 (by kernel_rfl) (by kernel_rfl) h

def V_i_problemsOk (Q : Bool → World → Prop) (ps : Sl) (w : World) : Prop :=
  NEW T.t_sl_i_Problem #[ps.v] w fun (p_ps : Addr) w1 =>
  LD [.sl] p_ps w1 fun (x3 : Sl) =>
  Calls Tryz.prog F.i_within #[.int .i64 x3.len, .int .i64 1, .int .i64 7] w1 (Ret [.at .bool] fun (x5 : Bool) w2 =>
  cond (!x5) (
  Q false w2) (
  LD [.sl] p_ps w2 fun (x7 : Sl) =>
  Calls Tryz.prog F.slices_ContainsFunc_sl_i_Problem_i_Problem #[x7.v, .func (.func F.i_problemsOk_1) #[] #[.pointer (some p_ps)]] w2 (Ret [.at .bool] fun (x9 : Bool) w3 =>
  Q (!x9) w3)))

theorem C_i_problemsOk {Q : Bool → World → Prop} {ps : Sl} {w : World} (h : V_i_problemsOk Q ps w) : Calls Tryz.prog F.i_problemsOk #[ps.v] w (Ret [.at .bool] Q) :=
  mkC (hint := hint) (ann := annOf []) (args := [ps.v]) (rs := [.at .bool]) Tryz.func161 (by kernel_rfl) (by kernel_rfl) h

def V_i_isRightBound (Q : Bool → World → Prop) (b_0 : Sl) (b_1 : Sl) (b_2 : Sl) (w : World) : Prop :=
  NEW T.t_i_Bound #[b_0.v, b_1.v, b_2.v] w fun (p_b : Addr) w1 =>
  LD [.sl] (p_b.add 0) w1 fun (x11 : Sl) =>
  LD [.sl] (p_b.add 1) w1 fun (x15 : Sl) =>
  cond ((x15.len : Int) != (IntKind.i64.wrap (x11.len - 1))) (
  Q false w1) (
  LD [.sl] (p_b.add 1) w1 fun (x20 : Sl) =>
  ∃ (I5 : Int → World → Prop) (m5 : Int → World → Nat), I5 0 w1 ∧ ∀ (x22 : Int) w2, I5 x22 w2 → ∀ _ _ _ _ _ _ _ _ _ _ _ _ _ _ _ _ _ _ _ _ _ _ _ _ _ _ _ _ _ _ _ _ _ _ _ _ _ : Value,
  cond (decide ((x22 : Int) < x20.len)) (
  IX x20 x22 1 fun (px25 : Addr) =>
  LD [.sl] px25 w2 fun (x26 : Sl) =>
  LD [.sl] (p_b.add 0) w2 fun (x29 : Sl) =>
  IX x29 x22 4 fun (px31 : Addr) =>
  LD [.int .i64, .int .i64, .sl, .sl] px31 w2 fun (x32_0 : Int) (x32_1 : Int) (x32_2 : Sl) (x32_3 : Sl) =>
  Calls Tryz.prog F.i_eliminate #[.agg #[.int .i64 x32_0, .int .i64 x32_1, x32_2.v, x32_3.v]] w2 (Ret [.agg [.int .i64, .int .i64, .sl, .sl], .at .sl, .at .sl, .at .bool] fun (x33_0_0 : Int) (x33_0_1 : Int) (x33_0_2 : Sl) (x33_0_3 : Sl) (x33_1 : Sl) (x33_2 : Sl) (x33_3 : Bool) w3 =>
  NEW T.t_i_Problem #[.int .i64 0, .int .i64 0, .slice none 0 0, .slice none 0 0] w3 fun (p_q : Addr) w4 =>
  ST p_q 0 [.int .i64 x33_0_0, .int .i64 x33_0_1, x33_0_2.v, x33_0_3.v] w4 fun w5 =>
  cond (!x33_3) (
  ∀ w6, Ext w5 w6 →
  Q false w6) (
  LD [.int .i64, .int .i64, .sl, .sl] p_q w5 fun (x41_0 : Int) (x41_1 : Int) (x41_2 : Sl) (x41_3 : Sl) =>
  LD [.sl] (p_b.add 0) w5 fun (x43 : Sl) =>
  IX x43 (IntKind.i64.wrap (x22 + 1)) 4 fun (px46 : Addr) =>
  LD [.int .i64, .int .i64, .sl, .sl] px46 w5 fun (x47_0 : Int) (x47_1 : Int) (x47_2 : Sl) (x47_3 : Sl) =>
  QCALL Tryz.prog F.i_isLabelMap #[.agg #[.int .i64 x41_0, .int .i64 x41_1, x41_2.v, x41_3.v], .agg #[.int .i64 x47_0, .int .i64 x47_1, x47_2.v, x47_3.v], x26.v] w5 [.at .bool] fun (x49 : Bool) =>
  ∀ w7, Ext w5 w7 →
  cond (!x49) (
  Q false w7) (
  I5 (IntKind.i64.wrap (x22 + 1)) w7 ∧ m5 (IntKind.i64.wrap (x22 + 1)) w7 < m5 x22 w2)))) (
  LD [.sl] (p_b.add 0) w2 fun (x54 : Sl) =>
  IX x54 (IntKind.i64.wrap (x11.len - 1)) 4 fun (px56 : Addr) =>
  LD [.int .i64, .int .i64, .sl, .sl] px56 w2 fun (x57_0 : Int) (x57_1 : Int) (x57_2 : Sl) (x57_3 : Sl) =>
  LD [.sl] (p_b.add 2) w2 fun (x59 : Sl) =>
  QCALL Tryz.prog F.i_isZeroRefusal #[.agg #[.int .i64 x57_0, .int .i64 x57_1, x57_2.v, x57_3.v], x59.v] w2 [.at .bool] fun (x60 : Bool) =>
  ∀ w8, Ext w2 w8 →
  Q x60 w8))

theorem C_i_isRightBound {Q : Bool → World → Prop} {b_0 : Sl} {b_1 : Sl} {b_2 : Sl} {w : World} (h : V_i_isRightBound Q b_0 b_1 b_2 w) : Calls Tryz.prog F.i_isRightBound #[.agg #[b_0.v, b_1.v, b_2.v]] w (Ret [.at .bool] Q) :=
  mkC (hint := hint) (ann := annOf [(5, ⟨[(22, .int .i64)], [2, 4, 5, 6, 7, 8, 9, 23, 24, 25, 26, 27, 28, 29, 30, 31, 32, 33, 34, 35, 36, 37, 38, 39, 40, 41, 42, 43, 44, 45, 46, 47, 48, 49, 50, 51, 52]⟩)]) (args := [.agg #[b_0.v, b_1.v, b_2.v]]) (rs := [.at .bool]) Tryz.func162 (by kernel_rfl) (by kernel_rfl) h

def V_s_l1Sign (Q : Int → World → Prop) (n : Int) (w : World) : Prop :=
  cond (decide ((n : Int) > 0)) (
  Q 1 w) (
  cond (decide ((n : Int) < 0)) (
  Q (-1) w) (
  Q 0 w))

theorem C_s_l1Sign {Q : Int → World → Prop} {n : Int} {w : World} (h : V_s_l1Sign Q n w) : Calls Tryz.prog F.s_l1Sign #[.int .i64 n] w (Ret [.at (.int .i64)] Q) :=
  mkC (hint := hint) (ann := annOf []) (args := [.int .i64 n]) (rs := [.at (.int .i64)]) Tryz.func166 (by kernel_rfl) (by kernel_rfl) h

end Go.Proofs.YtnhidomgpbohiaaGreatDoor
end
