/- Own texts, merged: Names, VCmp, Values, V0, V1, V2, V3, V4. -/
import Derived.Test.YtlmiookpmneicaaGreatM0
import Derived.Test.YtlmiookpmneicaaGreatProg
import Derived.RangeFuncBox
import Derived.RangeFuncLeaves
import Derived.Shelf.Abstract
import Derived.WalkKit
import Derived.OwnWalkIn
import Derived.TacticsInMore
import Derived.LoopNIn
import Derived.LoopIn
section
/- The numbers of functions and types of this seat by their names, and of which kind a type's values are. Printed by a program. -/
namespace Go.Proofs.YtlmiookpmneicaaGreat
open Go.GX Go.RowKit

abbrev F.main_main : FuncId := 0
abbrev F.gosem_cut : FuncId := 1
abbrev F.gosem_cut_init : FuncId := 2
abbrev F.l_FnExactMapByConfigs : FuncId := 3
abbrev F.l_FnExactSplitProduct : FuncId := 4
abbrev F.l_FnExactCheckEndless : FuncId := 5
abbrev F.l_FnExactPullEdgeStep : FuncId := 6
abbrev F.l_FnExactPullNodeStep : FuncId := 7
abbrev F.l_FnExactPullRound : FuncId := 8
abbrev F.l_FnExactCheckBound : FuncId := 9
abbrev F.l_FnExactBoundOf : FuncId := 10
abbrev F.l_FnExactCutBound : FuncId := 11
abbrev F.l_FnExactJoinBounds : FuncId := 12
abbrev F.l_szProblem : FuncId := 13
abbrev F.l_szIntSS : FuncId := 14
abbrev F.l_szNetwork : FuncId := 15
abbrev F.s_MapByConfigs : FuncId := 16
abbrev F.l_toProblem : FuncId := 17
abbrev F.l_toIntSS : FuncId := 18
abbrev F.l_toNetwork : FuncId := 19
abbrev F.i_MapByConfigs : FuncId := 20
abbrev F.l_eqIntSS : FuncId := 21
abbrev F.l_eqProblem : FuncId := 22
abbrev F.l_eqNetwork : FuncId := 23
abbrev F.l_markProblem : FuncId := 24
abbrev F.l_markIntSS : FuncId := 25
abbrev F.l_markNetwork : FuncId := 26
abbrev F.l_heldIntSS : FuncId := 27
abbrev F.s_SplitProduct : FuncId := 28
abbrev F.i_SplitProduct : FuncId := 29
abbrev F.s_CheckEndless : FuncId := 30
abbrev F.l_toIntS : FuncId := 31
abbrev F.i_CheckEndless : FuncId := 32
abbrev F.l_eqIntS : FuncId := 33
abbrev F.s_PullEdgeStep : FuncId := 34
abbrev F.i_PullEdgeStep : FuncId := 35
abbrev F.s_PullNodeStep : FuncId := 36
abbrev F.i_PullNodeStep : FuncId := 37
abbrev F.s_PullRound : FuncId := 38
abbrev F.i_PullRound : FuncId := 39
abbrev F.l_szBound : FuncId := 40
abbrev F.s_CheckBound : FuncId := 41
abbrev F.l_toBound : FuncId := 42
abbrev F.i_CheckBound : FuncId := 43
abbrev F.l_eqBound : FuncId := 44
abbrev F.s_BoundOf : FuncId := 45
abbrev F.i_BoundOf : FuncId := 46
abbrev F.s_CutBound : FuncId := 47
abbrev F.i_CutBound : FuncId := 48
abbrev F.l_markBound : FuncId := 49
abbrev F.l_heldBound : FuncId := 50
abbrev F.s_JoinBounds : FuncId := 51
abbrev F.i_JoinBounds : FuncId := 52
abbrev F.l_szIntS : FuncId := 53
abbrev F.l_szEndSS : FuncId := 54
abbrev F.s_reTwo : FuncId := 55
abbrev F.s_reRows : FuncId := 56
abbrev F.s_prAsked : FuncId := 57
abbrev F.s_prIs : FuncId := 58
abbrev F.s_l1All : FuncId := 59
abbrev F.s_neDegrees : FuncId := 60
abbrev F.s_reRow : FuncId := 61
abbrev F.l_toEndSS : FuncId := 62
abbrev F.i_areProblems : FuncId := 63
abbrev F.i_isConfigMap : FuncId := 64
abbrev F.i_IsNetwork : FuncId := 65
abbrev F.i_isSolution : FuncId := 66
abbrev F.i_numbersTo : FuncId := 67
abbrev F.slices_SortStableFunc_sl_int_int : FuncId := 68
abbrev F.i_MapByConfigs_1 : FuncId := 69
abbrev F.slices_BinarySearchFunc_sl_sl_int_sl_int_sl_int : FuncId := 70
abbrev F.slices_Sorted_int : FuncId := 71
abbrev F.slices_Values_sl_int_int : FuncId := 72
abbrev F.slices_Compare_sl_int_int : FuncId := 73
abbrev F.l_eqEndSS : FuncId := 74
abbrev F.l_markIntS : FuncId := 75
abbrev F.l_markEndSS : FuncId := 76
abbrev F.l_heldIntS : FuncId := 77
abbrev F.s_ProductProblem : FuncId := 78
abbrev F.s_reHalves : FuncId := 79
abbrev F.i_ProductProblem : FuncId := 80
abbrev F.i_isLabeling : FuncId := 81
abbrev F.i_parts : FuncId := 82
abbrev F.s_EliminateRound : FuncId := 83
abbrev F.s_reMap : FuncId := 84
abbrev F.s_boZero : FuncId := 85
abbrev F.i_EliminateRound : FuncId := 86
abbrev F.i_isLabelMap : FuncId := 87
abbrev F.i_isZeroRefusal : FuncId := 88
abbrev F.s_EdgeStep : FuncId := 89
abbrev F.s_elPullEdge : FuncId := 90
abbrev F.i_EdgeStep : FuncId := 91
abbrev F.i_pullEdgeStep : FuncId := 92
abbrev F.s_NodeStep : FuncId := 93
abbrev F.s_elStubless : FuncId := 94
abbrev F.s_elPullNode : FuncId := 95
abbrev F.i_NodeStep : FuncId := 96
abbrev F.slices_ContainsFunc_sl_i_edge_i_edge : FuncId := 97
abbrev F.i_Network_edges : FuncId := 98
abbrev F.i_edge_stub : FuncId := 99
abbrev F.i_copyLists : FuncId := 100
abbrev F.i_Problem_edgeChoice : FuncId := 101
abbrev F.i_listsOf : FuncId := 102
abbrev F.l_szProblemS : FuncId := 103
abbrev F.s_boTwo : FuncId := 104
abbrev F.s_boRight : FuncId := 105
abbrev F.l_toProblemS : FuncId := 106
abbrev F.i_problemsOk : FuncId := 107
abbrev F.i_isRightBound : FuncId := 108
abbrev F.l_eqProblemS : FuncId := 109
abbrev F.s_boGood : FuncId := 110
abbrev F.s_l1In : FuncId := 111
abbrev F.s_boBuild : FuncId := 112
abbrev F.i_within : FuncId := 113
abbrev F.i_BuildBound : FuncId := 114
abbrev F.l_markProblemS : FuncId := 115
abbrev F.l_heldProblemS : FuncId := 116
abbrev F.s_prSame : FuncId := 117
abbrev F.i_sameProblem : FuncId := 118
abbrev F.slices_Concat_sl_i_Problem_i_Problem : FuncId := 119
abbrev F.l_szEndS : FuncId := 120
abbrev F.s_prGood : FuncId := 121
abbrev F.s_prNode : FuncId := 122
abbrev F.s_prEdge : FuncId := 123
abbrev F.s_neGood : FuncId := 124
abbrev F.s_prShape : FuncId := 125
abbrev F.s_prFault : FuncId := 126
abbrev F.s_l1Same : FuncId := 127
abbrev F.s_prSorted : FuncId := 128
abbrev F.l_toEndS : FuncId := 129
abbrev F.i_IsProblem : FuncId := 130
abbrev F.i_Problem_hasLabels : FuncId := 131
abbrev F.i_Problem_node : FuncId := 132
abbrev F.i_Problem_edge : FuncId := 133
abbrev F.i_idsOk : FuncId := 134
abbrev F.i_inputsOk : FuncId := 135
abbrev F.i_Network_hasPort : FuncId := 136
abbrev F.i_labelFault : FuncId := 137
abbrev F.slices_stableCmpFunc_int : FuncId := 138
abbrev F.slices_Collect_int : FuncId := 139
abbrev F.slices_Sort_sl_int_int : FuncId := 140
abbrev F.slices_Values_sl_int_int_1 : FuncId := 141
abbrev F.cmp_Compare_int : FuncId := 142
abbrev F.l_eqEndS : FuncId := 143
abbrev F.l_markEndS : FuncId := 144
abbrev F.s_reProduct : FuncId := 145
abbrev F.i_allowedBy : FuncId := 146
abbrev F.i_ProductProblem_1 : FuncId := 147
abbrev F.i_ProductProblem_2 : FuncId := 148
abbrev F.i_portsOk : FuncId := 149
abbrev F.slices_ContainsFunc_sl_sl_int_sl_int : FuncId := 150
abbrev F.i_isLabeling_1 : FuncId := 151
abbrev F.s_elNode : FuncId := 152
abbrev F.s_reInto : FuncId := 153
abbrev F.s_CheckZeroRefusal : FuncId := 154
abbrev F.i_eliminate : FuncId := 155
abbrev F.i_images : FuncId := 156
abbrev F.i_isLabelMap_1 : FuncId := 157
abbrev F.slices_Contains_sl_int_int : FuncId := 158
abbrev F.s_elEdge : FuncId := 159
abbrev F.s_coThrough : FuncId := 160
abbrev F.s_elChoice : FuncId := 161
abbrev F.s_elLabels : FuncId := 162
abbrev F.i_edgeStep : FuncId := 163
abbrev F.i_firstChoice : FuncId := 164
abbrev F.i_pullEdgeStep_1 : FuncId := 165
abbrev F.s_neEdges : FuncId := 166
abbrev F.i_nodeStep : FuncId := 167
abbrev F.slices_IndexFunc_sl_i_edge_i_edge : FuncId := 168
abbrev F.slices_Clone_sl_int_int : FuncId := 169
abbrev F.i_Problem_edgeChoice_1 : FuncId := 170
abbrev F.i_labelsIn : FuncId := 171
abbrev F.s_boStep : FuncId := 172
abbrev F.slices_ContainsFunc_sl_i_Problem_i_Problem : FuncId := 173
abbrev F.i_problemsOk_1 : FuncId := 174
abbrev F.s_boOwn : FuncId := 175
abbrev F.s_LabelMapBetween : FuncId := 176
abbrev F.s_RefusalOfZero : FuncId := 177
abbrev F.i_copyProblem : FuncId := 178
abbrev F.i_LabelMapBetween : FuncId := 179
abbrev F.i_RefusalOfZero : FuncId := 180
abbrev F.s_prSameLists : FuncId := 181
abbrev F.i_sameProblem_1 : FuncId := 182
abbrev F.slices_EqualFunc_sl_sl_int_sl_sl_int_sl_int_sl_int : FuncId := 183
abbrev F.slices_Equal_sl_int_int : FuncId := 184
abbrev F.slices_Grow_sl_i_Problem_i_Problem : FuncId := 185
abbrev F.s_prLists : FuncId := 186
abbrev F.s_prHas : FuncId := 187
abbrev F.s_l1Least : FuncId := 188
abbrev F.s_l1Most : FuncId := 189
abbrev F.s_neIds : FuncId := 190
abbrev F.s_neFirst : FuncId := 191
abbrev F.s_l1Own : FuncId := 192
abbrev F.l_toEnd : FuncId := 193
abbrev F.i_configurationsOk : FuncId := 194
abbrev F.i_allWithin : FuncId := 195
abbrev F.i_hasConfiguration : FuncId := 196
abbrev F.i_increasing : FuncId := 197
abbrev F.i_Network_hasNode : FuncId := 198
abbrev F.slices_insertionSortCmpFunc_int : FuncId := 199
abbrev F.slices_symMergeCmpFunc_int : FuncId := 200
abbrev F.slices_AppendSeq_sl_int_int : FuncId := 201
abbrev F.slices_pdqsortOrdered_int : FuncId := 202
abbrev F.math_bits_Len : FuncId := 203
abbrev F.cmp_isNaN_int : FuncId := 204
abbrev F.l_eqEnd : FuncId := 205
abbrev F.s_reChoices : FuncId := 206
abbrev F.slices_DeleteFunc_sl_sl_int_sl_int : FuncId := 207
abbrev F.i_multisets : FuncId := 208
abbrev F.i_allowedBy_1 : FuncId := 209
abbrev F.slices_IndexFunc_sl_sl_int_sl_int : FuncId := 210
abbrev F.s_elTabled : FuncId := 211
abbrev F.s_elTable_rest : FuncId := 212
abbrev F.s_elTable_full : FuncId := 213
abbrev F.s_elMade : FuncId := 214
abbrev F.s_zeTwo : FuncId := 215
abbrev F.slices_Index_sl_int_int : FuncId := 216
abbrev F.s_elNear : FuncId := 217
abbrev F.s_elHas : FuncId := 218
abbrev F.i_beside : FuncId := 219
abbrev F.i_newLabels : FuncId := 220
abbrev F.i_edgeStep_1 : FuncId := 221
abbrev F.i_Problem_nodeChoice : FuncId := 222
abbrev F.i_firstChoice_1 : FuncId := 223
abbrev F.i_newNodeSets : FuncId := 224
abbrev F.ptr_i_nodeSets_fullLists : FuncId := 225
abbrev F.i_nodeStep_1 : FuncId := 226
abbrev F.slices_IndexFunc_sl_i_Problem_i_Problem : FuncId := 227
abbrev F.s_soCopy : FuncId := 228
abbrev F.s_reTable : FuncId := 229
abbrev F.s_reFinder_narrow : FuncId := 230
abbrev F.s_reFinder_grow : FuncId := 231
abbrev F.s_zeGood : FuncId := 232
abbrev F.s_zeBad : FuncId := 233
abbrev F.i_firstLabelMap : FuncId := 234
abbrev F.i_badPair : FuncId := 235
abbrev F.s_prOrder : FuncId := 236
abbrev F.s_l1Has : FuncId := 237
abbrev F.slices_IsSorted_sl_int_int : FuncId := 238
abbrev F.slices_ContainsFunc_sl_int_int : FuncId := 239
abbrev F.i_allWithin_1 : FuncId := 240
abbrev F.slices_rotateCmpFunc_int : FuncId := 241
abbrev F.slices_insertionSortOrdered_int : FuncId := 242
abbrev F.slices_heapSortOrdered_int : FuncId := 243
abbrev F.slices_breakPatternsOrdered_int : FuncId := 244
abbrev F.slices_choosePivotOrdered_int : FuncId := 245
abbrev F.slices_reverseRangeOrdered_int : FuncId := 246
abbrev F.slices_partialInsertionSortOrdered_int : FuncId := 247
abbrev F.cmp_Less_int : FuncId := 248
abbrev F.slices_partitionEqualOrdered_int : FuncId := 249
abbrev F.slices_partitionOrdered_int : FuncId := 250
abbrev F.math_bits_Len32 : FuncId := 251
abbrev F.math_bits_Len64 : FuncId := 252
abbrev F.s_l1Put : FuncId := 253
abbrev F.s_prInsert : FuncId := 254
abbrev F.s_elNumbers : FuncId := 255
abbrev F.s_elSome : FuncId := 256
abbrev F.i_isGoodPair : FuncId := 257
abbrev F.slices_Concat_sl_int_int : FuncId := 258
abbrev F.slices_Compact_sl_int_int : FuncId := 259
abbrev F.slices_BinarySearch_sl_int_int : FuncId := 260
abbrev F.i_sortedLists : FuncId := 261
abbrev F.i_Problem_nodeChoice_1 : FuncId := 262
abbrev F.ptr_i_nodeSets_completing : FuncId := 263
abbrev F.ptr_i_nodeSets_isFull : FuncId := 264
abbrev F.s_reFinder_support : FuncId := 265
abbrev F.s_zePairs : FuncId := 266
abbrev F.ptr_i_renamer_mapped : FuncId := 267
abbrev F.s_l1Sign : FuncId := 268
abbrev F.slices_IndexFunc_sl_int_int : FuncId := 269
abbrev F.slices_swapRangeCmpFunc_int : FuncId := 270
abbrev F.slices_siftDownOrdered_int : FuncId := 271
abbrev F.slices_nextPowerOfTwo : FuncId := 272
abbrev F.ptr_slices_xorshift_Next : FuncId := 273
abbrev F.slices_medianAdjacentOrdered_int : FuncId := 274
abbrev F.slices_medianOrdered_int : FuncId := 275
abbrev F.slices_Grow_sl_int_int : FuncId := 276
abbrev F.slices_isNaN_int : FuncId := 277
abbrev F.slices_SortFunc_sl_sl_int_sl_int : FuncId := 278
abbrev F.slices_CompactFunc_sl_sl_int_sl_int : FuncId := 279
abbrev F.ptr_i_nodeSets_completing_1 : FuncId := 280
abbrev F.slices_Delete_sl_int_int : FuncId := 281
abbrev F.slices_order2Ordered_int : FuncId := 282
abbrev F.slices_pdqsortCmpFunc_sl_int : FuncId := 283
abbrev F.slices_insertionSortCmpFunc_sl_int : FuncId := 284
abbrev F.slices_heapSortCmpFunc_sl_int : FuncId := 285
abbrev F.slices_breakPatternsCmpFunc_sl_int : FuncId := 286
abbrev F.slices_choosePivotCmpFunc_sl_int : FuncId := 287
abbrev F.slices_reverseRangeCmpFunc_sl_int : FuncId := 288
abbrev F.slices_partialInsertionSortCmpFunc_sl_int : FuncId := 289
abbrev F.slices_partitionEqualCmpFunc_sl_int : FuncId := 290
abbrev F.slices_partitionCmpFunc_sl_int : FuncId := 291
abbrev F.slices_siftDownCmpFunc_sl_int : FuncId := 292
abbrev F.slices_medianAdjacentCmpFunc_sl_int : FuncId := 293
abbrev F.slices_medianCmpFunc_sl_int : FuncId := 294
abbrev F.slices_order2CmpFunc_sl_int : FuncId := 295
abbrev F.runtime_boundsError_Error : FuncId := 296
abbrev F.runtime_boundsError_RuntimeError : FuncId := 297
abbrev F.runtime_errorString_Error : FuncId := 298
abbrev F.runtime_errorString_RuntimeError : FuncId := 299
abbrev F.runtime_plainError_Error : FuncId := 300
abbrev F.runtime_plainError_RuntimeError : FuncId := 301
abbrev F.runtime_errorAddressString_Error : FuncId := 302
abbrev F.runtime_errorAddressString_RuntimeError : FuncId := 303
abbrev F.ptr_runtime_TypeAssertionError_Error : FuncId := 304
abbrev F.ptr_runtime_TypeAssertionError_RuntimeError : FuncId := 305
abbrev F.ptr_runtime_PanicNilError_Error : FuncId := 306
abbrev F.ptr_runtime_PanicNilError_RuntimeError : FuncId := 307
abbrev F.ptr_internal_abi_Type_Align : FuncId := 308
abbrev F.internal_runtime_maps_unhashableTypeError_Error : FuncId := 309
abbrev F.internal_runtime_maps_unhashableTypeError_RuntimeError : FuncId := 310
abbrev F.i_Network_isSimple : FuncId := 311
abbrev F.i_edge_isLoop : FuncId := 312
abbrev F.ptr_i_renamer_search : FuncId := 313
abbrev F.internal_abi_Kind_String : FuncId := 314
abbrev T.t_unit : TypeId := 0
abbrev T.t_func : TypeId := 1
abbrev T.t_int64 : TypeId := 2
abbrev T.t_int : TypeId := 3
abbrev T.t_bool : TypeId := 4
abbrev T.t_uint8 : TypeId := 5
abbrev T.t_abi_BoundsErrorCode : TypeId := 6
abbrev T.t_struct_x_int64_y_int_signed_bool_code_abi_BoundsErrorCode : TypeId := 7
abbrev T.t_runtime_boundsError : TypeId := 8
abbrev T.t_string : TypeId := 9
abbrev T.t_runtime_errorString : TypeId := 10
abbrev T.t_runtime_plainError : TypeId := 11
abbrev T.t_uintptr : TypeId := 12
abbrev T.t_struct_msg_string_addr_uintptr : TypeId := 13
abbrev T.t_runtime_errorAddressString : TypeId := 14
abbrev T.t_ptr_runtime_TypeAssertionError : TypeId := 15
abbrev T.t_ptr_runtime_PanicNilError : TypeId := 16
abbrev T.t_ptr_abi_Type : TypeId := 17
abbrev T.t_struct_typ_ptr_abi_Type : TypeId := 18
abbrev T.t_maps_unhashableTypeError : TypeId := 19
abbrev T.t_interface : TypeId := 20
abbrev T.t_int32 : TypeId := 21
abbrev T.t_sl_sl_int : TypeId := 22
abbrev T.t_struct_Labels_int_Degree_int_Nodes_sl_sl_int_Edges_sl_sl_int : TypeId := 23
abbrev T.t_l_Problem : TypeId := 24
abbrev T.t_sl_sl_l_End : TypeId := 25
abbrev T.t_sl_int : TypeId := 26
abbrev T.t_struct_Ends_sl_sl_l_End_Ids_sl_int_Inputs_sl_int : TypeId := 27
abbrev T.t_l_Network : TypeId := 28
abbrev T.t_func_l_Problem_int_int : TypeId := 29
abbrev T.t_func_sl_sl_int_int_int : TypeId := 30
abbrev T.t_func_l_Network_int_int : TypeId := 31
abbrev T.t_sl_sl_int_bool : TypeId := 32
abbrev T.t_func_i_Problem_i_Problem_sl_sl_int_i_Network_sl_sl_int_sl_sl_int_bool : TypeId := 33
abbrev T.t_i_Problem : TypeId := 34
abbrev T.t_func_l_Problem_i_Problem : TypeId := 35
abbrev T.t_func_sl_sl_int_sl_sl_int : TypeId := 36
abbrev T.t_sl_sl_i_End : TypeId := 37
abbrev T.t_struct_Ends_sl_sl_i_End_Ids_sl_int_Inputs_sl_int : TypeId := 38
abbrev T.t_i_Network : TypeId := 39
abbrev T.t_func_l_Network_i_Network : TypeId := 40
abbrev T.t_func_sl_sl_int_sl_sl_int_bool : TypeId := 41
abbrev T.t_func_i_Problem_i_Problem_bool : TypeId := 42
abbrev T.t_func_i_Network_i_Network_bool : TypeId := 43
abbrev T.t_func_i_Problem_int_int : TypeId := 44
abbrev T.t_func_i_Network_int_int : TypeId := 45
abbrev T.t_func_l_Problem_l_Problem_sl_sl_int_l_Network_sl_sl_int_bool : TypeId := 46
abbrev T.t_sl_sl_int_sl_sl_int_bool : TypeId := 47
abbrev T.t_func_i_Problem_i_Problem_i_Network_sl_sl_int_sl_sl_int_sl_sl_int_bool : TypeId := 48
abbrev T.t_func_l_Problem_l_Problem_l_Network_sl_sl_int_bool : TypeId := 49
abbrev T.t_bool_bool : TypeId := 50
abbrev T.t_func_i_Problem_sl_int_sl_sl_int_bool_bool : TypeId := 51
abbrev T.t_func_sl_int_sl_int : TypeId := 52
abbrev T.t_func_sl_int_sl_int_bool : TypeId := 53
abbrev T.t_func_l_Problem_sl_int_sl_sl_int_bool : TypeId := 54
abbrev T.t_func_i_Problem_i_Network_sl_sl_int_sl_sl_int_bool : TypeId := 55
abbrev T.t_func_l_Problem_l_Network_sl_sl_int_bool : TypeId := 56
abbrev T.t_sl_l_Problem : TypeId := 57
abbrev T.t_struct_Problems_sl_l_Problem_Maps_sl_sl_int_Refusal_sl_sl_int : TypeId := 58
abbrev T.t_l_Bound : TypeId := 59
abbrev T.t_func_l_Bound_int_int : TypeId := 60
abbrev T.t_func_i_Bound_bool_bool : TypeId := 61
abbrev T.t_sl_i_Problem : TypeId := 62
abbrev T.t_struct_Problems_sl_i_Problem_Maps_sl_sl_int_Refusal_sl_sl_int : TypeId := 63
abbrev T.t_i_Bound : TypeId := 64
abbrev T.t_func_l_Bound_i_Bound : TypeId := 65
abbrev T.t_func_i_Bound_i_Bound_bool : TypeId := 66
abbrev T.t_func_l_Bound_bool : TypeId := 67
abbrev T.t_int_bool : TypeId := 68
abbrev T.t_func_i_Bound_int_bool : TypeId := 69
abbrev T.t_i_Bound_bool : TypeId := 70
abbrev T.t_func_i_Bound_int_i_Bound_bool : TypeId := 71
abbrev T.t_func_i_Bound_int_int : TypeId := 72
abbrev T.t_func_l_Bound_int_bool : TypeId := 73
abbrev T.t_func_i_Bound_i_Bound_i_Bound_bool : TypeId := 74
abbrev T.t_func_l_Bound_l_Bound_bool : TypeId := 75
abbrev T.t_func_sl_int_int_int : TypeId := 76
abbrev T.t_func_sl_sl_l_End_int_int : TypeId := 77
abbrev T.t_func_i_Problem_i_Problem_sl_sl_int_bool : TypeId := 78
abbrev T.t_func_i_Problem_i_Network_sl_sl_int_bool : TypeId := 79
abbrev T.t_func_sl_int_int_int_bool : TypeId := 80
abbrev T.t_func_i_Network_sl_int : TypeId := 81
abbrev T.t_func_i_Problem_sl_sl_int_sl_int_sl_int : TypeId := 82
abbrev T.t_func_sl_sl_l_End_sl_sl_i_End : TypeId := 83
abbrev T.t_func_i_Network_bool : TypeId := 84
abbrev T.t_func_int_sl_int : TypeId := 85
abbrev T.t_func_sl_int_func_int_int_int : TypeId := 86
abbrev T.t_func_int_int_int : TypeId := 87
abbrev T.t_func_sl_sl_int_sl_int_func_sl_int_sl_int_int_int_bool : TypeId := 88
abbrev T.t_func_iter_Seq_int_sl_int : TypeId := 89
abbrev T.t_func_func_int_bool : TypeId := 90
abbrev T.t_iter_Seq_int : TypeId := 91
abbrev T.t_func_sl_int_iter_Seq_int : TypeId := 92
abbrev T.t_func_sl_int_sl_int_int : TypeId := 93
abbrev T.t_func_sl_sl_i_End_sl_sl_i_End_bool : TypeId := 94
abbrev T.t_func_sl_sl_i_End_int_int : TypeId := 95
abbrev T.t_i_Problem_bool : TypeId := 96
abbrev T.t_func_i_Problem_i_Problem_i_Problem_bool : TypeId := 97
abbrev T.t_sl_int_sl_int : TypeId := 98
abbrev T.t_func_sl_int_int_sl_int_sl_int : TypeId := 99
abbrev T.t_i_Problem_sl_int_sl_int_bool : TypeId := 100
abbrev T.t_func_i_Problem_i_Problem_sl_int_sl_int_bool : TypeId := 101
abbrev T.t_func_i_Problem_i_Problem_sl_int_bool : TypeId := 102
abbrev T.t_func_i_Problem_sl_sl_int_bool : TypeId := 103
abbrev T.t_i_Problem_sl_int_bool : TypeId := 104
abbrev T.t_func_i_Problem_i_Problem_sl_int_bool_1 : TypeId := 105
abbrev T.t_func_i_Problem_sl_int_sl_sl_int_sl_sl_int : TypeId := 106
abbrev T.t_func_i_Problem_sl_int_sl_sl_int_sl_sl_int_bool : TypeId := 107
abbrev T.t_func_i_Problem_sl_int_i_Network_sl_sl_int_sl_sl_int : TypeId := 108
abbrev T.t_func_sl_i_edge_func_i_edge_bool_bool : TypeId := 109
abbrev T.t_sl_i_edge : TypeId := 110
abbrev T.t_struct_v_int_i_int_w_int_j_int : TypeId := 111
abbrev T.t_i_edge : TypeId := 112
abbrev T.t_func_sl_i_edge : TypeId := 113
abbrev T.t_func_i_edge_bool : TypeId := 114
abbrev T.t_func_bool : TypeId := 115
abbrev T.t_sl_int_bool : TypeId := 116
abbrev T.t_func_sl_sl_int_sl_int_bool : TypeId := 117
abbrev T.t_func_sl_int_sl_int_sl_sl_int : TypeId := 118
abbrev T.t_func_sl_l_Problem_int_int : TypeId := 119
abbrev T.t_func_sl_i_Problem_bool : TypeId := 120
abbrev T.t_func_i_Bound_bool : TypeId := 121
abbrev T.t_func_sl_l_Problem_sl_i_Problem : TypeId := 122
abbrev T.t_func_sl_i_Problem_sl_i_Problem_bool : TypeId := 123
abbrev T.t_func_int_int_int_bool : TypeId := 124
abbrev T.t_func_sl_i_Problem_i_Bound_bool : TypeId := 125
abbrev T.t_func_sl_i_Problem_int_int : TypeId := 126
abbrev T.t_func_sl_i_Problem_sl_i_Problem : TypeId := 127
abbrev T.t_func_sl_l_End_int_int : TypeId := 128
abbrev T.t_sl_l_End : TypeId := 129
abbrev T.t_func_i_Problem_bool : TypeId := 130
abbrev T.t_func_i_Problem_sl_int_bool : TypeId := 131
abbrev T.t_func_i_Problem_int_int_bool : TypeId := 132
abbrev T.t_int_int : TypeId := 133
abbrev T.t_func_i_Problem_i_Network_sl_sl_int_int_int : TypeId := 134
abbrev T.t_sl_i_End : TypeId := 135
abbrev T.t_func_sl_l_End_sl_i_End : TypeId := 136
abbrev T.t_func_int_bool : TypeId := 137
abbrev T.t_func_int_int_bool : TypeId := 138
abbrev T.t_func_sl_int_int_bool : TypeId := 139
abbrev T.t_struct_Node_int_Port_int : TypeId := 140
abbrev T.t_i_End : TypeId := 141
abbrev T.t_int_int_bool : TypeId := 142
abbrev T.t_func_i_Problem_i_Network_sl_sl_int_int_int_bool : TypeId := 143
abbrev T.t_func_sl_int_int_func_int_int_int : TypeId := 144
abbrev T.t_uint : TypeId := 145
abbrev T.t_func_sl_int : TypeId := 146
abbrev T.t_func_int_bool_1 : TypeId := 147
abbrev T.t_func_sl_i_End_sl_i_End_bool : TypeId := 148
abbrev T.t_func_sl_i_End_int_int : TypeId := 149
abbrev T.t_func_sl_sl_int_sl_sl_int_int_int_int_sl_sl_int : TypeId := 150
abbrev T.t_func_int_int_func_sl_int_bool_sl_sl_int : TypeId := 151
abbrev T.t_func_sl_int_bool : TypeId := 152
abbrev T.t_func_i_Network_sl_sl_int_bool : TypeId := 153
abbrev T.t_func_sl_sl_int_func_sl_int_bool_bool : TypeId := 154
abbrev T.t_func_sl_sl_int_sl_sl_int_sl_int_bool : TypeId := 155
abbrev T.t_func_i_Problem_sl_sl_int_bool_bool : TypeId := 156
abbrev T.t_func_sl_int_sl_int_sl_int : TypeId := 157
abbrev T.t_func_sl_sl_int_sl_int_sl_int_sl_int_bool : TypeId := 158
abbrev T.t_func_sl_sl_int_func_sl_int_bool_sl_int_bool : TypeId := 159
abbrev T.t_func_i_Network_sl_sl_int : TypeId := 160
abbrev T.t_func_sl_i_edge_func_i_edge_bool_int : TypeId := 161
abbrev T.t_func_sl_i_Problem_func_i_Problem_bool_bool : TypeId := 162
abbrev T.t_func_i_Problem_i_Problem : TypeId := 163
abbrev T.t_func_i_Problem_i_Problem_sl_int_bool_2 : TypeId := 164
abbrev T.t_func_i_Problem_sl_sl_int_bool_1 : TypeId := 165
abbrev T.t_func_sl_sl_int_sl_sl_int_func_sl_int_sl_int_bool_bool : TypeId := 166
abbrev T.t_sl_sl_i_Problem : TypeId := 167
abbrev T.t_func_sl_i_Problem_int_sl_i_Problem : TypeId := 168
abbrev T.t_func_sl_sl_int_int_int_bool : TypeId := 169
abbrev T.t_func_sl_sl_int_sl_int_bool_1 : TypeId := 170
abbrev T.t_func_i_Network_int_int_bool : TypeId := 171
abbrev T.t_func_l_End_i_End : TypeId := 172
abbrev T.t_l_End : TypeId := 173
abbrev T.t_func_sl_sl_int_int_bool : TypeId := 174
abbrev T.t_func_sl_int_int_int_func_int_int_int : TypeId := 175
abbrev T.t_func_sl_int_int_int_int_func_int_int_int : TypeId := 176
abbrev T.t_func_sl_int_iter_Seq_int_sl_int : TypeId := 177
abbrev T.t_func_sl_int_int_int_int : TypeId := 178
abbrev T.t_func_uint_int : TypeId := 179
abbrev T.t_func_i_End_i_End_bool : TypeId := 180
abbrev T.t_func_int_int_sl_sl_int : TypeId := 181
abbrev T.t_func_sl_sl_int_func_sl_int_bool_sl_sl_int : TypeId := 182
abbrev T.t_func_sl_sl_int_func_sl_int_bool_int : TypeId := 183
abbrev T.t_sl_bool : TypeId := 184
abbrev T.t_struct_p_i_Problem_good_sl_bool : TypeId := 185
abbrev T.t_s_elTable : TypeId := 186
abbrev T.t_func_i_Problem_s_elTable : TypeId := 187
abbrev T.t_func_i_Problem_sl_sl_int_bool_i_Problem_sl_int_bool : TypeId := 188
abbrev T.t_func_i_Problem_sl_int_sl_int_sl_int_bool : TypeId := 189
abbrev T.t_sl_int_sl_sl_int : TypeId := 190
abbrev T.t_func_sl_sl_int_sl_int_sl_sl_int : TypeId := 191
abbrev T.t_ptr_i_nodeSets : TypeId := 192
abbrev T.t_func_i_Problem_ptr_i_nodeSets : TypeId := 193
abbrev T.t_func_sl_sl_int : TypeId := 194
abbrev T.t_func_sl_i_Problem_func_i_Problem_bool_int : TypeId := 195
abbrev T.t_func_sl_sl_int_int_int_sl_bool : TypeId := 196
abbrev T.t_struct_p_i_Problem_q_i_Problem_nodes_sl_bool_edges_sl_bool : TypeId := 197
abbrev T.t_s_reFinder : TypeId := 198
abbrev T.t_func_sl_int_sl_int_bool_1 : TypeId := 199
abbrev T.t_func_sl_int_sl_int_sl_int_bool : TypeId := 200
abbrev T.t_func_i_Problem_sl_int_bool_1 : TypeId := 201
abbrev T.t_func_i_Problem_sl_int_sl_int_int_int_bool : TypeId := 202
abbrev T.t_ptr_i_renamer : TypeId := 203
abbrev T.t_struct_p_i_Problem_q_i_Problem_perm_sl_int : TypeId := 204
abbrev T.t_i_renamer : TypeId := 205
abbrev T.t_func_ptr_i_renamer_bool : TypeId := 206
abbrev T.t_func_i_Problem_sl_int_sl_int_sl_int_bool_1 : TypeId := 207
abbrev T.t_func_sl_int_func_int_bool_bool : TypeId := 208
abbrev T.t_func_sl_int_int_int_1 : TypeId := 209
abbrev T.t_slices_sortedHint : TypeId := 210
abbrev T.t_int_slices_sortedHint : TypeId := 211
abbrev T.t_func_sl_int_int_int_int_slices_sortedHint : TypeId := 212
abbrev T.t_func_sl_int_int_int_int_int : TypeId := 213
abbrev T.t_func_sl_int_int_int_int_int_bool : TypeId := 214
abbrev T.t_func_uint32_int : TypeId := 215
abbrev T.t_uint32 : TypeId := 216
abbrev T.t_func_uint64_int : TypeId := 217
abbrev T.t_uint64 : TypeId := 218
abbrev T.t_func_sl_int_int_sl_int : TypeId := 219
abbrev T.t_func_sl_sl_int_sl_int_sl_sl_int_1 : TypeId := 220
abbrev T.t_func_sl_sl_int_sl_int_int_sl_sl_int : TypeId := 221
abbrev T.t_func_i_Problem_sl_int_sl_int_bool : TypeId := 222
abbrev T.t_func_sl_int_sl_int_1 : TypeId := 223
abbrev T.t_func_sl_int_int_int_bool_1 : TypeId := 224
abbrev T.t_struct_p_i_Problem_after_sl_int : TypeId := 225
abbrev T.t_i_nodeSets : TypeId := 226
abbrev T.t_func_sl_int_int : TypeId := 227
abbrev T.t_func_sl_bool_sl_int_sl_int_sl_int_sl_int : TypeId := 228
abbrev T.t_func_int_int : TypeId := 229
abbrev T.t_func_sl_int_func_int_bool_int : TypeId := 230
abbrev T.t_slices_xorshift : TypeId := 231
abbrev T.t_func_int_uint : TypeId := 232
abbrev T.t_func_uint64 : TypeId := 233
abbrev T.t_func_sl_int_int_ptr_int_int : TypeId := 234
abbrev T.t_ptr_int : TypeId := 235
abbrev T.t_func_sl_int_int_int_int_ptr_int_int : TypeId := 236
abbrev T.t_func_sl_sl_int_func_sl_int_sl_int_int : TypeId := 237
abbrev T.t_func_sl_sl_int_func_sl_int_sl_int_bool_sl_sl_int : TypeId := 238
abbrev T.t_func_int_int_int_1 : TypeId := 239
abbrev T.t_func_sl_int_int_int_sl_int : TypeId := 240
abbrev T.t_ptr_slices_xorshift : TypeId := 241
abbrev T.t_func_sl_int_int_int_ptr_int_int_int : TypeId := 242
abbrev T.t_func_sl_sl_int_int_int_int_func_sl_int_sl_int_int : TypeId := 243
abbrev T.t_func_sl_sl_int_int_int_func_sl_int_sl_int_int : TypeId := 244
abbrev T.t_func_sl_sl_int_int_int_func_sl_int_sl_int_int_int_slices_sortedHint : TypeId := 245
abbrev T.t_func_sl_sl_int_int_int_func_sl_int_sl_int_int_bool : TypeId := 246
abbrev T.t_func_sl_sl_int_int_int_int_func_sl_int_sl_int_int_int : TypeId := 247
abbrev T.t_func_sl_sl_int_int_int_int_func_sl_int_sl_int_int_int_bool : TypeId := 248
abbrev T.t_func_sl_sl_int_int_ptr_int_func_sl_int_sl_int_int_int : TypeId := 249
abbrev T.t_func_sl_sl_int_int_int_int_ptr_int_func_sl_int_sl_int_int_int : TypeId := 250
abbrev T.t_func_sl_sl_int_int_int_ptr_int_func_sl_int_sl_int_int_int_int : TypeId := 251
abbrev T.t_func_string : TypeId := 252
abbrev T.t_struct__interface_ptr_abi_Type_concrete_ptr_abi_Type_asserted_ptr_abi_Type_missingMethod_string : TypeId := 253
abbrev T.t_runtime_TypeAssertionError : TypeId := 254
abbrev T.t_0_ptr_runtime_PanicNilError : TypeId := 255
abbrev T.t_struct___0_ptr_runtime_PanicNilError : TypeId := 256
abbrev T.t_runtime_PanicNilError : TypeId := 257
abbrev T.t_func_int : TypeId := 258
abbrev T.t_abi_TFlag : TypeId := 259
abbrev T.t_abi_Kind : TypeId := 260
abbrev T.t_func_unsafe_Pointer_unsafe_Pointer_bool : TypeId := 261
abbrev T.t_ptr_uint8 : TypeId := 262
abbrev T.t_abi_NameOff : TypeId := 263
abbrev T.t_abi_TypeOff : TypeId := 264
abbrev T.t_struct_Size__uintptr_PtrBytes_uintptr_Hash_uint32_TFlag_abi_TFlag_Align__uint8_FieldAlign__uint8_Kind__abi_Kind_Equal_func_unsafe_Pointer_unsafe_Pointer_bool_GCData_ptr_uint8_Str_abi_NameOff_PtrToThis_abi_TypeOff : TypeId := 265
abbrev T.t_abi_Type : TypeId := 266
abbrev T.t_unsafe_Pointer : TypeId := 267
def hints0 : List (List Sh) := [
  [],
  [.at .val],
  [.at (.int .i64)],
  [.at (.int .i64)],
  [.at .bool],
  [.at (.int .u8)],
  [.at (.int .u8)],
  [.agg [.int .i64, .int .i64, .bool, .int .u8]],
  [.agg [.int .i64, .int .i64, .bool, .int .u8]],
  [.at .str],
  [.at .str],
  [.at .str],
  [.at (.int .u64)],
  [.agg [.str, .int .u64]],
  [.agg [.str, .int .u64]],
  [.at .ptr]]
def hints1 : List (List Sh) := [
  [.at .ptr],
  [.at .ptr],
  [.agg [.ptr]],
  [.agg [.ptr]],
  [.at .val],
  [.at (.int .i32)],
  [.at .sl],
  [.agg [.int .i64, .int .i64, .sl, .sl]],
  [.agg [.int .i64, .int .i64, .sl, .sl]],
  [.at .sl],
  [.at .sl],
  [.agg [.sl, .sl, .sl]],
  [.agg [.sl, .sl, .sl]],
  [.at .val],
  [.at .val],
  [.at .val]]
def hints2 : List (List Sh) := [
  [.at .sl, .at .bool],
  [.at .val],
  [.agg [.int .i64, .int .i64, .sl, .sl]],
  [.at .val],
  [.at .val],
  [.at .sl],
  [.agg [.sl, .sl, .sl]],
  [.agg [.sl, .sl, .sl]],
  [.at .val],
  [.at .val],
  [.at .val],
  [.at .val],
  [.at .val],
  [.at .val],
  [.at .val],
  [.at .sl, .at .sl, .at .bool]]
def hints3 : List (List Sh) := [
  [.at .val],
  [.at .val],
  [.at .bool, .at .bool],
  [.at .val],
  [.at .val],
  [.at .val],
  [.at .val],
  [.at .val],
  [.at .val],
  [.at .sl],
  [.agg [.sl, .sl, .sl]],
  [.agg [.sl, .sl, .sl]],
  [.at .val],
  [.at .val],
  [.at .sl],
  [.agg [.sl, .sl, .sl]]]
def hints4 : List (List Sh) := [
  [.agg [.sl, .sl, .sl]],
  [.at .val],
  [.at .val],
  [.at .val],
  [.at (.int .i64), .at .bool],
  [.at .val],
  [.agg [.sl, .sl, .sl], .at .bool],
  [.at .val],
  [.at .val],
  [.at .val],
  [.at .val],
  [.at .val],
  [.at .val],
  [.at .val],
  [.at .val],
  [.at .val]]
def hints5 : List (List Sh) := [
  [.at .val],
  [.at .val],
  [.at .val],
  [.at .val],
  [.at .val],
  [.at .val],
  [.at .val],
  [.at .val],
  [.at .val],
  [.at .val],
  [.at .val],
  [.at .val],
  [.at .val],
  [.at .val],
  [.at .val],
  [.at .val]]
def hints6 : List (List Sh) := [
  [.agg [.int .i64, .int .i64, .sl, .sl], .at .bool],
  [.at .val],
  [.at .sl, .at .sl],
  [.at .val],
  [.agg [.int .i64, .int .i64, .sl, .sl], .at .sl, .at .sl, .at .bool],
  [.at .val],
  [.at .val],
  [.at .val],
  [.agg [.int .i64, .int .i64, .sl, .sl], .at .sl, .at .bool],
  [.at .val],
  [.at .val],
  [.at .val],
  [.at .val],
  [.at .val],
  [.at .sl],
  [.agg [.int .i64, .int .i64, .int .i64, .int .i64]]]
def hints7 : List (List Sh) := [
  [.agg [.int .i64, .int .i64, .int .i64, .int .i64]],
  [.at .val],
  [.at .val],
  [.at .val],
  [.at .sl, .at .bool],
  [.at .val],
  [.at .val],
  [.at .val],
  [.at .val],
  [.at .val],
  [.at .val],
  [.at .val],
  [.at .val],
  [.at .val],
  [.at .val],
  [.at .val]]
def hints8 : List (List Sh) := [
  [.at .val],
  [.at .sl],
  [.at .val],
  [.at .val],
  [.at .val],
  [.at (.int .i64), .at (.int .i64)],
  [.at .val],
  [.at .sl],
  [.at .val],
  [.at .val],
  [.at .val],
  [.at .val],
  [.agg [.int .i64, .int .i64]],
  [.agg [.int .i64, .int .i64]],
  [.at (.int .i64), .at (.int .i64), .at .bool],
  [.at .val]]
def hints9 : List (List Sh) := [
  [.at .val],
  [.at (.int .u64)],
  [.at .val],
  [.at .val],
  [.at .val],
  [.at .val],
  [.at .val],
  [.at .val],
  [.at .val],
  [.at .val],
  [.at .val],
  [.at .val],
  [.at .val],
  [.at .val],
  [.at .val],
  [.at .val]]
def hints10 : List (List Sh) := [
  [.at .val],
  [.at .val],
  [.at .val],
  [.at .val],
  [.at .val],
  [.at .val],
  [.at .val],
  [.at .sl],
  [.at .val],
  [.at .val],
  [.at .val],
  [.at .val],
  [.at .val],
  [.agg [.int .i64, .int .i64]],
  [.at .val],
  [.at .val]]
def hints11 : List (List Sh) := [
  [.at .val],
  [.at .val],
  [.at .val],
  [.at .val],
  [.at .val],
  [.at .val],
  [.at .val],
  [.at .val],
  [.at .sl],
  [.agg [.int .i64, .int .i64, .sl, .sl, .sl]],
  [.agg [.int .i64, .int .i64, .sl, .sl, .sl]],
  [.at .val],
  [.at .val],
  [.at .val],
  [.at .sl, .at .sl],
  [.at .val]]
def hints12 : List (List Sh) := [
  [.at .ptr],
  [.at .val],
  [.at .val],
  [.at .val],
  [.at .val],
  [.agg [.int .i64, .int .i64, .sl, .sl, .int .i64, .int .i64, .sl, .sl, .sl, .sl]],
  [.agg [.int .i64, .int .i64, .sl, .sl, .int .i64, .int .i64, .sl, .sl, .sl, .sl]],
  [.at .val],
  [.at .val],
  [.at .val],
  [.at .val],
  [.at .ptr],
  [.agg [.int .i64, .int .i64, .sl, .sl, .int .i64, .int .i64, .sl, .sl, .sl]],
  [.agg [.int .i64, .int .i64, .sl, .sl, .int .i64, .int .i64, .sl, .sl, .sl]],
  [.at .val],
  [.at .val]]
def hints13 : List (List Sh) := [
  [.at .val],
  [.at .val],
  [.at (.int .i64)],
  [.at (.int .i64), .at (.int .i64)],
  [.at .val],
  [.at .val],
  [.at .val],
  [.at .val],
  [.at (.int .u32)],
  [.at .val],
  [.at (.int .u64)],
  [.at .val],
  [.at .val],
  [.at .val],
  [.at .val],
  [.at .val]]
def hints14 : List (List Sh) := [
  [.at .val],
  [.agg [.int .i64, .int .i64, .sl, .sl, .sl]],
  [.agg [.int .i64, .int .i64, .sl, .sl, .sl]],
  [.at .val],
  [.at .val],
  [.at .val],
  [.at .val],
  [.at (.int .u64)],
  [.at .val],
  [.at .val],
  [.at .val],
  [.at .ptr],
  [.at .val],
  [.at .val],
  [.at .val],
  [.at .val]]
def hints15 : List (List Sh) := [
  [.at .val],
  [.at .ptr],
  [.at .val],
  [.at .val],
  [.at .val],
  [.at .val],
  [.at .val],
  [.at .val],
  [.at .val],
  [.at .val],
  [.at .val],
  [.at .val],
  [.at .val],
  [.agg [.ptr, .ptr, .ptr, .str]],
  [.agg [.ptr, .ptr, .ptr, .str]],
  [.agg []]]
def hints16 : List (List Sh) := [
  [.agg []],
  [.agg []],
  [.at .val],
  [.at (.int .u8)],
  [.at (.int .u8)],
  [.at .val],
  [.at .ptr],
  [.at (.int .i32)],
  [.at (.int .i32)],
  [.agg [.int .u64, .int .u64, .int .u32, .int .u8, .int .u8, .int .u8, .int .u8, .val, .ptr, .int .i32, .int .i32]],
  [.agg [.int .u64, .int .u64, .int .u32, .int .u8, .int .u8, .int .u8, .int .u8, .val, .ptr, .int .i32, .int .i32]],
  [.at .ptr]]
def hint : Hint := hintOf [hints0, hints1, hints2, hints3, hints4, hints5, hints6, hints7, hints8, hints9, hints10, hints11, hints12, hints13, hints14, hints15, hints16]
end Go.Proofs.YtlmiookpmneicaaGreat
end

section
/- What the code of the comparison of integers computes to. Printed by a program. -/
namespace Go.Proofs.YtlmiookpmneicaaGreat
open Go.GX Go.RowKit
set_option linter.unusedVariables false
set_option maxRecDepth 100000

def V_cmp_Compare_int (Q : Int → World → Prop) (x : Int) (y : Int) (w : World) : Prop :=
  Calls Tryz.prog F.cmp_isNaN_int #[.int .i64 x] w (Ret [.at .bool] fun (x8 : Bool) w1 =>
  Calls Tryz.prog F.cmp_isNaN_int #[.int .i64 y] w1 (Ret [.at .bool] fun (x10 : Bool) w2 =>
  cond x8 (
  cond x10 (
  Q 0 w2) (
  Q (-1) w2)) (
  cond x10 (
  Q 1 w2) (
  cond (decide ((x : Int) < y)) (
  Q (-1) w2) (
  cond (decide ((x : Int) > y)) (
  Q 1 w2) (
  Q 0 w2))))))

theorem C_cmp_Compare_int {Q : Int → World → Prop} {x : Int} {y : Int} {w : World} (h : V_cmp_Compare_int Q x y w) : Calls Tryz.prog F.cmp_Compare_int #[.int .i64 x, .int .i64 y] w (Ret [.at (.int .i64)] Q) :=
  mkC (hint := hint) (ann := annOf []) (args := [.int .i64 x, .int .i64 y]) (rs := [.at (.int .i64)]) Tryz.func142 (by kernel_rfl) (by kernel_rfl) h

def V_cmp_isNaN_int (Q : Bool → World → Prop) (x : Int) (w : World) : Prop :=
  Q ((x : Int) != x) w

theorem C_cmp_isNaN_int {Q : Bool → World → Prop} {x : Int} {w : World} (h : V_cmp_isNaN_int Q x w) : Calls Tryz.prog F.cmp_isNaN_int #[.int .i64 x] w (Ret [.at .bool] Q) :=
  mkC (hint := hint) (ann := annOf []) (args := [.int .i64 x]) (rs := [.at .bool]) Tryz.func204 (by kernel_rfl) (by kernel_rfl) h

def V_cmp_Less_int (Q : Bool → World → Prop) (x : Int) (y : Int) (w : World) : Prop :=
  Calls Tryz.prog F.cmp_isNaN_int #[.int .i64 x] w (Ret [.at .bool] fun (x6 : Bool) w1 =>
  cond x6 (
  Calls Tryz.prog F.cmp_isNaN_int #[.int .i64 y] w1 (Ret [.at .bool] fun (x9 : Bool) w2 =>
  cond (!x9) (
  Q true w2) (
  Q (decide ((x : Int) < y)) w2))) (
  Q (decide ((x : Int) < y)) w1))

theorem C_cmp_Less_int {Q : Bool → World → Prop} {x : Int} {y : Int} {w : World} (h : V_cmp_Less_int Q x y w) : Calls Tryz.prog F.cmp_Less_int #[.int .i64 x, .int .i64 y] w (Ret [.at .bool] Q) :=
  mkC (hint := hint) (ann := annOf []) (args := [.int .i64 x, .int .i64 y]) (rs := [.at .bool]) Tryz.func248 (by kernel_rfl) (by kernel_rfl) h

end Go.Proofs.YtlmiookpmneicaaGreat
end

section
/- slices.Values at []int: its closure calls yield for each element; turned from the kit's worked text on the library's two iterators over a slice. -/
namespace Go.Proofs.YtlmiookpmneicaaGreat
open Go Go.RowKit Go.Shelf Go.Proofs

attribute [local go_sem] Oper.semAt_some

/-- What has come when k rounds are over. -/
def upto {α : Type} (f : Nat → α) (k : Nat) : List α := (List.range k).map f
theorem upto_succ {α : Type} (f : Nat → α) (k : Nat) : upto f (k + 1) = upto f k ++ [f k] := by simp [upto, List.range_succ]
theorem upto_length {α : Type} (f : Nat → α) (k : Nat) : (upto f k).length = k := by simp [upto]
theorem upto_all (zs : List Int) : upto (fun j => zs[j]?.getD 0) zs.length = zs := by
  apply List.ext_getElem
  · simp [upto]
  · intro i h1 h2
    simp [upto, h2]
theorem upto_take (zs : List Int) {k : Nat} (hk : k ≤ zs.length) : upto (fun j => zs[j]?.getD 0) k = zs.take k := by
  apply List.ext_getElem
  · simp [upto, hk]
  · intro i h1 h2
    have : i < zs.length := by simp [upto] at h1; omega
    simp [upto, this]

theorem add_block (ad : Addr) (k : Nat) : (ad.add k).block = ad.block := by unfold Addr.add; split <;> rfl

set_option maxRecDepth 100000 in
set_option maxHeartbeats 2000000 in
theorem values1_in (Fe : Fence) (n : Nat) (h7 : Fe.fn 141) (hro : Fe.round = none) (hn : 1 ≤ n) (l Bs n₀ len cap : Nat) (ad : Addr) (zs : List Int) (hreach : len * 8 ≤ 140737488351232) (hb : 0 < len → ad.block < n₀) (J Jx : List Int → World → Prop)
    (hY : ∀ pre x W, J pre W → pre.length < len → YieldAt Fe (n - 1) Tryz.prog l #[.int .i64 x] W fun e W' =>
      (e = .returned (.bool true) ∧ J (pre ++ [x]) W' ∧ Below n₀ W W') ∨ (e = .returned (.bool false) ∧ Jx (pre ++ [x]) W'))
    (W : World) (hBs : W.cell? ⟨Bs, 0, none⟩ = some (.slice (some ad) len cap)) (hc : ∀ j, j < len → W.cell? (ad.add j) = some (.int .i64 (zs[j]?.getD 0))) (h0 : J [] W) :
    CallsIn Fe n Tryz.prog 141 #[.func (.yield l) #[] #[], .pointer (some ⟨Bs, 0, none⟩)] W fun e W' => (∃ v, e = .returned v) ∧
      ((∃ ys, ys = upto (fun j => zs[j]?.getD 0) len ∧ J ys W') ∨ (∃ pre, (∃ k, k ≤ len ∧ pre = upto (fun j => zs[j]?.getD 0) k) ∧ Jx pre W')) := by
  refine callsIn_of_wp Tryz.func141 rfl h7 ?_ hro
  simp only [Tryz.ntmps141, List.size_toArray, List.length_cons, List.length_nil, Nat.reduceAdd, Nat.reduceSub, Array.replicate_succ, Array.replicate_zero, List.push_toArray, List.append_toArray, List.nil_append, List.cons_append]
  gi_wp2
  gi_loopw [7] (fun i wr => ∃ k : Nat, k ≤ len ∧ i = .int .i64 k ∧ J (upto (fun j => zs[j]?.getD 0) k) wr ∧ Below n₀ W wr)
    (fun i _ => len - (intOf i).toNat)
  case atStart => exact ⟨0, Nat.zero_le _, rfl, h0, Below.refl _ _⟩
  case round =>
    obtain ⟨k, hk, rfl, hJs, hnx⟩ := hrel
    have hcx : k < len → wr.cell? (ad.add k) = some (.int .i64 (zs[k]?.getD 0)) := fun h => (hnx.cell (p := ad.add k) (by rw [add_block]; exact hb (by omega))).trans (hc k h)
    by_cases hlt : k < len
    · obtain ⟨fn, tmps, assign, body, hy, hR⟩ := hY _ (zs[k]?.getD 0) wr hJs (by rw [upto_length]; exact hlt)
      have hcx' := hcx hlt
      gi_wp2
      refine hR.mono ?_
      rintro e W3 (⟨rfl, hJ3, hk3⟩ | ⟨rfl, hJx3⟩)
      · gi_wp2
        go_roundw
        case rel => exact ⟨k + 1, by omega, by simp, by rw [upto_succ]; exact hJ3, hnx.trans hk3⟩
        case measure => simp [intOf]; omega
      · gi_wp2
        refine bodyPost_ret (results_none rfl _ _ _) rfl ?_
        exact ⟨⟨_, rfl⟩, .inr ⟨_, ⟨k + 1, by omega, (upto_succ _ _).symm⟩, hJx3⟩⟩
    · obtain rfl : k = len := by omega
      gi_wp2
      go_end0
      exact ⟨⟨_, rfl⟩, .inl ⟨_, rfl, hJs⟩⟩

/-- The slice value sv holds the ints zs, in a block below n₀; or it is nil and there are none. -/
def IntsIn (n₀ : Nat) (W : World) (sv : Value) (zs : List Int) : Prop :=
  (∃ cap, sv = .slice none 0 cap ∧ zs = []) ∨ ∃ ad cap, sv = .slice (some ad) zs.length cap ∧ (0 < zs.length → ad.block < n₀) ∧ ∀ j, j < zs.length → W.cell? (ad.add j) = some (.int .i64 (zs[j]?.getD 0))
theorem IntsIn.below {n₀ : Nat} {A B : World} (h : Below n₀ A B) {sv : Value} {zs : List Int} : IntsIn n₀ A sv zs → IntsIn n₀ B sv zs
  | .inl e => .inl e
  | .inr ⟨ad, cap, e, hb, hc⟩ => .inr ⟨ad, cap, e, hb, fun j hj => (h.cell (p := ad.add j) (by rw [add_block]; exact hb (by omega))).trans (hc j hj)⟩

set_option maxRecDepth 100000 in
set_option maxHeartbeats 1000000 in
theorem values1_nil_in (Fe : Fence) (n : Nat) (h7 : Fe.fn 141) (hro : Fe.round = none) (l Bs cap : Nat) (J : List Int → World → Prop) (W : World) (hBs : W.cell? ⟨Bs, 0, none⟩ = some (.slice none 0 cap)) (h0 : J [] W) :
    CallsIn Fe n Tryz.prog 141 #[.func (.yield l) #[] #[], .pointer (some ⟨Bs, 0, none⟩)] W fun e W' => (∃ v, e = .returned v) ∧ J [] W' := by
  refine callsIn_of_wp Tryz.func141 rfl h7 ?_ hro
  simp only [Tryz.ntmps141, List.size_toArray, List.length_cons, List.length_nil, Nat.reduceAdd, Nat.reduceSub, Array.replicate_succ, Array.replicate_zero, List.push_toArray, List.append_toArray, List.nil_append, List.cons_append]
  gi_wp2
  gi_loopw [7] (fun i wr => i = .int .i64 0 ∧ J [] wr) (fun _ _ => 0)
  case atStart => exact ⟨rfl, h0⟩
  case round =>
    obtain ⟨rfl, hJs⟩ := hrel
    gi_wp2
    go_end0
    exact ⟨⟨_, rfl⟩, hJs⟩

theorem values_stops (Fe : Fence) (n : Nat) (h7 : Fe.fn 141) (hro : Fe.round = none) (hn : 1 ≤ n) (Bs n₀ : Nat) (sv : Value) (zs : List Int) (hreach : zs.length * 8 ≤ 140737488351232) (w : World) (hBs : Bs < w.heap.size) (hn₀ : n₀ ≤ w.heap.size)
    (hc : w.cell? ⟨Bs, 0, none⟩ = some sv) (hI : IntsIn n₀ w sv zs) :
    SeqStopsK Fe n Tryz.prog 141 #[.pointer (some ⟨Bs, 0, none⟩)] (fun x : Int => #[Value.int .i64 x]) (Below n₀) (fun ys => ys = zs) (fun pre => pre <+: zs) zs.length w := fun l J Jx W hW _ _ hY h0 => by
  have hc' := (hW.cell (p := ⟨Bs, 0, none⟩) hBs).trans hc
  rcases hI.below (hW.mono hn₀) with ⟨cap, rfl, rfl⟩ | ⟨ad, cap, rfl, hb, hcs⟩
  · exact (values1_nil_in Fe n h7 hro l Bs cap J W hc' h0).mono fun e W' ⟨he, hj⟩ => ⟨he, .inl ⟨_, rfl, hj⟩⟩
  · refine (values1_in Fe n h7 hro hn l Bs n₀ zs.length cap ad zs hreach hb J Jx hY W hc' hcs h0).mono ?_
    rintro e W' ⟨he, ⟨ys, rfl, hj⟩ | ⟨pre, ⟨k, hk, rfl⟩, hj⟩⟩
    · exact ⟨he, .inl ⟨_, upto_all zs, hj⟩⟩
    · exact ⟨he, .inr ⟨_, by rw [upto_take zs hk]; exact List.take_prefix _ _, hj⟩⟩

end Go.Proofs.YtlmiookpmneicaaGreat
end

section
/- What each function's code computes to. Printed by a program. -/
namespace Go.Proofs.YtlmiookpmneicaaGreat
open Go.GX Go.RowKit
set_option linter.unusedVariables false
set_option maxRecDepth 100000

def V_l_FnExactPullEdgeStep_k9 (x2 : Sl) (Q : Bool → World → Prop) (px3 : Addr) (px4 : Addr) (x42_0 : Sl) (x42_1 : Bool) (x55_0 : Sl) (w33 : World) : Prop :=
  Calls Tryz.prog F.l_markIntSS #[x55_0.v, .int .i64 1] w33 (Ret [.at (.int .i64)] fun (x106 : Int) w34 =>
  Calls Tryz.prog F.l_heldIntSS #[x55_0.v, .int .i64 1] w34 (Ret [.at (.int .i64)] fun (x109 : Int) w35 =>
  cond (decide ((x109 : Int) < 0)) (
  Q false w35) (
  cond ((x109 : Int) != x106) (
  Q false w35) (
  ∀ w36, Ext w35 w36 → w36.heap = w35.heap →
  LD [.int .i64, .int .i64, .sl, .sl] px3 w36 fun (x116_0 : Int) (x116_1 : Int) (x116_2 : Sl) (x116_3 : Sl) =>
  LD [.sl, .sl, .sl] px4 w36 fun (x118_0 : Sl) (x118_1 : Sl) (x118_2 : Sl) =>
  Calls Tryz.prog F.l_toProblem #[.agg #[.int .i64 x116_0, .int .i64 x116_1, x116_2.v, x116_3.v]] w36 (Ret [.agg [.int .i64, .int .i64, .sl, .sl]] fun (x117_0 : Int) (x117_1 : Int) (x117_2 : Sl) (x117_3 : Sl) w37 =>
  Ext w36 w37 ∧ (
  Calls Tryz.prog F.l_toNetwork #[.agg #[x118_0.v, x118_1.v, x118_2.v]] w37 (Ret [.agg [.sl, .sl, .sl]] fun (x119_0 : Sl) (x119_1 : Sl) (x119_2 : Sl) w38 =>
  Ext w36 w38 ∧ (
  Calls Tryz.prog F.l_toIntSS #[x2.v] w38 (Ret [.at .sl] fun (x121 : Sl) w39 =>
  Ext w36 w39 ∧ (
  Calls Tryz.prog F.i_PullEdgeStep #[.agg #[.int .i64 x117_0, .int .i64 x117_1, x117_2.v, x117_3.v], .agg #[x119_0.v, x119_1.v, x119_2.v], x121.v] w39 (Ret [.at .sl, .at .bool] fun (x122_0 : Sl) (x122_1 : Bool) w40 =>
  Ext w36 w40 ∧ (
  Ext w36 w40 ∧ (
  Ext w36 w40 ∧ (
  Calls Tryz.prog F.l_eqIntSS #[x122_0.v, x42_0.v] w40 (Ret [.at .bool] fun (x127 : Bool) w41 =>
  cond (!x127) (
  Q false w41) (
  cond (!(x122_1 == x42_1)) (
  Q false w41) (
  Calls Tryz.prog F.l_heldIntSS #[x55_0.v, .int .i64 1] w41 (Ret [.at (.int .i64)] fun (x136_2 : Int) w43 =>
  cond (decide ((x136_2 : Int) < 0)) (
  Q false w43) (
  cond ((x136_2 : Int) != x106) (
  Q false w43) (
  Q true w43))))))))))))))))))))

def V_l_FnExactPullEdgeStep_k4 (x2 : Sl) (Q : Bool → World → Prop) (px3 : Addr) (px4 : Addr) (x42_0 : Sl) (x42_1 : Bool) (px10 : Addr) (px11 : Addr) (x50 : Sl) (x55_0 : Sl) (x55_1 : Bool) (w20 : World) : Prop :=
  ∀ w21, Ext w20 w21 → w21.heap = w20.heap →
  LD [.int .i64, .int .i64, .sl, .sl] px10 w21 fun (x67_0 : Int) (x67_1 : Int) (x67_2 : Sl) (x67_3 : Sl) =>
  LD [.int .i64, .int .i64, .sl, .sl] px3 w21 fun (x68_0 : Int) (x68_1 : Int) (x68_2 : Sl) (x68_3 : Sl) =>
  Ext w21 w21 ∧ (
  Calls Tryz.prog F.l_toProblem #[.agg #[.int .i64 x68_0, .int .i64 x68_1, x68_2.v, x68_3.v]] w21 (Ret [.agg [.int .i64, .int .i64, .sl, .sl]] fun (x69_0 : Int) (x69_1 : Int) (x69_2 : Sl) (x69_3 : Sl) w22 =>
  Ext w21 w22 ∧ (
  Calls Tryz.prog F.l_eqProblem #[.agg #[.int .i64 x67_0, .int .i64 x67_1, x67_2.v, x67_3.v], .agg #[.int .i64 x69_0, .int .i64 x69_1, x69_2.v, x69_3.v]] w22 (Ret [.at .bool] fun (x70 : Bool) w23 =>
  Ext w21 w23 ∧ (
  cond (!x70) (
  Q false w23) (
  ∀ w24, Ext w23 w24 → w24.heap = w23.heap →
  LD [.sl, .sl, .sl] px11 w24 fun (x72_0 : Sl) (x72_1 : Sl) (x72_2 : Sl) =>
  LD [.sl, .sl, .sl] px4 w24 fun (x73_0 : Sl) (x73_1 : Sl) (x73_2 : Sl) =>
  Ext w24 w24 ∧ (
  Calls Tryz.prog F.l_toNetwork #[.agg #[x73_0.v, x73_1.v, x73_2.v]] w24 (Ret [.agg [.sl, .sl, .sl]] fun (x74_0 : Sl) (x74_1 : Sl) (x74_2 : Sl) w25 =>
  Ext w24 w25 ∧ (
  Calls Tryz.prog F.l_eqNetwork #[.agg #[x72_0.v, x72_1.v, x72_2.v], .agg #[x74_0.v, x74_1.v, x74_2.v]] w25 (Ret [.at .bool] fun (x75 : Bool) w26 =>
  Ext w24 w26 ∧ (
  cond (!x75) (
  Q false w26) (
  Calls Tryz.prog F.l_toIntSS #[x2.v] w26 (Ret [.at .sl] fun (x79 : Sl) w27 =>
  Calls Tryz.prog F.l_eqIntSS #[x50.v, x79.v] w27 (Ret [.at .bool] fun (x80 : Bool) w28 =>
  cond (!x80) (
  Q false w28) (
  LD [.int .i64, .int .i64, .sl, .sl] px10 w28 fun (x82_0 : Int) (x82_1 : Int) (x82_2 : Sl) (x82_3 : Sl) =>
  Calls Tryz.prog F.l_markProblem #[.agg #[.int .i64 x82_0, .int .i64 x82_1, x82_2.v, x82_3.v], .int .i64 1] w28 (Ret [.at (.int .i64)] fun (x84 : Int) w29 =>
  LD [.sl, .sl, .sl] px11 w29 fun (x85_0 : Sl) (x85_1 : Sl) (x85_2 : Sl) =>
  Calls Tryz.prog F.l_markNetwork #[.agg #[x85_0.v, x85_1.v, x85_2.v], .int .i64 x84] w29 (Ret [.at (.int .i64)] fun (x87 : Int) w30 =>
  Calls Tryz.prog F.l_markIntSS #[x50.v, .int .i64 x87] w30 (Ret [.at (.int .i64)] fun (x90 : Int) w31 =>
  cond (decide ((x90 : Int) < 0)) (
  Q false w31) (
  Calls Tryz.prog F.l_eqIntSS #[x55_0.v, x42_0.v] w31 (Ret [.at .bool] fun (x96 : Bool) w32 =>
  cond (!x96) (
  Q false w32) (
  cond (!(x55_1 == x42_1)) (
  Q false w32) (
  V_l_FnExactPullEdgeStep_k9 x2 Q px3 px4 x42_0 x42_1 x55_0 w32))))))))))))))))))))))

def V_l_FnExactPullEdgeStep (Q : Bool → World → Prop) (x0_0 : Int) (x0_1 : Int) (x0_2 : Sl) (x0_3 : Sl) (x1_0 : Sl) (x1_1 : Sl) (x1_2 : Sl) (x2 : Sl) (w : World) : Prop :=
  NEW T.t_l_Problem #[.int .i64 x0_0, .int .i64 x0_1, x0_2.v, x0_3.v] w fun (px3 : Addr) w1 =>
  NEW T.t_l_Network #[x1_0.v, x1_1.v, x1_2.v] w1 fun (px4 : Addr) w2 =>
  LD [.int .i64, .int .i64, .sl, .sl] px3 w2 fun (x20_0 : Int) (x20_1 : Int) (x20_2 : Sl) (x20_3 : Sl) =>
  Calls Tryz.prog F.l_szProblem #[.agg #[.int .i64 x20_0, .int .i64 x20_1, x20_2.v, x20_3.v], .int .i64 1048576] w2 (Ret [.at (.int .i64)] fun (x22 : Int) w3 =>
  cond (decide ((x22 : Int) < 0)) (
  Q true w3) (
  LD [.sl, .sl, .sl] px4 w3 fun (x25_0 : Sl) (x25_1 : Sl) (x25_2 : Sl) =>
  Calls Tryz.prog F.l_szNetwork #[.agg #[x25_0.v, x25_1.v, x25_2.v], .int .i64 x22] w3 (Ret [.at (.int .i64)] fun (x27 : Int) w4 =>
  cond (decide ((x27 : Int) < 0)) (
  Q true w4) (
  Calls Tryz.prog F.l_szIntSS #[x2.v, .int .i64 x27] w4 (Ret [.at (.int .i64)] fun (x32 : Int) w5 =>
  cond (decide ((x32 : Int) < 0)) (
  Q true w5) (
  ∀ w6, Ext w5 w6 → w6.heap = w5.heap →
  LD [.int .i64, .int .i64, .sl, .sl] px3 w6 fun (x36_0 : Int) (x36_1 : Int) (x36_2 : Sl) (x36_3 : Sl) =>
  LD [.sl, .sl, .sl] px4 w6 fun (x38_0 : Sl) (x38_1 : Sl) (x38_2 : Sl) =>
  Calls Tryz.prog F.l_toProblem #[.agg #[.int .i64 x36_0, .int .i64 x36_1, x36_2.v, x36_3.v]] w6 (Ret [.agg [.int .i64, .int .i64, .sl, .sl]] fun (x37_0 : Int) (x37_1 : Int) (x37_2 : Sl) (x37_3 : Sl) w7 =>
  Ext w6 w7 ∧ (
  Calls Tryz.prog F.l_toNetwork #[.agg #[x38_0.v, x38_1.v, x38_2.v]] w7 (Ret [.agg [.sl, .sl, .sl]] fun (x39_0 : Sl) (x39_1 : Sl) (x39_2 : Sl) w8 =>
  Ext w6 w8 ∧ (
  Calls Tryz.prog F.l_toIntSS #[x2.v] w8 (Ret [.at .sl] fun (x41 : Sl) w9 =>
  Ext w6 w9 ∧ (
  Calls Tryz.prog F.s_PullEdgeStep #[.agg #[.int .i64 x37_0, .int .i64 x37_1, x37_2.v, x37_3.v], .agg #[x39_0.v, x39_1.v, x39_2.v], x41.v] w9 (Ret [.at .sl, .at .bool] fun (x42_0 : Sl) (x42_1 : Bool) w10 =>
  Ext w6 w10 ∧ (
  Ext w6 w10 ∧ (
  Ext w6 w10 ∧ (
  LD [.int .i64, .int .i64, .sl, .sl] px3 w10 fun (x45_0 : Int) (x45_1 : Int) (x45_2 : Sl) (x45_3 : Sl) =>
  Calls Tryz.prog F.l_toProblem #[.agg #[.int .i64 x45_0, .int .i64 x45_1, x45_2.v, x45_3.v]] w10 (Ret [.agg [.int .i64, .int .i64, .sl, .sl]] fun (x46_0 : Int) (x46_1 : Int) (x46_2 : Sl) (x46_3 : Sl) w11 =>
  NEW T.t_i_Problem #[.int .i64 0, .int .i64 0, .slice none 0 0, .slice none 0 0] w11 fun (px10 : Addr) w12 =>
  ST px10 0 [.int .i64 x46_0, .int .i64 x46_1, x46_2.v, x46_3.v] w12 fun w13 =>
  LD [.sl, .sl, .sl] px4 w13 fun (x47_0 : Sl) (x47_1 : Sl) (x47_2 : Sl) =>
  Calls Tryz.prog F.l_toNetwork #[.agg #[x47_0.v, x47_1.v, x47_2.v]] w13 (Ret [.agg [.sl, .sl, .sl]] fun (x48_0 : Sl) (x48_1 : Sl) (x48_2 : Sl) w14 =>
  NEW T.t_i_Network #[.slice none 0 0, .slice none 0 0, .slice none 0 0] w14 fun (px11 : Addr) w15 =>
  ST px11 0 [x48_0.v, x48_1.v, x48_2.v] w15 fun w16 =>
  Calls Tryz.prog F.l_toIntSS #[x2.v] w16 (Ret [.at .sl] fun (x50 : Sl) w17 =>
  LD [.int .i64, .int .i64, .sl, .sl] px10 w17 fun (x52_0 : Int) (x52_1 : Int) (x52_2 : Sl) (x52_3 : Sl) =>
  LD [.sl, .sl, .sl] px11 w17 fun (x53_0 : Sl) (x53_1 : Sl) (x53_2 : Sl) =>
  Calls Tryz.prog F.i_PullEdgeStep #[.agg #[.int .i64 x52_0, .int .i64 x52_1, x52_2.v, x52_3.v], .agg #[x53_0.v, x53_1.v, x53_2.v], x50.v] w17 (Ret [.at .sl, .at .bool] fun (x55_0 : Sl) (x55_1 : Bool) w18 =>
  Calls Tryz.prog F.l_eqIntSS #[x55_0.v, x42_0.v] w18 (Ret [.at .bool] fun (x60 : Bool) w19 =>
  cond (!x60) (
  Q false w19) (
  cond (!(x55_1 == x42_1)) (
  Q false w19) (
  V_l_FnExactPullEdgeStep_k4 x2 Q px3 px4 x42_0 x42_1 px10 px11 x50 x55_0 x55_1 w19)))))))))))))))))))))))

theorem C_l_FnExactPullEdgeStep {Q : Bool → World → Prop} {x0_0 : Int} {x0_1 : Int} {x0_2 : Sl} {x0_3 : Sl} {x1_0 : Sl} {x1_1 : Sl} {x1_2 : Sl} {x2 : Sl} {w : World} (h : V_l_FnExactPullEdgeStep Q x0_0 x0_1 x0_2 x0_3 x1_0 x1_1 x1_2 x2 w) : Calls Tryz.prog F.l_FnExactPullEdgeStep #[.agg #[.int .i64 x0_0, .int .i64 x0_1, x0_2.v, x0_3.v], .agg #[x1_0.v, x1_1.v, x1_2.v], x2.v] w (Ret [.at .bool] Q) :=
  mkC (hint := hint) (ann := annOf []) (args := [.agg #[.int .i64 x0_0, .int .i64 x0_1, x0_2.v, x0_3.v], .agg #[x1_0.v, x1_1.v, x1_2.v], x2.v]) (rs := [.at .bool]) Tryz.func6 (by kernel_rfl) (by kernel_rfl) h

end Go.Proofs.YtlmiookpmneicaaGreat
end

section
/- What each function's code computes to. Printed by a program. -/
namespace Go.Proofs.YtlmiookpmneicaaGreat
open Go.GX Go.RowKit
set_option linter.unusedVariables false
set_option maxRecDepth 100000

def V_l_szProblem (Q : Int → World → Prop) (a_0 : Int) (a_1 : Int) (a_2 : Sl) (a_3 : Sl) (left : Int) (w : World) : Prop :=
  NEW T.t_l_Problem #[.int .i64 a_0, .int .i64 a_1, a_2.v, a_3.v] w fun (p_a : Addr) w1 =>
  LD [.sl] (p_a.add 2) w1 fun (x6 : Sl) =>
  Calls Tryz.prog F.l_szIntSS #[x6.v, .int .i64 left] w1 (Ret [.at (.int .i64)] fun (x8 : Int) w2 =>
  cond (decide ((x8 : Int) < 0)) (
  Q (-1) w2) (
  LD [.sl] (p_a.add 3) w2 fun (x12 : Sl) =>
  Calls Tryz.prog F.l_szIntSS #[x12.v, .int .i64 x8] w2 (Ret [.at (.int .i64)] fun (x14 : Int) w3 =>
  cond (decide ((x14 : Int) < 0)) (
  Q (-1) w3) (
  Q x14 w3))))

theorem C_l_szProblem {Q : Int → World → Prop} {a_0 : Int} {a_1 : Int} {a_2 : Sl} {a_3 : Sl} {left : Int} {w : World} (h : V_l_szProblem Q a_0 a_1 a_2 a_3 left w) : Calls Tryz.prog F.l_szProblem #[.agg #[.int .i64 a_0, .int .i64 a_1, a_2.v, a_3.v], .int .i64 left] w (Ret [.at (.int .i64)] Q) :=
  mkC (hint := hint) (ann := annOf []) (args := [.agg #[.int .i64 a_0, .int .i64 a_1, a_2.v, a_3.v], .int .i64 left]) (rs := [.at (.int .i64)]) Tryz.func13 (by kernel_rfl) (by kernel_rfl) h

def V_l_szIntSS (Q : Int → World → Prop) (a : Sl) (left : Int) (w : World) : Prop :=
  cond (decide (((IntKind.i64.wrap (left - a.len)) : Int) < 0)) (
  Q (-1) w) (
  ∃ (I5 : Int → Int → World → Prop) (m5 : Int → Int → World → Nat), I5 (IntKind.i64.wrap (left - a.len)) 0 w ∧ ∀ (left_2 : Int) (i : Int) w1, I5 left_2 i w1 → ∀ _ _ _ _ _ _ _ _ _ _ _ _ _ _ _ : Value,
  cond (decide ((i : Int) < a.len)) (
  IX a i 1 fun (px20 : Addr) =>
  LD [.sl] px20 w1 fun (x21 : Sl) =>
  Calls Tryz.prog F.l_szIntS #[x21.v, .int .i64 left_2] w1 (Ret [.at (.int .i64)] fun (x23 : Int) w2 =>
  cond (decide ((x23 : Int) < 0)) (
  Q (-1) w2) (
  I5 x23 (IntKind.i64.wrap (i + 1)) w2 ∧ m5 x23 (IntKind.i64.wrap (i + 1)) w2 < m5 left_2 i w1))) (
  Q left_2 w1))

theorem C_l_szIntSS {Q : Int → World → Prop} {a : Sl} {left : Int} {w : World} (h : V_l_szIntSS Q a left w) : Calls Tryz.prog F.l_szIntSS #[a.v, .int .i64 left] w (Ret [.at (.int .i64)] Q) :=
  mkC (hint := hint) (ann := annOf [(5, ⟨[(1, .int .i64), (5, .int .i64)], [4, 12, 13, 14, 15, 16, 17, 18, 19, 20, 21, 22, 23, 24, 25]⟩)]) (args := [a.v, .int .i64 left]) (rs := [.at (.int .i64)]) Tryz.func14 (by kernel_rfl) (by kernel_rfl) h

def V_l_szNetwork (Q : Int → World → Prop) (a_0 : Sl) (a_1 : Sl) (a_2 : Sl) (left : Int) (w : World) : Prop :=
  NEW T.t_l_Network #[a_0.v, a_1.v, a_2.v] w fun (p_a : Addr) w1 =>
  LD [.sl] (p_a.add 0) w1 fun (x6 : Sl) =>
  Calls Tryz.prog F.l_szEndSS #[x6.v, .int .i64 left] w1 (Ret [.at (.int .i64)] fun (x8 : Int) w2 =>
  cond (decide ((x8 : Int) < 0)) (
  Q (-1) w2) (
  LD [.sl] (p_a.add 1) w2 fun (x12 : Sl) =>
  Calls Tryz.prog F.l_szIntS #[x12.v, .int .i64 x8] w2 (Ret [.at (.int .i64)] fun (x14 : Int) w3 =>
  cond (decide ((x14 : Int) < 0)) (
  Q (-1) w3) (
  LD [.sl] (p_a.add 2) w3 fun (x18 : Sl) =>
  Calls Tryz.prog F.l_szIntS #[x18.v, .int .i64 x14] w3 (Ret [.at (.int .i64)] fun (x20 : Int) w4 =>
  cond (decide ((x20 : Int) < 0)) (
  Q (-1) w4) (
  Q x20 w4))))))

theorem C_l_szNetwork {Q : Int → World → Prop} {a_0 : Sl} {a_1 : Sl} {a_2 : Sl} {left : Int} {w : World} (h : V_l_szNetwork Q a_0 a_1 a_2 left w) : Calls Tryz.prog F.l_szNetwork #[.agg #[a_0.v, a_1.v, a_2.v], .int .i64 left] w (Ret [.at (.int .i64)] Q) :=
  mkC (hint := hint) (ann := annOf []) (args := [.agg #[a_0.v, a_1.v, a_2.v], .int .i64 left]) (rs := [.at (.int .i64)]) Tryz.func15 (by kernel_rfl) (by kernel_rfl) h

def V_l_toProblem (Q : Int → Int → Sl → Sl → World → Prop) (a_0 : Int) (a_1 : Int) (a_2 : Sl) (a_3 : Sl) (w : World) : Prop :=
  NEW T.t_l_Problem #[.int .i64 a_0, .int .i64 a_1, a_2.v, a_3.v] w fun (p_a : Addr) w1 =>
  NEW T.t_i_Problem #[.int .i64 0, .int .i64 0, .slice none 0 0, .slice none 0 0] w1 fun (px2 : Addr) w2 =>
  NEW T.t_i_Problem #[.int .i64 0, .int .i64 0, .slice none 0 0, .slice none 0 0] w2 fun (p_out : Addr) w3 =>
  LD [.int .i64] (p_a.add 0) w3 fun (x5 : Int) =>
  ST (p_out.add 0) 0 [.int .i64 x5] w3 fun w4 =>
  LD [.int .i64] (p_a.add 1) w4 fun (x8 : Int) =>
  ST (p_out.add 1) 0 [.int .i64 x8] w4 fun w5 =>
  LD [.sl] (p_a.add 2) w5 fun (x11 : Sl) =>
  Calls Tryz.prog F.l_toIntSS #[x11.v] w5 (Ret [.at .sl] fun (x12 : Sl) w6 =>
  ST (p_out.add 2) 0 [x12.v] w6 fun w7 =>
  LD [.sl] (p_a.add 3) w7 fun (x15 : Sl) =>
  Calls Tryz.prog F.l_toIntSS #[x15.v] w7 (Ret [.at .sl] fun (x16 : Sl) w8 =>
  ST (p_out.add 3) 0 [x16.v] w8 fun w9 =>
  LD [.int .i64, .int .i64, .sl, .sl] p_out w9 fun (x18_0 : Int) (x18_1 : Int) (x18_2 : Sl) (x18_3 : Sl) =>
  ST px2 0 [.int .i64 x18_0, .int .i64 x18_1, x18_2.v, x18_3.v] w9 fun w10 =>
  LD [.int .i64, .int .i64, .sl, .sl] px2 w10 fun (r0_0 : Int) (r0_1 : Int) (r0_2 : Sl) (r0_3 : Sl) =>
  Q r0_0 r0_1 r0_2 r0_3 w10))

theorem C_l_toProblem {Q : Int → Int → Sl → Sl → World → Prop} {a_0 : Int} {a_1 : Int} {a_2 : Sl} {a_3 : Sl} {w : World} (h : V_l_toProblem Q a_0 a_1 a_2 a_3 w) : Calls Tryz.prog F.l_toProblem #[.agg #[.int .i64 a_0, .int .i64 a_1, a_2.v, a_3.v]] w (Ret [.agg [.int .i64, .int .i64, .sl, .sl]] Q) :=
  mkC (hint := hint) (ann := annOf []) (args := [.agg #[.int .i64 a_0, .int .i64 a_1, a_2.v, a_3.v]]) (rs := [.agg [.int .i64, .int .i64, .sl, .sl]]) Tryz.func17 (by kernel_rfl) (by kernel_rfl) h

def V_l_toIntSS (Q : Sl → World → Prop) (a : Sl) (w : World) : Prop :=
  RUN Tryz.prog (.at .sl) (Instr.makeSlice T.t_sl_sl_int (.int .i64 a.len) (.int .i64 a.len)) w fun (x7 : Sl) w1 =>
  ∃ (I3 : Int → World → Prop) (m3 : Int → World → Nat), I3 0 w1 ∧ ∀ (i : Int) w2, I3 i w2 → ∀ _ _ _ _ _ _ _ _ _ _ _ _ _ _ : Value,
  cond (decide ((i : Int) < a.len)) (
  IX a i 1 fun (px18 : Addr) =>
  LD [.sl] px18 w2 fun (x19 : Sl) =>
  Calls Tryz.prog F.l_toIntS #[x19.v] w2 (Ret [.at .sl] fun (x20 : Sl) w3 =>
  IX x7 i 1 fun (px21 : Addr) =>
  ST px21 0 [x20.v] w3 fun w4 =>
  I3 (IntKind.i64.wrap (i + 1)) w4 ∧ m3 (IntKind.i64.wrap (i + 1)) w4 < m3 i w2)) (
  Q x7 w2)

theorem C_l_toIntSS {Q : Sl → World → Prop} {a : Sl} {w : World} (h : V_l_toIntSS Q a w) : Calls Tryz.prog F.l_toIntSS #[a.v] w (Ret [.at .sl] Q) :=
  mkC (hint := hint) (ann := annOf [(3, ⟨[(4, .int .i64)], [8, 9, 10, 11, 12, 13, 14, 15, 16, 17, 18, 19, 20, 21]⟩)]) (args := [a.v]) (rs := [.at .sl]) Tryz.func18 (by kernel_rfl) (by kernel_rfl) h

def V_l_toNetwork (Q : Sl → Sl → Sl → World → Prop) (a_0 : Sl) (a_1 : Sl) (a_2 : Sl) (w : World) : Prop :=
  NEW T.t_l_Network #[a_0.v, a_1.v, a_2.v] w fun (p_a : Addr) w1 =>
  NEW T.t_i_Network #[.slice none 0 0, .slice none 0 0, .slice none 0 0] w1 fun (px2 : Addr) w2 =>
  NEW T.t_i_Network #[.slice none 0 0, .slice none 0 0, .slice none 0 0] w2 fun (p_out : Addr) w3 =>
  LD [.sl] (p_a.add 0) w3 fun (x5 : Sl) =>
  Calls Tryz.prog F.l_toEndSS #[x5.v] w3 (Ret [.at .sl] fun (x6 : Sl) w4 =>
  ST (p_out.add 0) 0 [x6.v] w4 fun w5 =>
  LD [.sl] (p_a.add 1) w5 fun (x9 : Sl) =>
  Calls Tryz.prog F.l_toIntS #[x9.v] w5 (Ret [.at .sl] fun (x10 : Sl) w6 =>
  ST (p_out.add 1) 0 [x10.v] w6 fun w7 =>
  LD [.sl] (p_a.add 2) w7 fun (x13 : Sl) =>
  Calls Tryz.prog F.l_toIntS #[x13.v] w7 (Ret [.at .sl] fun (x14 : Sl) w8 =>
  ST (p_out.add 2) 0 [x14.v] w8 fun w9 =>
  LD [.sl, .sl, .sl] p_out w9 fun (x16_0 : Sl) (x16_1 : Sl) (x16_2 : Sl) =>
  ST px2 0 [x16_0.v, x16_1.v, x16_2.v] w9 fun w10 =>
  LD [.sl, .sl, .sl] px2 w10 fun (r0_0 : Sl) (r0_1 : Sl) (r0_2 : Sl) =>
  Q r0_0 r0_1 r0_2 w10)))

theorem C_l_toNetwork {Q : Sl → Sl → Sl → World → Prop} {a_0 : Sl} {a_1 : Sl} {a_2 : Sl} {w : World} (h : V_l_toNetwork Q a_0 a_1 a_2 w) : Calls Tryz.prog F.l_toNetwork #[.agg #[a_0.v, a_1.v, a_2.v]] w (Ret [.agg [.sl, .sl, .sl]] Q) :=
  mkC (hint := hint) (ann := annOf []) (args := [.agg #[a_0.v, a_1.v, a_2.v]]) (rs := [.agg [.sl, .sl, .sl]]) Tryz.func19 (by kernel_rfl) (by kernel_rfl) h

def V_l_eqIntSS (Q : Bool → World → Prop) (a : Sl) (b : Sl) (w : World) : Prop :=
  cond ((a.len : Int) != b.len) (
  Q false w) (
  ∃ (I4 : Int → World → Prop) (m4 : Int → World → Nat), I4 0 w ∧ ∀ (i : Int) w1, I4 i w1 → ∀ _ _ _ _ _ _ _ _ _ _ _ _ _ _ _ _ _ : Value,
  cond (decide ((i : Int) < a.len)) (
  IX a i 1 fun (px19 : Addr) =>
  LD [.sl] px19 w1 fun (x20 : Sl) =>
  IX b i 1 fun (px23 : Addr) =>
  LD [.sl] px23 w1 fun (x24 : Sl) =>
  QCALL Tryz.prog F.l_eqIntS #[x20.v, x24.v] w1 [.at .bool] fun (x25 : Bool) =>
  ∀ w2, Ext w1 w2 →
  cond (!x25) (
  Q false w2) (
  I4 (IntKind.i64.wrap (i + 1)) w2 ∧ m4 (IntKind.i64.wrap (i + 1)) w2 < m4 i w1)) (
  Q true w1))

theorem C_l_eqIntSS {Q : Bool → World → Prop} {a : Sl} {b : Sl} {w : World} (h : V_l_eqIntSS Q a b w) : Calls Tryz.prog F.l_eqIntSS #[a.v, b.v] w (Ret [.at .bool] Q) :=
  mkC (hint := hint) (ann := annOf [(4, ⟨[(5, .int .i64)], [4, 11, 12, 13, 14, 15, 16, 17, 18, 19, 20, 21, 22, 23, 24, 25, 26]⟩)]) (args := [a.v, b.v]) (rs := [.at .bool]) Tryz.func21 (by kernel_rfl) (by kernel_rfl) h

def V_l_eqProblem (Q : Bool → World → Prop) (a_0 : Int) (a_1 : Int) (a_2 : Sl) (a_3 : Sl) (b_0 : Int) (b_1 : Int) (b_2 : Sl) (b_3 : Sl) (w : World) : Prop :=
  NEW T.t_i_Problem #[.int .i64 a_0, .int .i64 a_1, a_2.v, a_3.v] w fun (p_a : Addr) w1 =>
  NEW T.t_i_Problem #[.int .i64 b_0, .int .i64 b_1, b_2.v, b_3.v] w1 fun (p_b : Addr) w2 =>
  LD [.int .i64] (p_a.add 0) w2 fun (x6 : Int) =>
  LD [.int .i64] (p_b.add 0) w2 fun (x8 : Int) =>
  cond ((x6 : Int) != x8) (
  Q false w2) (
  LD [.int .i64] (p_a.add 1) w2 fun (x11 : Int) =>
  LD [.int .i64] (p_b.add 1) w2 fun (x13 : Int) =>
  cond ((x11 : Int) != x13) (
  Q false w2) (
  LD [.sl] (p_a.add 2) w2 fun (x16 : Sl) =>
  LD [.sl] (p_b.add 2) w2 fun (x18 : Sl) =>
  Calls Tryz.prog F.l_eqIntSS #[x16.v, x18.v] w2 (Ret [.at .bool] fun (x19 : Bool) w3 =>
  cond (!x19) (
  Q false w3) (
  LD [.sl] (p_a.add 3) w3 fun (x22 : Sl) =>
  LD [.sl] (p_b.add 3) w3 fun (x24 : Sl) =>
  Calls Tryz.prog F.l_eqIntSS #[x22.v, x24.v] w3 (Ret [.at .bool] fun (x25 : Bool) w4 =>
  cond (!x25) (
  Q false w4) (
  Q true w4))))))

theorem C_l_eqProblem {Q : Bool → World → Prop} {a_0 : Int} {a_1 : Int} {a_2 : Sl} {a_3 : Sl} {b_0 : Int} {b_1 : Int} {b_2 : Sl} {b_3 : Sl} {w : World} (h : V_l_eqProblem Q a_0 a_1 a_2 a_3 b_0 b_1 b_2 b_3 w) : Calls Tryz.prog F.l_eqProblem #[.agg #[.int .i64 a_0, .int .i64 a_1, a_2.v, a_3.v], .agg #[.int .i64 b_0, .int .i64 b_1, b_2.v, b_3.v]] w (Ret [.at .bool] Q) :=
  mkC (hint := hint) (ann := annOf []) (args := [.agg #[.int .i64 a_0, .int .i64 a_1, a_2.v, a_3.v], .agg #[.int .i64 b_0, .int .i64 b_1, b_2.v, b_3.v]]) (rs := [.at .bool]) Tryz.func22 (by kernel_rfl) (by kernel_rfl) h

def V_l_eqNetwork (Q : Bool → World → Prop) (a_0 : Sl) (a_1 : Sl) (a_2 : Sl) (b_0 : Sl) (b_1 : Sl) (b_2 : Sl) (w : World) : Prop :=
  NEW T.t_i_Network #[a_0.v, a_1.v, a_2.v] w fun (p_a : Addr) w1 =>
  NEW T.t_i_Network #[b_0.v, b_1.v, b_2.v] w1 fun (p_b : Addr) w2 =>
  LD [.sl] (p_a.add 0) w2 fun (x6 : Sl) =>
  LD [.sl] (p_b.add 0) w2 fun (x8 : Sl) =>
  Calls Tryz.prog F.l_eqEndSS #[x6.v, x8.v] w2 (Ret [.at .bool] fun (x9 : Bool) w3 =>
  cond (!x9) (
  Q false w3) (
  LD [.sl] (p_a.add 1) w3 fun (x12 : Sl) =>
  LD [.sl] (p_b.add 1) w3 fun (x14 : Sl) =>
  Calls Tryz.prog F.l_eqIntS #[x12.v, x14.v] w3 (Ret [.at .bool] fun (x15 : Bool) w4 =>
  cond (!x15) (
  Q false w4) (
  LD [.sl] (p_a.add 2) w4 fun (x18 : Sl) =>
  LD [.sl] (p_b.add 2) w4 fun (x20 : Sl) =>
  Calls Tryz.prog F.l_eqIntS #[x18.v, x20.v] w4 (Ret [.at .bool] fun (x21 : Bool) w5 =>
  cond (!x21) (
  Q false w5) (
  Q true w5))))))

theorem C_l_eqNetwork {Q : Bool → World → Prop} {a_0 : Sl} {a_1 : Sl} {a_2 : Sl} {b_0 : Sl} {b_1 : Sl} {b_2 : Sl} {w : World} (h : V_l_eqNetwork Q a_0 a_1 a_2 b_0 b_1 b_2 w) : Calls Tryz.prog F.l_eqNetwork #[.agg #[a_0.v, a_1.v, a_2.v], .agg #[b_0.v, b_1.v, b_2.v]] w (Ret [.at .bool] Q) :=
  mkC (hint := hint) (ann := annOf []) (args := [.agg #[a_0.v, a_1.v, a_2.v], .agg #[b_0.v, b_1.v, b_2.v]]) (rs := [.at .bool]) Tryz.func23 (by kernel_rfl) (by kernel_rfl) h

def V_l_markProblem (Q : Int → World → Prop) (a_0 : Int) (a_1 : Int) (a_2 : Sl) (a_3 : Sl) (k : Int) (w : World) : Prop :=
  NEW T.t_i_Problem #[.int .i64 a_0, .int .i64 a_1, a_2.v, a_3.v] w fun (p_a : Addr) w1 =>
  LD [.sl] (p_a.add 2) w1 fun (x6 : Sl) =>
  Calls Tryz.prog F.l_markIntSS #[x6.v, .int .i64 k] w1 (Ret [.at (.int .i64)] fun (x8 : Int) w2 =>
  LD [.sl] (p_a.add 3) w2 fun (x10 : Sl) =>
  Calls Tryz.prog F.l_markIntSS #[x10.v, .int .i64 x8] w2 (Ret [.at (.int .i64)] fun (x12 : Int) w3 =>
  Q x12 w3))

theorem C_l_markProblem {Q : Int → World → Prop} {a_0 : Int} {a_1 : Int} {a_2 : Sl} {a_3 : Sl} {k : Int} {w : World} (h : V_l_markProblem Q a_0 a_1 a_2 a_3 k w) : Calls Tryz.prog F.l_markProblem #[.agg #[.int .i64 a_0, .int .i64 a_1, a_2.v, a_3.v], .int .i64 k] w (Ret [.at (.int .i64)] Q) :=
  mkC (hint := hint) (ann := annOf []) (args := [.agg #[.int .i64 a_0, .int .i64 a_1, a_2.v, a_3.v], .int .i64 k]) (rs := [.at (.int .i64)]) Tryz.func24 (by kernel_rfl) (by kernel_rfl) h

def V_l_markIntSS (Q : Int → World → Prop) (a : Sl) (k : Int) (w : World) : Prop :=
  ∃ (I2 : Int → Int → World → Prop) (m2 : Int → Int → World → Nat), I2 k 0 w ∧ ∀ (k_2 : Int) (i : Int) w1, I2 k_2 i w1 → ∀ _ _ _ _ _ _ _ _ _ _ _ _ : Value,
  cond (decide ((i : Int) < a.len)) (
  IX a i 1 fun (px14 : Addr) =>
  LD [.sl] px14 w1 fun (x15 : Sl) =>
  Calls Tryz.prog F.l_markIntS #[x15.v, .int .i64 k_2] w1 (Ret [.at (.int .i64)] fun (x17 : Int) w2 =>
  I2 x17 (IntKind.i64.wrap (i + 1)) w2 ∧ m2 x17 (IntKind.i64.wrap (i + 1)) w2 < m2 k_2 i w1)) (
  Q k_2 w1)

theorem C_l_markIntSS {Q : Int → World → Prop} {a : Sl} {k : Int} {w : World} (h : V_l_markIntSS Q a k w) : Calls Tryz.prog F.l_markIntSS #[a.v, .int .i64 k] w (Ret [.at (.int .i64)] Q) :=
  mkC (hint := hint) (ann := annOf [(2, ⟨[(1, .int .i64), (5, .int .i64)], [6, 7, 8, 9, 10, 11, 12, 13, 14, 15, 16, 17]⟩)]) (args := [a.v, .int .i64 k]) (rs := [.at (.int .i64)]) Tryz.func25 (by kernel_rfl) (by kernel_rfl) h

def V_l_markNetwork (Q : Int → World → Prop) (a_0 : Sl) (a_1 : Sl) (a_2 : Sl) (k : Int) (w : World) : Prop :=
  NEW T.t_i_Network #[a_0.v, a_1.v, a_2.v] w fun (p_a : Addr) w1 =>
  LD [.sl] (p_a.add 0) w1 fun (x6 : Sl) =>
  Calls Tryz.prog F.l_markEndSS #[x6.v, .int .i64 k] w1 (Ret [.at (.int .i64)] fun (x8 : Int) w2 =>
  LD [.sl] (p_a.add 1) w2 fun (x10 : Sl) =>
  Calls Tryz.prog F.l_markIntS #[x10.v, .int .i64 x8] w2 (Ret [.at (.int .i64)] fun (x12 : Int) w3 =>
  LD [.sl] (p_a.add 2) w3 fun (x14 : Sl) =>
  Calls Tryz.prog F.l_markIntS #[x14.v, .int .i64 x12] w3 (Ret [.at (.int .i64)] fun (x16 : Int) w4 =>
  Q x16 w4)))

theorem C_l_markNetwork {Q : Int → World → Prop} {a_0 : Sl} {a_1 : Sl} {a_2 : Sl} {k : Int} {w : World} (h : V_l_markNetwork Q a_0 a_1 a_2 k w) : Calls Tryz.prog F.l_markNetwork #[.agg #[a_0.v, a_1.v, a_2.v], .int .i64 k] w (Ret [.at (.int .i64)] Q) :=
  mkC (hint := hint) (ann := annOf []) (args := [.agg #[a_0.v, a_1.v, a_2.v], .int .i64 k]) (rs := [.at (.int .i64)]) Tryz.func26 (by kernel_rfl) (by kernel_rfl) h

def V_l_heldIntSS (Q : Int → World → Prop) (a : Sl) (k : Int) (w : World) : Prop :=
  ∃ (I2 : Int → Int → World → Prop) (m2 : Int → Int → World → Nat), I2 k 0 w ∧ ∀ (k_2 : Int) (i : Int) w1, I2 k_2 i w1 → ∀ _ _ _ _ _ _ _ _ _ _ _ _ _ _ _ : Value,
  cond (decide ((i : Int) < a.len)) (
  IX a i 1 fun (px14 : Addr) =>
  LD [.sl] px14 w1 fun (x15 : Sl) =>
  Calls Tryz.prog F.l_heldIntS #[x15.v, .int .i64 k_2] w1 (Ret [.at (.int .i64)] fun (x17 : Int) w2 =>
  cond (decide ((x17 : Int) < 0)) (
  Q (-1) w2) (
  I2 x17 (IntKind.i64.wrap (i + 1)) w2 ∧ m2 x17 (IntKind.i64.wrap (i + 1)) w2 < m2 k_2 i w1))) (
  Q k_2 w1)

theorem C_l_heldIntSS {Q : Int → World → Prop} {a : Sl} {k : Int} {w : World} (h : V_l_heldIntSS Q a k w) : Calls Tryz.prog F.l_heldIntSS #[a.v, .int .i64 k] w (Ret [.at (.int .i64)] Q) :=
  mkC (hint := hint) (ann := annOf [(2, ⟨[(1, .int .i64), (5, .int .i64)], [4, 6, 7, 8, 9, 10, 11, 12, 13, 14, 15, 16, 17, 18, 19]⟩)]) (args := [a.v, .int .i64 k]) (rs := [.at (.int .i64)]) Tryz.func27 (by kernel_rfl) (by kernel_rfl) h

def V_s_SplitProduct_k1 (l : Sl) (Q : Sl → Sl → Bool → World → Prop) (p_q : Addr) (w8 : World) : Prop :=
  ∃ (I6 : Sl → Sl → Int → World → Prop) (m6 : Sl → Sl → Int → World → Nat), I6 (⟨none, 0, 0⟩) (⟨none, 0, 0⟩) 0 w8 ∧ ∀ (first : Sl) (second : Sl) (x36 : Int) w9, I6 first second x36 w9 → ∀ _ _ _ _ _ _ _ _ _ _ _ _ _ _ _ _ _ _ _ _ _ _ : Value,
  cond (decide ((x36 : Int) < l.len)) (
  IX l x36 1 fun (px38 : Addr) =>
  LD [.sl] px38 w9 fun (x39 : Sl) =>
  LD [.int .i64] (p_q.add 0) w9 fun (x43 : Int) =>
  Calls Tryz.prog F.s_reHalves #[x39.v, .int .i64 x43] w9 (Ret [.at .sl, .at .sl] fun (x44_0 : Sl) (x44_1 : Sl) w10 =>
  RUN Tryz.prog (.at .sl) (Instr.buildSlice T.t_sl_sl_int 1 #[(0, x44_0.v)]) w10 fun (x49 : Sl) w11 =>
  RUN Tryz.prog (.at .sl) (bsem .append #[T.t_sl_sl_int, T.t_sl_sl_int] T.t_sl_sl_int #[first.v, x49.v]) w11 fun (x50 : Sl) w12 =>
  RUN Tryz.prog (.at .sl) (Instr.buildSlice T.t_sl_sl_int 1 #[(0, x44_1.v)]) w12 fun (x53 : Sl) w13 =>
  RUN Tryz.prog (.at .sl) (bsem .append #[T.t_sl_sl_int, T.t_sl_sl_int] T.t_sl_sl_int #[second.v, x53.v]) w13 fun (x54 : Sl) w14 =>
  I6 x50 x54 (IntKind.i64.wrap (x36 + 1)) w14 ∧ m6 x50 x54 (IntKind.i64.wrap (x36 + 1)) w14 < m6 first second x36 w9)) (
  Q first second true w9)

def V_s_SplitProduct (Q : Sl → Sl → Bool → World → Prop) (p_0 : Int) (p_1 : Int) (p_2 : Sl) (p_3 : Sl) (q_0 : Int) (q_1 : Int) (q_2 : Sl) (q_3 : Sl) (n_0 : Sl) (n_1 : Sl) (n_2 : Sl) (l : Sl) (w : World) : Prop :=
  NEW T.t_i_Problem #[.int .i64 p_0, .int .i64 p_1, p_2.v, p_3.v] w fun (p_p : Addr) w1 =>
  NEW T.t_i_Problem #[.int .i64 q_0, .int .i64 q_1, q_2.v, q_3.v] w1 fun (p_q : Addr) w2 =>
  NEW T.t_i_Network #[n_0.v, n_1.v, n_2.v] w2 fun (p_n : Addr) w3 =>
  LD [.int .i64, .int .i64, .sl, .sl] p_p w3 fun (x20_0 : Int) (x20_1 : Int) (x20_2 : Sl) (x20_3 : Sl) =>
  LD [.int .i64, .int .i64, .sl, .sl] p_q w3 fun (x21_0 : Int) (x21_1 : Int) (x21_2 : Sl) (x21_3 : Sl) =>
  Calls Tryz.prog F.s_ProductProblem #[.agg #[.int .i64 x20_0, .int .i64 x20_1, x20_2.v, x20_3.v], .agg #[.int .i64 x21_0, .int .i64 x21_1, x21_2.v, x21_3.v]] w3 (Ret [.agg [.int .i64, .int .i64, .sl, .sl], .at .bool] fun (x22_0_0 : Int) (x22_0_1 : Int) (x22_0_2 : Sl) (x22_0_3 : Sl) (x22_1 : Bool) w4 =>
  NEW T.t_i_Problem #[.int .i64 0, .int .i64 0, .slice none 0 0, .slice none 0 0] w4 fun (p_product : Addr) w5 =>
  ST p_product 0 [.int .i64 x22_0_0, .int .i64 x22_0_1, x22_0_2.v, x22_0_3.v] w5 fun w6 =>
  cond (!x22_1) (
  Q (⟨none, 0, 0⟩) (⟨none, 0, 0⟩) false w6) (
  LD [.int .i64, .int .i64, .sl, .sl] p_product w6 fun (x28_0 : Int) (x28_1 : Int) (x28_2 : Sl) (x28_3 : Sl) =>
  LD [.sl, .sl, .sl] p_n w6 fun (x29_0 : Sl) (x29_1 : Sl) (x29_2 : Sl) =>
  Calls Tryz.prog F.s_prAsked #[.agg #[.int .i64 x28_0, .int .i64 x28_1, x28_2.v, x28_3.v], .agg #[x29_0.v, x29_1.v, x29_2.v], l.v] w6 (Ret [.at .bool] fun (x31 : Bool) w7 =>
  cond (!x31) (
  Q (⟨none, 0, 0⟩) (⟨none, 0, 0⟩) false w7) (
  V_s_SplitProduct_k1 l Q p_q w7))))

theorem C_s_SplitProduct {Q : Sl → Sl → Bool → World → Prop} {p_0 : Int} {p_1 : Int} {p_2 : Sl} {p_3 : Sl} {q_0 : Int} {q_1 : Int} {q_2 : Sl} {q_3 : Sl} {n_0 : Sl} {n_1 : Sl} {n_2 : Sl} {l : Sl} {w : World} (h : V_s_SplitProduct Q p_0 p_1 p_2 p_3 q_0 q_1 q_2 q_3 n_0 n_1 n_2 l w) : Calls Tryz.prog F.s_SplitProduct #[.agg #[.int .i64 p_0, .int .i64 p_1, p_2.v, p_3.v], .agg #[.int .i64 q_0, .int .i64 q_1, q_2.v, q_3.v], .agg #[n_0.v, n_1.v, n_2.v], l.v] w (Ret [.at .sl, .at .sl, .at .bool] Q) :=
  mkC (hint := hint) (ann := annOf [(6, ⟨[(13, .sl), (14, .sl), (36, .int .i64)], [16, 17, 18, 37, 38, 39, 40, 41, 42, 43, 44, 45, 46, 47, 48, 49, 50, 51, 52, 53, 54, 55]⟩)]) (args := [.agg #[.int .i64 p_0, .int .i64 p_1, p_2.v, p_3.v], .agg #[.int .i64 q_0, .int .i64 q_1, q_2.v, q_3.v], .agg #[n_0.v, n_1.v, n_2.v], l.v]) (rs := [.at .sl, .at .sl, .at .bool]) Tryz.func28 (by kernel_rfl) (by kernel_rfl) h

def V_i_SplitProduct_k1 (l : Sl) (Q : Sl → Sl → Bool → World → Prop) (p_q : Addr) (w9 : World) : Prop :=
  ∃ (I6 : Sl → Sl → Int → World → Prop) (m6 : Sl → Sl → Int → World → Nat), I6 (⟨none, 0, 0⟩) (⟨none, 0, 0⟩) 0 w9 ∧ ∀ (first : Sl) (second : Sl) (x41 : Int) w10, I6 first second x41 w10 → ∀ _ _ _ _ _ _ _ _ _ _ _ _ _ _ _ _ _ _ _ _ _ _ : Value,
  cond (decide ((x41 : Int) < l.len)) (
  IX l x41 1 fun (px43 : Addr) =>
  LD [.sl] px43 w10 fun (x44 : Sl) =>
  LD [.int .i64] (p_q.add 0) w10 fun (x48 : Int) =>
  Calls Tryz.prog F.i_parts #[x44.v, .int .i64 x48] w10 (Ret [.at .sl, .at .sl] fun (x49_0 : Sl) (x49_1 : Sl) w11 =>
  RUN Tryz.prog (.at .sl) (Instr.buildSlice T.t_sl_sl_int 1 #[(0, x49_0.v)]) w11 fun (x54 : Sl) w12 =>
  RUN Tryz.prog (.at .sl) (bsem .append #[T.t_sl_sl_int, T.t_sl_sl_int] T.t_sl_sl_int #[first.v, x54.v]) w12 fun (x55 : Sl) w13 =>
  RUN Tryz.prog (.at .sl) (Instr.buildSlice T.t_sl_sl_int 1 #[(0, x49_1.v)]) w13 fun (x58 : Sl) w14 =>
  RUN Tryz.prog (.at .sl) (bsem .append #[T.t_sl_sl_int, T.t_sl_sl_int] T.t_sl_sl_int #[second.v, x58.v]) w14 fun (x59 : Sl) w15 =>
  I6 x55 x59 (IntKind.i64.wrap (x41 + 1)) w15 ∧ m6 x55 x59 (IntKind.i64.wrap (x41 + 1)) w15 < m6 first second x41 w10)) (
  Q first second true w10)

def V_i_SplitProduct (Q : Sl → Sl → Bool → World → Prop) (p_0 : Int) (p_1 : Int) (p_2 : Sl) (p_3 : Sl) (q_0 : Int) (q_1 : Int) (q_2 : Sl) (q_3 : Sl) (n_0 : Sl) (n_1 : Sl) (n_2 : Sl) (l : Sl) (w : World) : Prop :=
  NEW T.t_i_Problem #[.int .i64 p_0, .int .i64 p_1, p_2.v, p_3.v] w fun (p_p : Addr) w1 =>
  NEW T.t_i_Problem #[.int .i64 q_0, .int .i64 q_1, q_2.v, q_3.v] w1 fun (p_q : Addr) w2 =>
  NEW T.t_i_Network #[n_0.v, n_1.v, n_2.v] w2 fun (p_n : Addr) w3 =>
  LD [.int .i64, .int .i64, .sl, .sl] p_p w3 fun (x20_0 : Int) (x20_1 : Int) (x20_2 : Sl) (x20_3 : Sl) =>
  LD [.int .i64, .int .i64, .sl, .sl] p_q w3 fun (x21_0 : Int) (x21_1 : Int) (x21_2 : Sl) (x21_3 : Sl) =>
  Calls Tryz.prog F.i_ProductProblem #[.agg #[.int .i64 x20_0, .int .i64 x20_1, x20_2.v, x20_3.v], .agg #[.int .i64 x21_0, .int .i64 x21_1, x21_2.v, x21_3.v]] w3 (Ret [.agg [.int .i64, .int .i64, .sl, .sl], .at .bool] fun (x22_0_0 : Int) (x22_0_1 : Int) (x22_0_2 : Sl) (x22_0_3 : Sl) (x22_1 : Bool) w4 =>
  NEW T.t_i_Problem #[.int .i64 0, .int .i64 0, .slice none 0 0, .slice none 0 0] w4 fun (p_product : Addr) w5 =>
  ST p_product 0 [.int .i64 x22_0_0, .int .i64 x22_0_1, x22_0_2.v, x22_0_3.v] w5 fun w6 =>
  cond (!x22_1) (
  Q (⟨none, 0, 0⟩) (⟨none, 0, 0⟩) false w6) (
  LD [.sl, .sl, .sl] p_n w6 fun (x28_0 : Sl) (x28_1 : Sl) (x28_2 : Sl) =>
  Calls Tryz.prog F.i_IsNetwork #[.agg #[x28_0.v, x28_1.v, x28_2.v]] w6 (Ret [.at .bool] fun (x29 : Bool) w7 =>
  cond (!x29) (
  Q (⟨none, 0, 0⟩) (⟨none, 0, 0⟩) false w7) (
  LD [.int .i64, .int .i64, .sl, .sl] p_product w7 fun (x33_0 : Int) (x33_1 : Int) (x33_2 : Sl) (x33_3 : Sl) =>
  LD [.sl, .sl, .sl] p_n w7 fun (x34_0 : Sl) (x34_1 : Sl) (x34_2 : Sl) =>
  Calls Tryz.prog F.i_isLabeling #[.agg #[.int .i64 x33_0, .int .i64 x33_1, x33_2.v, x33_3.v], .agg #[x34_0.v, x34_1.v, x34_2.v], l.v] w7 (Ret [.at .bool] fun (x36 : Bool) w8 =>
  cond (!x36) (
  Q (⟨none, 0, 0⟩) (⟨none, 0, 0⟩) false w8) (
  V_i_SplitProduct_k1 l Q p_q w8))))))

theorem C_i_SplitProduct {Q : Sl → Sl → Bool → World → Prop} {p_0 : Int} {p_1 : Int} {p_2 : Sl} {p_3 : Sl} {q_0 : Int} {q_1 : Int} {q_2 : Sl} {q_3 : Sl} {n_0 : Sl} {n_1 : Sl} {n_2 : Sl} {l : Sl} {w : World} (h : V_i_SplitProduct Q p_0 p_1 p_2 p_3 q_0 q_1 q_2 q_3 n_0 n_1 n_2 l w) : Calls Tryz.prog F.i_SplitProduct #[.agg #[.int .i64 p_0, .int .i64 p_1, p_2.v, p_3.v], .agg #[.int .i64 q_0, .int .i64 q_1, q_2.v, q_3.v], .agg #[n_0.v, n_1.v, n_2.v], l.v] w (Ret [.at .sl, .at .sl, .at .bool] Q) :=
  mkC (hint := hint) (ann := annOf [(6, ⟨[(13, .sl), (14, .sl), (41, .int .i64)], [16, 17, 18, 42, 43, 44, 45, 46, 47, 48, 49, 50, 51, 52, 53, 54, 55, 56, 57, 58, 59, 60]⟩)]) (args := [.agg #[.int .i64 p_0, .int .i64 p_1, p_2.v, p_3.v], .agg #[.int .i64 q_0, .int .i64 q_1, q_2.v, q_3.v], .agg #[n_0.v, n_1.v, n_2.v], l.v]) (rs := [.at .sl, .at .sl, .at .bool]) Tryz.func29 (by kernel_rfl) (by kernel_rfl) h

end Go.Proofs.YtlmiookpmneicaaGreat
end

section
/- What each function's code computes to. Printed by a program. -/
namespace Go.Proofs.YtlmiookpmneicaaGreat
open Go.GX Go.RowKit
set_option linter.unusedVariables false
set_option maxRecDepth 100000

def V_l_toIntS (Q : Sl → World → Prop) (a : Sl) (w : World) : Prop :=
  RUN Tryz.prog (.at .sl) (Instr.makeSlice T.t_sl_int (.int .i64 a.len) (.int .i64 a.len)) w fun (x7 : Sl) w1 =>
  ∃ (I3 : Int → World → Prop) (m3 : Int → World → Nat), I3 0 w1 ∧ ∀ (i : Int) w2, I3 i w2 → ∀ _ _ _ _ _ _ _ _ _ _ _ _ _ : Value,
  cond (decide ((i : Int) < a.len)) (
  IX a i 1 fun (px18 : Addr) =>
  LD [.int .i64] px18 w2 fun (x19 : Int) =>
  IX x7 i 1 fun (px20 : Addr) =>
  ST px20 0 [.int .i64 x19] w2 fun w3 =>
  I3 (IntKind.i64.wrap (i + 1)) w3 ∧ m3 (IntKind.i64.wrap (i + 1)) w3 < m3 i w2) (
  Q x7 w2)

theorem C_l_toIntS {Q : Sl → World → Prop} {a : Sl} {w : World} (h : V_l_toIntS Q a w) : Calls Tryz.prog F.l_toIntS #[a.v] w (Ret [.at .sl] Q) :=
  mkC (hint := hint) (ann := annOf [(3, ⟨[(4, .int .i64)], [8, 9, 10, 11, 12, 13, 14, 15, 16, 17, 18, 19, 20]⟩)]) (args := [a.v]) (rs := [.at .sl]) Tryz.func31 (by kernel_rfl) (by kernel_rfl) h

def V_l_eqIntS (Q : Bool → World → Prop) (a : Sl) (b : Sl) (w : World) : Prop :=
  cond ((a.len : Int) != b.len) (
  Q false w) (
  ∃ (I4 : Int → World → Prop) (m4 : Int → World → Nat), I4 0 w ∧ ∀ (i : Int) w1, I4 i w1 → ∀ _ _ _ _ _ _ _ _ _ _ _ _ _ _ _ _ : Value,
  cond (decide ((i : Int) < a.len)) (
  IX a i 1 fun (px19 : Addr) =>
  LD [.int .i64] px19 w1 fun (x20 : Int) =>
  IX b i 1 fun (px23 : Addr) =>
  LD [.int .i64] px23 w1 fun (x24 : Int) =>
  ∀ w2, Ext w1 w2 →
  cond ((x20 : Int) != x24) (
  Q false w2) (
  I4 (IntKind.i64.wrap (i + 1)) w2 ∧ m4 (IntKind.i64.wrap (i + 1)) w2 < m4 i w1)) (
  Q true w1))

theorem C_l_eqIntS {Q : Bool → World → Prop} {a : Sl} {b : Sl} {w : World} (h : V_l_eqIntS Q a b w) : Calls Tryz.prog F.l_eqIntS #[a.v, b.v] w (Ret [.at .bool] Q) :=
  mkC (hint := hint) (ann := annOf [(4, ⟨[(5, .int .i64)], [4, 11, 12, 13, 14, 15, 16, 17, 18, 19, 20, 21, 22, 23, 24, 25]⟩)]) (args := [a.v, b.v]) (rs := [.at .bool]) Tryz.func33 (by kernel_rfl) (by kernel_rfl) h

def V_s_PullEdgeStep (Q : Sl → Bool → World → Prop) (p_0 : Int) (p_1 : Int) (p_2 : Sl) (p_3 : Sl) (n_0 : Sl) (n_1 : Sl) (n_2 : Sl) (l : Sl) (w : World) : Prop :=
  NEW T.t_i_Problem #[.int .i64 p_0, .int .i64 p_1, p_2.v, p_3.v] w fun (p_p : Addr) w1 =>
  NEW T.t_i_Network #[n_0.v, n_1.v, n_2.v] w1 fun (p_n : Addr) w2 =>
  LD [.int .i64, .int .i64, .sl, .sl] p_p w2 fun (x12_0 : Int) (x12_1 : Int) (x12_2 : Sl) (x12_3 : Sl) =>
  Calls Tryz.prog F.s_EdgeStep #[.agg #[.int .i64 x12_0, .int .i64 x12_1, x12_2.v, x12_3.v]] w2 (Ret [.agg [.int .i64, .int .i64, .sl, .sl], .at .sl, .at .bool] fun (x13_0_0 : Int) (x13_0_1 : Int) (x13_0_2 : Sl) (x13_0_3 : Sl) (x13_1 : Sl) (x13_2 : Bool) w3 =>
  NEW T.t_i_Problem #[.int .i64 0, .int .i64 0, .slice none 0 0, .slice none 0 0] w3 fun (p_q : Addr) w4 =>
  ST p_q 0 [.int .i64 x13_0_0, .int .i64 x13_0_1, x13_0_2.v, x13_0_3.v] w4 fun w5 =>
  cond (!x13_2) (
  Q (⟨none, 0, 0⟩) false w5) (
  LD [.int .i64, .int .i64, .sl, .sl] p_q w5 fun (x20_0 : Int) (x20_1 : Int) (x20_2 : Sl) (x20_3 : Sl) =>
  LD [.sl, .sl, .sl] p_n w5 fun (x21_0 : Sl) (x21_1 : Sl) (x21_2 : Sl) =>
  Calls Tryz.prog F.s_prAsked #[.agg #[.int .i64 x20_0, .int .i64 x20_1, x20_2.v, x20_3.v], .agg #[x21_0.v, x21_1.v, x21_2.v], l.v] w5 (Ret [.at .bool] fun (x23 : Bool) w6 =>
  cond (!x23) (
  Q (⟨none, 0, 0⟩) false w6) (
  LD [.int .i64, .int .i64, .sl, .sl] p_q w6 fun (x27_0 : Int) (x27_1 : Int) (x27_2 : Sl) (x27_3 : Sl) =>
  LD [.sl, .sl, .sl] p_n w6 fun (x28_0 : Sl) (x28_1 : Sl) (x28_2 : Sl) =>
  Calls Tryz.prog F.s_prIs #[.agg #[.int .i64 x27_0, .int .i64 x27_1, x27_2.v, x27_3.v], .agg #[x28_0.v, x28_1.v, x28_2.v], l.v] w6 (Ret [.at .bool] fun (x30 : Bool) w7 =>
  cond (!x30) (
  Q (⟨none, 0, 0⟩) false w7) (
  LD [.int .i64, .int .i64, .sl, .sl] p_p w7 fun (x33_0_2 : Int) (x33_1_2 : Int) (x33_2_2 : Sl) (x33_3_2 : Sl) =>
  Calls Tryz.prog F.s_elPullEdge #[.agg #[.int .i64 x33_0_2, .int .i64 x33_1_2, x33_2_2.v, x33_3_2.v], x13_1.v, l.v] w7 (Ret [.at .sl] fun (x36_2 : Sl) w9 =>
  Q x36_2 true w9)))))))

theorem C_s_PullEdgeStep {Q : Sl → Bool → World → Prop} {p_0 : Int} {p_1 : Int} {p_2 : Sl} {p_3 : Sl} {n_0 : Sl} {n_1 : Sl} {n_2 : Sl} {l : Sl} {w : World} (h : V_s_PullEdgeStep Q p_0 p_1 p_2 p_3 n_0 n_1 n_2 l w) : Calls Tryz.prog F.s_PullEdgeStep #[.agg #[.int .i64 p_0, .int .i64 p_1, p_2.v, p_3.v], .agg #[n_0.v, n_1.v, n_2.v], l.v] w (Ret [.at .sl, .at .bool] Q) :=
  mkC (hint := hint) (ann := annOf []) (args := [.agg #[.int .i64 p_0, .int .i64 p_1, p_2.v, p_3.v], .agg #[n_0.v, n_1.v, n_2.v], l.v]) (rs := [.at .sl, .at .bool]) Tryz.func34 (by kernel_rfl) (by kernel_rfl) h

def V_i_PullEdgeStep (Q : Sl → Bool → World → Prop) (p_0 : Int) (p_1 : Int) (p_2 : Sl) (p_3 : Sl) (n_0 : Sl) (n_1 : Sl) (n_2 : Sl) (l : Sl) (w : World) : Prop :=
  NEW T.t_i_Problem #[.int .i64 p_0, .int .i64 p_1, p_2.v, p_3.v] w fun (p_p : Addr) w1 =>
  NEW T.t_i_Network #[n_0.v, n_1.v, n_2.v] w1 fun (p_n : Addr) w2 =>
  LD [.int .i64, .int .i64, .sl, .sl] p_p w2 fun (x12_0 : Int) (x12_1 : Int) (x12_2 : Sl) (x12_3 : Sl) =>
  Calls Tryz.prog F.i_EdgeStep #[.agg #[.int .i64 x12_0, .int .i64 x12_1, x12_2.v, x12_3.v]] w2 (Ret [.agg [.int .i64, .int .i64, .sl, .sl], .at .sl, .at .bool] fun (x13_0_0 : Int) (x13_0_1 : Int) (x13_0_2 : Sl) (x13_0_3 : Sl) (x13_1 : Sl) (x13_2 : Bool) w3 =>
  NEW T.t_i_Problem #[.int .i64 0, .int .i64 0, .slice none 0 0, .slice none 0 0] w3 fun (p_q : Addr) w4 =>
  ST p_q 0 [.int .i64 x13_0_0, .int .i64 x13_0_1, x13_0_2.v, x13_0_3.v] w4 fun w5 =>
  cond (!x13_2) (
  Q (⟨none, 0, 0⟩) false w5) (
  LD [.sl, .sl, .sl] p_n w5 fun (x20_0 : Sl) (x20_1 : Sl) (x20_2 : Sl) =>
  Calls Tryz.prog F.i_IsNetwork #[.agg #[x20_0.v, x20_1.v, x20_2.v]] w5 (Ret [.at .bool] fun (x21 : Bool) w6 =>
  cond (!x21) (
  Q (⟨none, 0, 0⟩) false w6) (
  LD [.int .i64, .int .i64, .sl, .sl] p_q w6 fun (x25_0 : Int) (x25_1 : Int) (x25_2 : Sl) (x25_3 : Sl) =>
  LD [.sl, .sl, .sl] p_n w6 fun (x26_0 : Sl) (x26_1 : Sl) (x26_2 : Sl) =>
  Calls Tryz.prog F.i_isSolution #[.agg #[.int .i64 x25_0, .int .i64 x25_1, x25_2.v, x25_3.v], .agg #[x26_0.v, x26_1.v, x26_2.v], l.v] w6 (Ret [.at .bool] fun (x28 : Bool) w7 =>
  cond (!x28) (
  Q (⟨none, 0, 0⟩) false w7) (
  LD [.int .i64, .int .i64, .sl, .sl] p_p w7 fun (x31_0_2 : Int) (x31_1_2 : Int) (x31_2_2 : Sl) (x31_3_2 : Sl) =>
  Calls Tryz.prog F.i_pullEdgeStep #[.agg #[.int .i64 x31_0_2, .int .i64 x31_1_2, x31_2_2.v, x31_3_2.v], x13_1.v, l.v] w7 (Ret [.at .sl, .at .bool] fun (x34_0_2 : Sl) (x34_1_2 : Bool) w9 =>
  Q x34_0_2 x34_1_2 w9)))))))

theorem C_i_PullEdgeStep {Q : Sl → Bool → World → Prop} {p_0 : Int} {p_1 : Int} {p_2 : Sl} {p_3 : Sl} {n_0 : Sl} {n_1 : Sl} {n_2 : Sl} {l : Sl} {w : World} (h : V_i_PullEdgeStep Q p_0 p_1 p_2 p_3 n_0 n_1 n_2 l w) : Calls Tryz.prog F.i_PullEdgeStep #[.agg #[.int .i64 p_0, .int .i64 p_1, p_2.v, p_3.v], .agg #[n_0.v, n_1.v, n_2.v], l.v] w (Ret [.at .sl, .at .bool] Q) :=
  mkC (hint := hint) (ann := annOf []) (args := [.agg #[.int .i64 p_0, .int .i64 p_1, p_2.v, p_3.v], .agg #[n_0.v, n_1.v, n_2.v], l.v]) (rs := [.at .sl, .at .bool]) Tryz.func35 (by kernel_rfl) (by kernel_rfl) h

def V_l_szIntS (Q : Int → World → Prop) (a : Sl) (left : Int) (w : World) : Prop :=
  cond (decide (((IntKind.i64.wrap (left - a.len)) : Int) < 0)) (
  Q (-1) w) (
  Q (IntKind.i64.wrap (left - a.len)) w)

theorem C_l_szIntS {Q : Int → World → Prop} {a : Sl} {left : Int} {w : World} (h : V_l_szIntS Q a left w) : Calls Tryz.prog F.l_szIntS #[a.v, .int .i64 left] w (Ret [.at (.int .i64)] Q) :=
  mkC (hint := hint) (ann := annOf []) (args := [a.v, .int .i64 left]) (rs := [.at (.int .i64)]) Tryz.func53 (by kernel_rfl) (by kernel_rfl) h

def V_l_szEndSS (Q : Int → World → Prop) (a : Sl) (left : Int) (w : World) : Prop :=
  cond (decide (((IntKind.i64.wrap (left - a.len)) : Int) < 0)) (
  Q (-1) w) (
  ∃ (I5 : Int → Int → World → Prop) (m5 : Int → Int → World → Nat), I5 (IntKind.i64.wrap (left - a.len)) 0 w ∧ ∀ (left_2 : Int) (i : Int) w1, I5 left_2 i w1 → ∀ _ _ _ _ _ _ _ _ _ _ _ _ _ _ _ : Value,
  cond (decide ((i : Int) < a.len)) (
  IX a i 1 fun (px20 : Addr) =>
  LD [.sl] px20 w1 fun (x21 : Sl) =>
  Calls Tryz.prog F.l_szEndS #[x21.v, .int .i64 left_2] w1 (Ret [.at (.int .i64)] fun (x23 : Int) w2 =>
  cond (decide ((x23 : Int) < 0)) (
  Q (-1) w2) (
  I5 x23 (IntKind.i64.wrap (i + 1)) w2 ∧ m5 x23 (IntKind.i64.wrap (i + 1)) w2 < m5 left_2 i w1))) (
  Q left_2 w1))

theorem C_l_szEndSS {Q : Int → World → Prop} {a : Sl} {left : Int} {w : World} (h : V_l_szEndSS Q a left w) : Calls Tryz.prog F.l_szEndSS #[a.v, .int .i64 left] w (Ret [.at (.int .i64)] Q) :=
  mkC (hint := hint) (ann := annOf [(5, ⟨[(1, .int .i64), (5, .int .i64)], [4, 12, 13, 14, 15, 16, 17, 18, 19, 20, 21, 22, 23, 24, 25]⟩)]) (args := [a.v, .int .i64 left]) (rs := [.at (.int .i64)]) Tryz.func54 (by kernel_rfl) (by kernel_rfl) h

def V_s_reTwo (Q : Bool → World → Prop) (p_0 : Int) (p_1 : Int) (p_2 : Sl) (p_3 : Sl) (q_0 : Int) (q_1 : Int) (q_2 : Sl) (q_3 : Sl) (w : World) : Prop :=
  NEW T.t_i_Problem #[.int .i64 p_0, .int .i64 p_1, p_2.v, p_3.v] w fun (p_p : Addr) w1 =>
  NEW T.t_i_Problem #[.int .i64 q_0, .int .i64 q_1, q_2.v, q_3.v] w1 fun (p_q : Addr) w2 =>
  LD [.int .i64, .int .i64, .sl, .sl] p_p w2 fun (x5_0 : Int) (x5_1 : Int) (x5_2 : Sl) (x5_3 : Sl) =>
  Calls Tryz.prog F.s_prGood #[.agg #[.int .i64 x5_0, .int .i64 x5_1, x5_2.v, x5_3.v]] w2 (Ret [.at .bool] fun (x6 : Bool) w3 =>
  cond x6 (
  LD [.int .i64, .int .i64, .sl, .sl] p_q w3 fun (x8_0 : Int) (x8_1 : Int) (x8_2 : Sl) (x8_3 : Sl) =>
  Calls Tryz.prog F.s_prGood #[.agg #[.int .i64 x8_0, .int .i64 x8_1, x8_2.v, x8_3.v]] w3 (Ret [.at .bool] fun (x9 : Bool) w4 =>
  cond x9 (
  LD [.int .i64] (p_p.add 1) w4 fun (x13 : Int) =>
  LD [.int .i64] (p_q.add 1) w4 fun (x15 : Int) =>
  Q ((x13 : Int) == x15) w4) (
  Q false w4))) (
  Q false w3))

theorem C_s_reTwo {Q : Bool → World → Prop} {p_0 : Int} {p_1 : Int} {p_2 : Sl} {p_3 : Sl} {q_0 : Int} {q_1 : Int} {q_2 : Sl} {q_3 : Sl} {w : World} (h : V_s_reTwo Q p_0 p_1 p_2 p_3 q_0 q_1 q_2 q_3 w) : Calls Tryz.prog F.s_reTwo #[.agg #[.int .i64 p_0, .int .i64 p_1, p_2.v, p_3.v], .agg #[.int .i64 q_0, .int .i64 q_1, q_2.v, q_3.v]] w (Ret [.at .bool] Q) :=
  mkC (hint := hint) (ann := annOf []) (args := [.agg #[.int .i64 p_0, .int .i64 p_1, p_2.v, p_3.v], .agg #[.int .i64 q_0, .int .i64 q_1, q_2.v, q_3.v]]) (rs := [.at .bool]) Tryz.func55 (by kernel_rfl) (by kernel_rfl) h

def V_s_prAsked (Q : Bool → World → Prop) (p_0 : Int) (p_1 : Int) (p_2 : Sl) (p_3 : Sl) (n_0 : Sl) (n_1 : Sl) (n_2 : Sl) (l : Sl) (w : World) : Prop :=
  NEW T.t_i_Problem #[.int .i64 p_0, .int .i64 p_1, p_2.v, p_3.v] w fun (p_p : Addr) w1 =>
  NEW T.t_i_Network #[n_0.v, n_1.v, n_2.v] w1 fun (p_n : Addr) w2 =>
  LD [.int .i64, .int .i64, .sl, .sl] p_p w2 fun (x7_0 : Int) (x7_1 : Int) (x7_2 : Sl) (x7_3 : Sl) =>
  Calls Tryz.prog F.s_prGood #[.agg #[.int .i64 x7_0, .int .i64 x7_1, x7_2.v, x7_3.v]] w2 (Ret [.at .bool] fun (x8 : Bool) w3 =>
  cond x8 (
  LD [.sl, .sl, .sl] p_n w3 fun (x10_0 : Sl) (x10_1 : Sl) (x10_2 : Sl) =>
  Calls Tryz.prog F.s_neGood #[.agg #[x10_0.v, x10_1.v, x10_2.v]] w3 (Ret [.at .bool] fun (x11 : Bool) w4 =>
  cond x11 (
  LD [.int .i64, .int .i64, .sl, .sl] p_p w4 fun (x14_0 : Int) (x14_1 : Int) (x14_2 : Sl) (x14_3 : Sl) =>
  LD [.sl, .sl, .sl] p_n w4 fun (x15_0 : Sl) (x15_1 : Sl) (x15_2 : Sl) =>
  Calls Tryz.prog F.s_prShape #[.agg #[.int .i64 x14_0, .int .i64 x14_1, x14_2.v, x14_3.v], .agg #[x15_0.v, x15_1.v, x15_2.v], l.v] w4 (Ret [.at .bool] fun (x17 : Bool) w5 =>
  Q x17 w5)) (
  Q false w4))) (
  Q false w3))

theorem C_s_prAsked {Q : Bool → World → Prop} {p_0 : Int} {p_1 : Int} {p_2 : Sl} {p_3 : Sl} {n_0 : Sl} {n_1 : Sl} {n_2 : Sl} {l : Sl} {w : World} (h : V_s_prAsked Q p_0 p_1 p_2 p_3 n_0 n_1 n_2 l w) : Calls Tryz.prog F.s_prAsked #[.agg #[.int .i64 p_0, .int .i64 p_1, p_2.v, p_3.v], .agg #[n_0.v, n_1.v, n_2.v], l.v] w (Ret [.at .bool] Q) :=
  mkC (hint := hint) (ann := annOf []) (args := [.agg #[.int .i64 p_0, .int .i64 p_1, p_2.v, p_3.v], .agg #[n_0.v, n_1.v, n_2.v], l.v]) (rs := [.at .bool]) Tryz.func57 (by kernel_rfl) (by kernel_rfl) h

def V_s_prIs (Q : Bool → World → Prop) (p_0 : Int) (p_1 : Int) (p_2 : Sl) (p_3 : Sl) (n_0 : Sl) (n_1 : Sl) (n_2 : Sl) (l : Sl) (w : World) : Prop :=
  NEW T.t_i_Problem #[.int .i64 p_0, .int .i64 p_1, p_2.v, p_3.v] w fun (p_p : Addr) w1 =>
  NEW T.t_i_Network #[n_0.v, n_1.v, n_2.v] w1 fun (p_n : Addr) w2 =>
  LD [.int .i64, .int .i64, .sl, .sl] p_p w2 fun (x10_0 : Int) (x10_1 : Int) (x10_2 : Sl) (x10_3 : Sl) =>
  LD [.sl, .sl, .sl] p_n w2 fun (x11_0 : Sl) (x11_1 : Sl) (x11_2 : Sl) =>
  Calls Tryz.prog F.s_prFault #[.agg #[.int .i64 x10_0, .int .i64 x10_1, x10_2.v, x10_3.v], .agg #[x11_0.v, x11_1.v, x11_2.v], l.v] w2 (Ret [.at (.int .i64), .at (.int .i64)] fun (x13_0 : Int) (x13_1 : Int) w3 =>
  Q (decide ((x13_0 : Int) < 0)) w3)

theorem C_s_prIs {Q : Bool → World → Prop} {p_0 : Int} {p_1 : Int} {p_2 : Sl} {p_3 : Sl} {n_0 : Sl} {n_1 : Sl} {n_2 : Sl} {l : Sl} {w : World} (h : V_s_prIs Q p_0 p_1 p_2 p_3 n_0 n_1 n_2 l w) : Calls Tryz.prog F.s_prIs #[.agg #[.int .i64 p_0, .int .i64 p_1, p_2.v, p_3.v], .agg #[n_0.v, n_1.v, n_2.v], l.v] w (Ret [.at .bool] Q) :=
  mkC (hint := hint) (ann := annOf []) (args := [.agg #[.int .i64 p_0, .int .i64 p_1, p_2.v, p_3.v], .agg #[n_0.v, n_1.v, n_2.v], l.v]) (rs := [.at .bool]) Tryz.func58 (by kernel_rfl) (by kernel_rfl) h

end Go.Proofs.YtlmiookpmneicaaGreat
end

section
/- What each function's code computes to. Printed by a program. -/
namespace Go.Proofs.YtlmiookpmneicaaGreat
open Go.GX Go.RowKit
set_option linter.unusedVariables false
set_option maxRecDepth 100000

def V_s_l1All (Q : Bool → World → Prop) (l : Sl) (lo : Int) (hi : Int) (w : World) : Prop :=
  ∃ (I2 : Int → World → Prop) (m2 : Int → World → Nat), I2 0 w ∧ ∀ (x11 : Int) w1, I2 x11 w1 → ∀ _ _ _ _ _ _ _ _ _ _ _ : Value,
  cond (decide ((x11 : Int) < l.len)) (
  IX l x11 1 fun (px13 : Addr) =>
  LD [.int .i64] px13 w1 fun (x14 : Int) =>
  Calls Tryz.prog F.s_l1In #[.int .i64 x14, .int .i64 lo, .int .i64 hi] w1 (Ret [.at .bool] fun (x18 : Bool) w2 =>
  cond (!x18) (
  Q false w2) (
  I2 (IntKind.i64.wrap (x11 + 1)) w2 ∧ m2 (IntKind.i64.wrap (x11 + 1)) w2 < m2 x11 w1))) (
  Q true w1)

theorem C_s_l1All {Q : Bool → World → Prop} {l : Sl} {lo : Int} {hi : Int} {w : World} (h : V_s_l1All Q l lo hi w) : Calls Tryz.prog F.s_l1All #[l.v, .int .i64 lo, .int .i64 hi] w (Ret [.at .bool] Q) :=
  mkC (hint := hint) (ann := annOf [(2, ⟨[(11, .int .i64)], [6, 8, 12, 13, 14, 15, 16, 17, 18, 19, 20]⟩)]) (args := [l.v, .int .i64 lo, .int .i64 hi]) (rs := [.at .bool]) Tryz.func59 (by kernel_rfl) (by kernel_rfl) h

def V_s_neDegrees (Q : Sl → World → Prop) (n_0 : Sl) (n_1 : Sl) (n_2 : Sl) (w : World) : Prop :=
  NEW T.t_i_Network #[n_0.v, n_1.v, n_2.v] w fun (p_n : Addr) w1 =>
  LD [.sl] (p_n.add 0) w1 fun (x7 : Sl) =>
  ∃ (I3 : Sl → Int → World → Prop) (m3 : Sl → Int → World → Nat), I3 (⟨none, 0, 0⟩) 0 w1 ∧ ∀ (out : Sl) (x9 : Int) w2, I3 out x9 w2 → ∀ _ _ _ _ _ _ _ _ _ _ : Value,
  cond (decide ((x9 : Int) < x7.len)) (
  IX x7 x9 1 fun (px11 : Addr) =>
  LD [.sl] px11 w2 fun (x12 : Sl) =>
  RUN Tryz.prog (.at .sl) (Instr.buildSlice T.t_sl_int 1 #[(0, .int .i64 x12.len)]) w2 fun (x16 : Sl) w3 =>
  RUN Tryz.prog (.at .sl) (bsem .append #[T.t_sl_int, T.t_sl_int] T.t_sl_int #[out.v, x16.v]) w3 fun (x17 : Sl) w4 =>
  I3 x17 (IntKind.i64.wrap (x9 + 1)) w4 ∧ m3 x17 (IntKind.i64.wrap (x9 + 1)) w4 < m3 out x9 w2) (
  Q out w2)

theorem C_s_neDegrees {Q : Sl → World → Prop} {n_0 : Sl} {n_1 : Sl} {n_2 : Sl} {w : World} (h : V_s_neDegrees Q n_0 n_1 n_2 w) : Calls Tryz.prog F.s_neDegrees #[.agg #[n_0.v, n_1.v, n_2.v]] w (Ret [.at .sl] Q) :=
  mkC (hint := hint) (ann := annOf [(3, ⟨[(3, .sl), (9, .int .i64)], [5, 10, 11, 12, 13, 14, 15, 16, 17, 18]⟩)]) (args := [.agg #[n_0.v, n_1.v, n_2.v]]) (rs := [.at .sl]) Tryz.func60 (by kernel_rfl) (by kernel_rfl) h

def V_l_toEndSS (Q : Sl → World → Prop) (a : Sl) (w : World) : Prop :=
  RUN Tryz.prog (.at .sl) (Instr.makeSlice T.t_sl_sl_i_End (.int .i64 a.len) (.int .i64 a.len)) w fun (x7 : Sl) w1 =>
  ∃ (I3 : Int → World → Prop) (m3 : Int → World → Nat), I3 0 w1 ∧ ∀ (i : Int) w2, I3 i w2 → ∀ _ _ _ _ _ _ _ _ _ _ _ _ _ _ : Value,
  cond (decide ((i : Int) < a.len)) (
  IX a i 1 fun (px18 : Addr) =>
  LD [.sl] px18 w2 fun (x19 : Sl) =>
  Calls Tryz.prog F.l_toEndS #[x19.v] w2 (Ret [.at .sl] fun (x20 : Sl) w3 =>
  IX x7 i 1 fun (px21 : Addr) =>
  ST px21 0 [x20.v] w3 fun w4 =>
  I3 (IntKind.i64.wrap (i + 1)) w4 ∧ m3 (IntKind.i64.wrap (i + 1)) w4 < m3 i w2)) (
  Q x7 w2)

theorem C_l_toEndSS {Q : Sl → World → Prop} {a : Sl} {w : World} (h : V_l_toEndSS Q a w) : Calls Tryz.prog F.l_toEndSS #[a.v] w (Ret [.at .sl] Q) :=
  mkC (hint := hint) (ann := annOf [(3, ⟨[(4, .int .i64)], [8, 9, 10, 11, 12, 13, 14, 15, 16, 17, 18, 19, 20, 21]⟩)]) (args := [a.v]) (rs := [.at .sl]) Tryz.func62 (by kernel_rfl) (by kernel_rfl) h

def V_i_areProblems (Q : Bool → World → Prop) (p_0 : Int) (p_1 : Int) (p_2 : Sl) (p_3 : Sl) (q_0 : Int) (q_1 : Int) (q_2 : Sl) (q_3 : Sl) (w : World) : Prop :=
  NEW T.t_i_Problem #[.int .i64 p_0, .int .i64 p_1, p_2.v, p_3.v] w fun (p_p : Addr) w1 =>
  NEW T.t_i_Problem #[.int .i64 q_0, .int .i64 q_1, q_2.v, q_3.v] w1 fun (p_q : Addr) w2 =>
  LD [.int .i64, .int .i64, .sl, .sl] p_p w2 fun (x5_0 : Int) (x5_1 : Int) (x5_2 : Sl) (x5_3 : Sl) =>
  Calls Tryz.prog F.i_IsProblem #[.agg #[.int .i64 x5_0, .int .i64 x5_1, x5_2.v, x5_3.v]] w2 (Ret [.at .bool] fun (x6 : Bool) w3 =>
  cond x6 (
  LD [.int .i64, .int .i64, .sl, .sl] p_q w3 fun (x8_0 : Int) (x8_1 : Int) (x8_2 : Sl) (x8_3 : Sl) =>
  Calls Tryz.prog F.i_IsProblem #[.agg #[.int .i64 x8_0, .int .i64 x8_1, x8_2.v, x8_3.v]] w3 (Ret [.at .bool] fun (x9 : Bool) w4 =>
  cond x9 (
  LD [.int .i64] (p_p.add 1) w4 fun (x13 : Int) =>
  LD [.int .i64] (p_q.add 1) w4 fun (x15 : Int) =>
  Q ((x13 : Int) == x15) w4) (
  Q false w4))) (
  Q false w3))

theorem C_i_areProblems {Q : Bool → World → Prop} {p_0 : Int} {p_1 : Int} {p_2 : Sl} {p_3 : Sl} {q_0 : Int} {q_1 : Int} {q_2 : Sl} {q_3 : Sl} {w : World} (h : V_i_areProblems Q p_0 p_1 p_2 p_3 q_0 q_1 q_2 q_3 w) : Calls Tryz.prog F.i_areProblems #[.agg #[.int .i64 p_0, .int .i64 p_1, p_2.v, p_3.v], .agg #[.int .i64 q_0, .int .i64 q_1, q_2.v, q_3.v]] w (Ret [.at .bool] Q) :=
  mkC (hint := hint) (ann := annOf []) (args := [.agg #[.int .i64 p_0, .int .i64 p_1, p_2.v, p_3.v], .agg #[.int .i64 q_0, .int .i64 q_1, q_2.v, q_3.v]]) (rs := [.at .bool]) Tryz.func63 (by kernel_rfl) (by kernel_rfl) h

def V_i_isConfigMap (Q : Bool → World → Prop) (x0_0 : Int) (x0_1 : Int) (x0_2 : Sl) (x0_3 : Sl) (x1_0 : Int) (x1_1 : Int) (x1_2 : Sl) (x1_3 : Sl) (x2 : Sl) (w : World) : Prop :=
  NEW T.t_i_Problem #[.int .i64 x0_0, .int .i64 x0_1, x0_2.v, x0_3.v] w fun (px3 : Addr) w1 =>
  NEW T.t_i_Problem #[.int .i64 x1_0, .int .i64 x1_1, x1_2.v, x1_3.v] w1 fun (px4 : Addr) w2 =>
  LD [.sl] (px3.add 2) w2 fun (x16 : Sl) =>
  cond ((x2.len : Int) != x16.len) (
  Q false w2) (
  ∃ (I5 : Sl → Sl → Int → World → Prop) (m5 : Sl → Sl → Int → World → Nat), I5 (⟨none, 0, 0⟩) (⟨none, 0, 0⟩) 0 w2 ∧ ∀ (x7 : Sl) (x8 : Sl) (x21 : Int) w3, I5 x7 x8 x21 w3 → ∀ _ _ _ _ _ _ _ _ _ _ _ _ _ _ _ _ _ _ _ _ _ _ _ _ _ _ _ _ _ _ _ _ _ _ _ : Value,
  cond (decide ((x21 : Int) < x2.len)) (
  IX x2 x21 1 fun (px24 : Addr) =>
  LD [.sl] px24 w3 fun (x25 : Sl) =>
  LD [.int .i64] (px4.add 1) w3 fun (x29 : Int) =>
  cond ((x25.len : Int) != x29) (
  Q false w3) (
  LD [.int .i64, .int .i64, .sl, .sl] px4 w3 fun (x32_0 : Int) (x32_1 : Int) (x32_2 : Sl) (x32_3 : Sl) =>
  Calls Tryz.prog F.i_Problem_hasLabels #[.agg #[.int .i64 x32_0, .int .i64 x32_1, x32_2.v, x32_3.v], x25.v] w3 (Ret [.at .bool] fun (x34 : Bool) w4 =>
  cond (!x34) (
  Q false w4) (
  LD [.int .i64, .int .i64, .sl, .sl] px4 w4 fun (x38_0 : Int) (x38_1 : Int) (x38_2 : Sl) (x38_3 : Sl) =>
  Calls Tryz.prog F.i_Problem_node #[.agg #[.int .i64 x38_0, .int .i64 x38_1, x38_2.v, x38_3.v], x25.v] w4 (Ret [.at .bool] fun (x40 : Bool) w5 =>
  cond (!x40) (
  Q false w5) (
  LD [.sl] (px3.add 2) w5 fun (x45_2 : Sl) =>
  IX x45_2 x21 1 fun (px47_2 : Addr) =>
  LD [.sl] px47_2 w5 fun (x48_2 : Sl) =>
  RUN Tryz.prog (.at .sl) (bsem .append #[T.t_sl_int, T.t_sl_int] T.t_sl_int #[x7.v, x48_2.v]) w5 fun (x49_2 : Sl) w8 =>
  RUN Tryz.prog (.at .sl) (bsem .append #[T.t_sl_int, T.t_sl_int] T.t_sl_int #[x8.v, x25.v]) w8 fun (x52_2 : Sl) w9 =>
  I5 x49_2 x52_2 (IntKind.i64.wrap (x21 + 1)) w9 ∧ m5 x49_2 x52_2 (IntKind.i64.wrap (x21 + 1)) w9 < m5 x7 x8 x21 w3)))))) (
  ∃ (I12 : Int → World → Prop) (m12 : Int → World → Nat), I12 0 w3 ∧ ∀ (x56 : Int) w10, I12 x56 w10 → ∀ _ _ _ _ _ _ _ _ _ _ _ _ _ _ _ _ _ _ _ _ _ _ _ _ _ _ _ _ _ _ _ _ _ _ _ _ : Value,
  cond (decide ((x56 : Int) < x7.len)) (
  ∃ (I15 : Int → World → Prop) (m15 : Int → World → Nat), I15 x56 w10 ∧ ∀ (x12 : Int) w11, I15 x12 w11 → ∀ _ _ _ _ _ _ _ _ _ _ _ _ _ _ _ _ _ _ _ _ _ _ _ _ _ _ _ _ _ _ : Value,
  cond (decide ((x12 : Int) < x7.len)) (
  LD [.int .i64, .int .i64, .sl, .sl] px3 w11 fun (x66_0 : Int) (x66_1 : Int) (x66_2 : Sl) (x66_3 : Sl) =>
  IX x7 x56 1 fun (px69 : Addr) =>
  LD [.int .i64] px69 w11 fun (x70 : Int) =>
  IX x7 x12 1 fun (px73 : Addr) =>
  LD [.int .i64] px73 w11 fun (x74 : Int) =>
  QCALL Tryz.prog F.i_Problem_edge #[.agg #[.int .i64 x66_0, .int .i64 x66_1, x66_2.v, x66_3.v], .int .i64 x70, .int .i64 x74] w11 [.at .bool] fun (x75 : Bool) =>
  cond x75 (
  LD [.int .i64, .int .i64, .sl, .sl] px4 w11 fun (x77_0 : Int) (x77_1 : Int) (x77_2 : Sl) (x77_3 : Sl) =>
  IX x8 x56 1 fun (px80 : Addr) =>
  LD [.int .i64] px80 w11 fun (x81 : Int) =>
  IX x8 x12 1 fun (px84 : Addr) =>
  LD [.int .i64] px84 w11 fun (x85 : Int) =>
  QCALL Tryz.prog F.i_Problem_edge #[.agg #[.int .i64 x77_0, .int .i64 x77_1, x77_2.v, x77_3.v], .int .i64 x81, .int .i64 x85] w11 [.at .bool] fun (x86 : Bool) =>
  ∀ w12, Ext w11 w12 →
  cond (!x86) (
  Q false w12) (
  I15 (IntKind.i64.wrap (x12 + 1)) w12 ∧ m15 (IntKind.i64.wrap (x12 + 1)) w12 < m15 x12 w11)) (
  ∀ w13, Ext w11 w13 →
  I15 (IntKind.i64.wrap (x12 + 1)) w13 ∧ m15 (IntKind.i64.wrap (x12 + 1)) w13 < m15 x12 w11)) (
  I12 (IntKind.i64.wrap (x56 + 1)) w11 ∧ m12 (IntKind.i64.wrap (x56 + 1)) w11 < m12 x56 w10)) (
  Q true w10)))

theorem C_i_isConfigMap {Q : Bool → World → Prop} {x0_0 : Int} {x0_1 : Int} {x0_2 : Sl} {x0_3 : Sl} {x1_0 : Int} {x1_1 : Int} {x1_2 : Sl} {x1_3 : Sl} {x2 : Sl} {w : World} (h : V_i_isConfigMap Q x0_0 x0_1 x0_2 x0_3 x1_0 x1_1 x1_2 x1_3 x2 w) : Calls Tryz.prog F.i_isConfigMap #[.agg #[.int .i64 x0_0, .int .i64 x0_1, x0_2.v, x0_3.v], .agg #[.int .i64 x1_0, .int .i64 x1_1, x1_2.v, x1_3.v], x2.v] w (Ret [.at .bool] Q) :=
  mkC (hint := hint) (ann := annOf [(5, ⟨[(7, .sl), (8, .sl), (21, .int .i64)], [6, 9, 10, 22, 23, 24, 25, 26, 27, 28, 29, 30, 31, 32, 33, 34, 35, 36, 37, 38, 39, 40, 41, 42, 43, 44, 45, 46, 47, 48, 49, 50, 51, 52, 53]⟩), (12, ⟨[(56, .int .i64)], [6, 11, 12, 57, 58, 59, 60, 61, 62, 63, 64, 65, 66, 67, 68, 69, 70, 71, 72, 73, 74, 75, 76, 77, 78, 79, 80, 81, 82, 83, 84, 85, 86, 87, 88, 89]⟩), (15, ⟨[(12, .int .i64)], [6, 60, 61, 62, 63, 64, 65, 66, 67, 68, 69, 70, 71, 72, 73, 74, 75, 76, 77, 78, 79, 80, 81, 82, 83, 84, 85, 86, 87, 88]⟩)]) (args := [.agg #[.int .i64 x0_0, .int .i64 x0_1, x0_2.v, x0_3.v], .agg #[.int .i64 x1_0, .int .i64 x1_1, x1_2.v, x1_3.v], x2.v]) (rs := [.at .bool]) Tryz.func64 (by kernel_rfl) (by kernel_rfl) h

def V_i_IsNetwork_k1 (Q : Bool → World → Prop) (px1 : Addr) (w5 : World) : Prop :=
  LD [.sl] (px1.add 0) w5 fun (x31 : Sl) =>
  ∃ (I4 : Int → World → Prop) (m4 : Int → World → Nat), I4 0 w5 ∧ ∀ (x33 : Int) w6, I4 x33 w6 → ∀ _ _ _ _ _ _ _ _ _ _ _ _ _ _ _ _ _ _ _ _ _ _ _ _ _ _ _ _ _ _ _ _ _ _ _ _ _ _ _ _ _ _ _ _ : Value,
  cond (decide ((x33 : Int) < x31.len)) (
  IX x31 x33 1 fun (px36 : Addr) =>
  LD [.sl] px36 w6 fun (x37 : Sl) =>
  cond (decide ((x37.len : Int) > 6)) (
  Q false w6) (
  ∃ (I9 : Int → World → Prop) (m9 : Int → World → Nat), I9 0 w6 ∧ ∀ (x43 : Int) w7, I9 x43 w7 → ∀ _ _ _ _ _ _ _ _ _ _ _ _ _ _ _ _ _ _ _ _ _ _ _ _ _ _ _ _ _ _ _ : Value,
  cond (decide ((x43 : Int) < x37.len)) (
  IX x37 x43 2 fun (px46 : Addr) =>
  LD [.int .i64, .int .i64] px46 w7 fun (x47_0 : Int) (x47_1 : Int) =>
  NEW T.t_i_End #[.int .i64 0, .int .i64 0] w7 fun (px6 : Addr) w8 =>
  ST px6 0 [.int .i64 x47_0, .int .i64 x47_1] w8 fun w9 =>
  LD [.sl, .sl, .sl] px1 w9 fun (x48_0 : Sl) (x48_1 : Sl) (x48_2 : Sl) =>
  LD [.int .i64] (px6.add 0) w9 fun (x50 : Int) =>
  LD [.int .i64] (px6.add 1) w9 fun (x52 : Int) =>
  QCALL Tryz.prog F.i_Network_hasPort #[.agg #[x48_0.v, x48_1.v, x48_2.v], .int .i64 x50, .int .i64 x52] w9 [.at .bool] fun (x53 : Bool) =>
  cond (!x53) (
  ∀ w10, Ext w9 w10 →
  Q false w10) (
  LD [.sl] (px1.add 0) w9 fun (x57 : Sl) =>
  LD [.int .i64] (px6.add 0) w9 fun (x59 : Int) =>
  IX x57 x59 1 fun (px60 : Addr) =>
  LD [.sl] px60 w9 fun (x61 : Sl) =>
  LD [.int .i64] (px6.add 1) w9 fun (x63 : Int) =>
  IX x61 x63 2 fun (px64 : Addr) =>
  LD [.int .i64, .int .i64] px64 w9 fun (x65_0 : Int) (x65_1 : Int) =>
  AEQ Tryz.prog (do eqGuard .neq T.t_i_End (.tmp 65) (.tmp 68) (.agg #[.int .i64 x65_0, .int .i64 x65_1]) (.agg #[.int .i64 x33, .int .i64 x43]); binOp .neq T.t_i_End (.agg #[.int .i64 x65_0, .int .i64 x65_1]) (.agg #[.int .i64 x33, .int .i64 x43])) fun (x69 : Bool) =>
  ∀ w11, Ext w9 w11 →
  cond x69 (
  Q false w11) (
  I9 (IntKind.i64.wrap (x43 + 1)) w11 ∧ m9 (IntKind.i64.wrap (x43 + 1)) w11 < m9 x43 w7))) (
  I4 (IntKind.i64.wrap (x33 + 1)) w7 ∧ m4 (IntKind.i64.wrap (x33 + 1)) w7 < m4 x33 w6))) (
  Q true w6)

def V_i_IsNetwork (Q : Bool → World → Prop) (x0_0 : Sl) (x0_1 : Sl) (x0_2 : Sl) (w : World) : Prop :=
  NEW T.t_i_Network #[x0_0.v, x0_1.v, x0_2.v] w fun (px1 : Addr) w1 =>
  LD [.sl] (px1.add 0) w1 fun (x8 : Sl) =>
  Calls Tryz.prog F.i_within #[.int .i64 x8.len, .int .i64 1, .int .i64 40] w1 (Ret [.at .bool] fun (x10 : Bool) w2 =>
  cond (!x10) (
  Q false w2) (
  LD [.sl] (px1.add 1) w2 fun (x14 : Sl) =>
  LD [.sl] (px1.add 0) w2 fun (x16 : Sl) =>
  Calls Tryz.prog F.i_idsOk #[x14.v, .int .i64 x16.len] w2 (Ret [.at .bool] fun (x18 : Bool) w3 =>
  cond (!x18) (
  Q false w3) (
  LD [.sl] (px1.add 2) w3 fun (x23 : Sl) =>
  LD [.sl] (px1.add 0) w3 fun (x25 : Sl) =>
  Calls Tryz.prog F.i_inputsOk #[x23.v, .int .i64 x25.len] w3 (Ret [.at .bool] fun (x27 : Bool) w4 =>
  cond (!x27) (
  Q false w4) (
  V_i_IsNetwork_k1 Q px1 w4))))))

theorem C_i_IsNetwork {Q : Bool → World → Prop} {x0_0 : Sl} {x0_1 : Sl} {x0_2 : Sl} {w : World} (h : V_i_IsNetwork Q x0_0 x0_1 x0_2 w) : Calls Tryz.prog F.i_IsNetwork #[.agg #[x0_0.v, x0_1.v, x0_2.v]] w (Ret [.at .bool] Q) :=
  mkC (hint := hint) (ann := annOf [(4, ⟨[(33, .int .i64)], [2, 3, 4, 5, 6, 34, 35, 36, 37, 38, 39, 40, 41, 42, 43, 44, 45, 46, 47, 48, 49, 50, 51, 52, 53, 54, 55, 56, 57, 58, 59, 60, 61, 62, 63, 64, 65, 66, 67, 68, 69, 70, 71, 72]⟩), (9, ⟨[(43, .int .i64)], [2, 5, 6, 44, 45, 46, 47, 48, 49, 50, 51, 52, 53, 54, 55, 56, 57, 58, 59, 60, 61, 62, 63, 64, 65, 66, 67, 68, 69, 70, 71]⟩)]) (args := [.agg #[x0_0.v, x0_1.v, x0_2.v]]) (rs := [.at .bool]) Tryz.func65 (by kernel_rfl) (by kernel_rfl) h

def V_i_isSolution (Q : Bool → World → Prop) (p_0 : Int) (p_1 : Int) (p_2 : Sl) (p_3 : Sl) (n_0 : Sl) (n_1 : Sl) (n_2 : Sl) (l : Sl) (w : World) : Prop :=
  NEW T.t_i_Problem #[.int .i64 p_0, .int .i64 p_1, p_2.v, p_3.v] w fun (p_p : Addr) w1 =>
  NEW T.t_i_Network #[n_0.v, n_1.v, n_2.v] w1 fun (p_n : Addr) w2 =>
  LD [.int .i64, .int .i64, .sl, .sl] p_p w2 fun (x10_0 : Int) (x10_1 : Int) (x10_2 : Sl) (x10_3 : Sl) =>
  LD [.sl, .sl, .sl] p_n w2 fun (x11_0 : Sl) (x11_1 : Sl) (x11_2 : Sl) =>
  Calls Tryz.prog F.i_isLabeling #[.agg #[.int .i64 x10_0, .int .i64 x10_1, x10_2.v, x10_3.v], .agg #[x11_0.v, x11_1.v, x11_2.v], l.v] w2 (Ret [.at .bool] fun (x13 : Bool) w3 =>
  cond (!x13) (
  Q false w3) (
  LD [.int .i64, .int .i64, .sl, .sl] p_p w3 fun (x16_0 : Int) (x16_1 : Int) (x16_2 : Sl) (x16_3 : Sl) =>
  LD [.sl, .sl, .sl] p_n w3 fun (x17_0 : Sl) (x17_1 : Sl) (x17_2 : Sl) =>
  Calls Tryz.prog F.i_labelFault #[.agg #[.int .i64 x16_0, .int .i64 x16_1, x16_2.v, x16_3.v], .agg #[x17_0.v, x17_1.v, x17_2.v], l.v] w3 (Ret [.at (.int .i64), .at (.int .i64), .at .bool] fun (x19_0 : Int) (x19_1 : Int) (x19_2 : Bool) w4 =>
  Q (!x19_2) w4)))

theorem C_i_isSolution {Q : Bool → World → Prop} {p_0 : Int} {p_1 : Int} {p_2 : Sl} {p_3 : Sl} {n_0 : Sl} {n_1 : Sl} {n_2 : Sl} {l : Sl} {w : World} (h : V_i_isSolution Q p_0 p_1 p_2 p_3 n_0 n_1 n_2 l w) : Calls Tryz.prog F.i_isSolution #[.agg #[.int .i64 p_0, .int .i64 p_1, p_2.v, p_3.v], .agg #[n_0.v, n_1.v, n_2.v], l.v] w (Ret [.at .bool] Q) :=
  mkC (hint := hint) (ann := annOf []) (args := [.agg #[.int .i64 p_0, .int .i64 p_1, p_2.v, p_3.v], .agg #[n_0.v, n_1.v, n_2.v], l.v]) (rs := [.at .bool]) Tryz.func66 (by kernel_rfl) (by kernel_rfl) h

def V_i_numbersTo (Q : Sl → World → Prop) (n : Int) (w : World) : Prop :=
  RUN Tryz.prog (.at .sl) (Instr.makeSlice T.t_sl_int (.int .i64 n) (.int .i64 n)) w fun (x6 : Sl) w1 =>
  ∃ (I3 : Int → World → Prop) (m3 : Int → World → Nat), I3 0 w1 ∧ ∀ (x9 : Int) w2, I3 x9 w2 → ∀ _ _ _ _ _ _ _ _ : Value,
  cond (decide ((x9 : Int) < x6.len)) (
  IX x6 x9 1 fun (px15 : Addr) =>
  ST px15 0 [.int .i64 x9] w2 fun w3 =>
  I3 (IntKind.i64.wrap (x9 + 1)) w3 ∧ m3 (IntKind.i64.wrap (x9 + 1)) w3 < m3 x9 w2) (
  Q x6 w2)

theorem C_i_numbersTo {Q : Sl → World → Prop} {n : Int} {w : World} (h : V_i_numbersTo Q n w) : Calls Tryz.prog F.i_numbersTo #[.int .i64 n] w (Ret [.at .sl] Q) :=
  mkC (hint := hint) (ann := annOf [(3, ⟨[(9, .int .i64)], [4, 10, 11, 12, 13, 14, 15, 16]⟩)]) (args := [.int .i64 n]) (rs := [.at .sl]) Tryz.func67 (by kernel_rfl) (by kernel_rfl) h

def V_slices_SortStableFunc_sl_int_int (Q : World → Prop) (x : Sl) (cmp : Value) (w : World) : Prop :=
  Calls Tryz.prog F.slices_stableCmpFunc_int #[x.v, .int .i64 x.len, cmp] w (Ret [] fun w1 =>
  Q w1)

theorem C_slices_SortStableFunc_sl_int_int {Q : World → Prop} {x : Sl} {cmp : Value} {w : World} (h : V_slices_SortStableFunc_sl_int_int Q x cmp w) : Calls Tryz.prog F.slices_SortStableFunc_sl_int_int #[x.v, cmp] w (Ret [] Q) :=
  mkC (hint := hint) (ann := annOf []) (args := [x.v, cmp]) (rs := []) Tryz.func68 (by kernel_rfl) (by kernel_rfl) h

def V_slices_BinarySearchFunc_sl_sl_int_sl_int_sl_int (Q : Int → Bool → World → Prop) (x : Sl) (target : Sl) (cmp : Value) (w : World) : Prop :=
  ∃ (I3 : Int → Int → World → Prop) (m3 : Int → Int → World → Nat), I3 0 x.len w ∧ ∀ (i : Int) (j : Int) w1, I3 i j w1 → ∀ _ _ _ _ _ _ _ _ _ _ _ _ _ _ _ _ _ _ _ _ _ : Value,
  cond (decide ((i : Int) < j)) (
  (0 : Int) ≤ 1 ∧ (
  IX x (IntKind.i64.wrap (shrI .u64 (IntKind.u64.wrap (IntKind.i64.wrap (i + j))) 1)) 1 fun (px27 : Addr) =>
  LD [.sl] px27 w1 fun (x28 : Sl) =>
  CALLV Tryz.prog cmp #[x28.v, target.v] w1 (Ret [.at (.int .i64)] fun (x30 : Int) w2 =>
  cond (decide ((x30 : Int) < 0)) (
  I3 (IntKind.i64.wrap ((IntKind.i64.wrap (shrI .u64 (IntKind.u64.wrap (IntKind.i64.wrap (i + j))) 1)) + 1)) j w2 ∧ m3 (IntKind.i64.wrap ((IntKind.i64.wrap (shrI .u64 (IntKind.u64.wrap (IntKind.i64.wrap (i + j))) 1)) + 1)) j w2 < m3 i j w1) (
  I3 i (IntKind.i64.wrap (shrI .u64 (IntKind.u64.wrap (IntKind.i64.wrap (i + j))) 1)) w2 ∧ m3 i (IntKind.i64.wrap (shrI .u64 (IntKind.u64.wrap (IntKind.i64.wrap (i + j))) 1)) w2 < m3 i j w1)))) (
  cond (decide ((i : Int) < x.len)) (
  IX x i 1 fun (px43 : Addr) =>
  LD [.sl] px43 w1 fun (x44 : Sl) =>
  CALLV Tryz.prog cmp #[x44.v, target.v] w1 (Ret [.at (.int .i64)] fun (x46 : Int) w3 =>
  Q i ((x46 : Int) == 0) w3)) (
  Q i false w1))

theorem C_slices_BinarySearchFunc_sl_sl_int_sl_int_sl_int {Q : Int → Bool → World → Prop} {x : Sl} {target : Sl} {cmp : Value} {w : World} (h : V_slices_BinarySearchFunc_sl_sl_int_sl_int_sl_int Q x target cmp w) : Calls Tryz.prog F.slices_BinarySearchFunc_sl_sl_int_sl_int_sl_int #[x.v, target.v, cmp] w (Ret [.at (.int .i64), .at .bool] Q) :=
  mkC (hint := hint) (ann := annOf [(3, ⟨[(9, .int .i64), (10, .int .i64)], [11, 15, 16, 17, 18, 19, 20, 21, 22, 23, 24, 25, 26, 27, 28, 29, 30, 31, 32, 33, 34]⟩)]) (args := [x.v, target.v, cmp]) (rs := [.at (.int .i64), .at .bool]) Tryz.func70 (by kernel_rfl) (by kernel_rfl) h

def V_slices_Sorted_int (Q : Sl → World → Prop) (seq : Value) (w : World) : Prop :=
  Calls Tryz.prog F.slices_Collect_int #[seq] w (Ret [.at .sl] fun (x5 : Sl) w1 =>
  Calls Tryz.prog F.slices_Sort_sl_int_int #[x5.v] w1 (Ret [] fun w2 =>
  Q x5 w2))

theorem C_slices_Sorted_int {Q : Sl → World → Prop} {seq : Value} {w : World} (h : V_slices_Sorted_int Q seq w) : Calls Tryz.prog F.slices_Sorted_int #[seq] w (Ret [.at .sl] Q) :=
  mkC (hint := hint) (ann := annOf []) (args := [seq]) (rs := [.at .sl]) Tryz.func71 (by kernel_rfl) (by kernel_rfl) h

def V_slices_Values_sl_int_int (Q : Value → World → Prop) (s : Sl) (w : World) : Prop :=
  NEW T.t_sl_int #[s.v] w fun (p_s : Addr) w1 =>
  Q (.func (.func F.slices_Values_sl_int_int_1) #[] #[.pointer (some p_s)]) w1

theorem C_slices_Values_sl_int_int {Q : Value → World → Prop} {s : Sl} {w : World} (h : V_slices_Values_sl_int_int Q s w) : Calls Tryz.prog F.slices_Values_sl_int_int #[s.v] w (Ret [.at .val] Q) :=
  mkC (hint := hint) (ann := annOf []) (args := [s.v]) (rs := [.at .val]) Tryz.func72 (by kernel_rfl) (by kernel_rfl) h

def V_slices_Compare_sl_int_int (Q : Int → World → Prop) (s1 : Sl) (s2 : Sl) (w : World) : Prop :=
  ∃ (I2 : Int → World → Prop) (m2 : Int → World → Nat), I2 0 w ∧ ∀ (x11 : Int) w1, I2 x11 w1 → ∀ _ _ _ _ _ _ _ _ _ _ _ _ _ _ _ _ _ _ _ _ _ _ _ _ : Value,
  cond (decide ((x11 : Int) < s1.len)) (
  IX s1 x11 1 fun (px14 : Addr) =>
  LD [.int .i64] px14 w1 fun (x15 : Int) =>
  cond (decide ((x11 : Int) ≥ s2.len)) (
  Q 1 w1) (
  IX s2 x11 1 fun (px22 : Addr) =>
  LD [.int .i64] px22 w1 fun (x23 : Int) =>
  Calls Tryz.prog F.cmp_Compare_int #[.int .i64 x15, .int .i64 x23] w1 (Ret [.at (.int .i64)] fun (x26 : Int) w2 =>
  cond ((x26 : Int) != 0) (
  Q x26 w2) (
  I2 (IntKind.i64.wrap (x11 + 1)) w2 ∧ m2 (IntKind.i64.wrap (x11 + 1)) w2 < m2 x11 w1)))) (
  cond (decide ((s1.len : Int) < s2.len)) (
  Q (-1) w1) (
  Q 0 w1))

theorem C_slices_Compare_sl_int_int {Q : Int → World → Prop} {s1 : Sl} {s2 : Sl} {w : World} (h : V_slices_Compare_sl_int_int Q s1 s2 w) : Calls Tryz.prog F.slices_Compare_sl_int_int #[s1.v, s2.v] w (Ret [.at (.int .i64)] Q) :=
  mkC (hint := hint) (ann := annOf [(2, ⟨[(11, .int .i64)], [4, 5, 6, 7, 8, 12, 13, 14, 15, 16, 17, 18, 19, 20, 21, 22, 23, 24, 25, 26, 27, 28, 29, 30]⟩)]) (args := [s1.v, s2.v]) (rs := [.at (.int .i64)]) Tryz.func73 (by kernel_rfl) (by kernel_rfl) h

def V_l_eqEndSS (Q : Bool → World → Prop) (a : Sl) (b : Sl) (w : World) : Prop :=
  cond ((a.len : Int) != b.len) (
  Q false w) (
  ∃ (I4 : Int → World → Prop) (m4 : Int → World → Nat), I4 0 w ∧ ∀ (i : Int) w1, I4 i w1 → ∀ _ _ _ _ _ _ _ _ _ _ _ _ _ _ _ _ _ : Value,
  cond (decide ((i : Int) < a.len)) (
  IX a i 1 fun (px19 : Addr) =>
  LD [.sl] px19 w1 fun (x20 : Sl) =>
  IX b i 1 fun (px23 : Addr) =>
  LD [.sl] px23 w1 fun (x24 : Sl) =>
  QCALL Tryz.prog F.l_eqEndS #[x20.v, x24.v] w1 [.at .bool] fun (x25 : Bool) =>
  ∀ w2, Ext w1 w2 →
  cond (!x25) (
  Q false w2) (
  I4 (IntKind.i64.wrap (i + 1)) w2 ∧ m4 (IntKind.i64.wrap (i + 1)) w2 < m4 i w1)) (
  Q true w1))

theorem C_l_eqEndSS {Q : Bool → World → Prop} {a : Sl} {b : Sl} {w : World} (h : V_l_eqEndSS Q a b w) : Calls Tryz.prog F.l_eqEndSS #[a.v, b.v] w (Ret [.at .bool] Q) :=
  mkC (hint := hint) (ann := annOf [(4, ⟨[(5, .int .i64)], [4, 11, 12, 13, 14, 15, 16, 17, 18, 19, 20, 21, 22, 23, 24, 25, 26]⟩)]) (args := [a.v, b.v]) (rs := [.at .bool]) Tryz.func74 (by kernel_rfl) (by kernel_rfl) h

def V_l_markIntS (Q : Int → World → Prop) (a : Sl) (k : Int) (w : World) : Prop :=
  ∃ (I2 : Int → Int → World → Prop) (m2 : Int → Int → World → Nat), I2 k 0 w ∧ ∀ (k_2 : Int) (i : Int) w1, I2 k_2 i w1 → ∀ _ _ _ _ _ _ _ _ _ _ _ _ : Value,
  cond (decide ((i : Int) < a.len)) (
  IX a i 1 fun (px15 : Addr) =>
  ST px15 0 [.int .i64 k_2] w1 fun w2 =>
  I2 (IntKind.i64.wrap (k_2 + 1)) (IntKind.i64.wrap (i + 1)) w2 ∧ m2 (IntKind.i64.wrap (k_2 + 1)) (IntKind.i64.wrap (i + 1)) w2 < m2 k_2 i w1) (
  Q k_2 w1)

theorem C_l_markIntS {Q : Int → World → Prop} {a : Sl} {k : Int} {w : World} (h : V_l_markIntS Q a k w) : Calls Tryz.prog F.l_markIntS #[a.v, .int .i64 k] w (Ret [.at (.int .i64)] Q) :=
  mkC (hint := hint) (ann := annOf [(2, ⟨[(1, .int .i64), (5, .int .i64)], [6, 7, 8, 9, 10, 11, 12, 13, 14, 15, 16, 17]⟩)]) (args := [a.v, .int .i64 k]) (rs := [.at (.int .i64)]) Tryz.func75 (by kernel_rfl) (by kernel_rfl) h

def V_l_markEndSS (Q : Int → World → Prop) (a : Sl) (k : Int) (w : World) : Prop :=
  ∃ (I2 : Int → Int → World → Prop) (m2 : Int → Int → World → Nat), I2 k 0 w ∧ ∀ (k_2 : Int) (i : Int) w1, I2 k_2 i w1 → ∀ _ _ _ _ _ _ _ _ _ _ _ _ : Value,
  cond (decide ((i : Int) < a.len)) (
  IX a i 1 fun (px14 : Addr) =>
  LD [.sl] px14 w1 fun (x15 : Sl) =>
  Calls Tryz.prog F.l_markEndS #[x15.v, .int .i64 k_2] w1 (Ret [.at (.int .i64)] fun (x17 : Int) w2 =>
  I2 x17 (IntKind.i64.wrap (i + 1)) w2 ∧ m2 x17 (IntKind.i64.wrap (i + 1)) w2 < m2 k_2 i w1)) (
  Q k_2 w1)

theorem C_l_markEndSS {Q : Int → World → Prop} {a : Sl} {k : Int} {w : World} (h : V_l_markEndSS Q a k w) : Calls Tryz.prog F.l_markEndSS #[a.v, .int .i64 k] w (Ret [.at (.int .i64)] Q) :=
  mkC (hint := hint) (ann := annOf [(2, ⟨[(1, .int .i64), (5, .int .i64)], [6, 7, 8, 9, 10, 11, 12, 13, 14, 15, 16, 17]⟩)]) (args := [a.v, .int .i64 k]) (rs := [.at (.int .i64)]) Tryz.func76 (by kernel_rfl) (by kernel_rfl) h

def V_l_heldIntS (Q : Int → World → Prop) (a : Sl) (k : Int) (w : World) : Prop :=
  ∃ (I2 : Int → Int → World → Prop) (m2 : Int → Int → World → Nat), I2 k 0 w ∧ ∀ (k_2 : Int) (i : Int) w1, I2 k_2 i w1 → ∀ _ _ _ _ _ _ _ _ _ _ _ _ _ _ _ : Value,
  cond (decide ((i : Int) < a.len)) (
  IX a i 1 fun (px14 : Addr) =>
  LD [.int .i64] px14 w1 fun (x15 : Int) =>
  cond ((x15 : Int) != k_2) (
  Q (-1) w1) (
  I2 (IntKind.i64.wrap (k_2 + 1)) (IntKind.i64.wrap (i + 1)) w1 ∧ m2 (IntKind.i64.wrap (k_2 + 1)) (IntKind.i64.wrap (i + 1)) w1 < m2 k_2 i w1)) (
  Q k_2 w1)

theorem C_l_heldIntS {Q : Int → World → Prop} {a : Sl} {k : Int} {w : World} (h : V_l_heldIntS Q a k w) : Calls Tryz.prog F.l_heldIntS #[a.v, .int .i64 k] w (Ret [.at (.int .i64)] Q) :=
  mkC (hint := hint) (ann := annOf [(2, ⟨[(1, .int .i64), (5, .int .i64)], [4, 6, 7, 8, 9, 10, 11, 12, 13, 14, 15, 16, 17, 18, 19]⟩)]) (args := [a.v, .int .i64 k]) (rs := [.at (.int .i64)]) Tryz.func77 (by kernel_rfl) (by kernel_rfl) h

def V_s_ProductProblem_k1 (Q : Int → Int → Sl → Sl → Bool → World → Prop) (p_p : Addr) (p_q : Addr) (px4 : Addr) (w7 : World) : Prop :=
  LD [.int .i64] (p_p.add 0) w7 fun (x21 : Int) =>
  LD [.int .i64] (p_q.add 0) w7 fun (x23 : Int) =>
  ∀ w8, Ext w7 w8 → w8.heap = w7.heap → ∃ (D8 : Nat → Prop),
  ¬ D8 (p_p.add 1).block ∧ (
  LD [.int .i64] (p_p.add 1) w8 fun (x27 : Int) =>
  ¬ D8 (p_p.add 2).block ∧ (
  LD [.sl] (p_p.add 2) w8 fun (x29 : Sl) =>
  ¬ D8 (p_q.add 2).block ∧ (
  LD [.sl] (p_q.add 2) w8 fun (x31 : Sl) =>
  ¬ D8 (p_p.add 1).block ∧ (
  LD [.int .i64] (p_p.add 1) w8 fun (x34 : Int) =>
  ¬ D8 (p_q.add 0).block ∧ (
  LD [.int .i64] (p_q.add 0) w8 fun (x36 : Int) =>
  ¬ D8 (p_p.add 3).block ∧ (
  LD [.sl] (p_p.add 3) w8 fun (x39 : Sl) =>
  ¬ D8 (p_q.add 3).block ∧ (
  LD [.sl] (p_q.add 3) w8 fun (x41 : Sl) =>
  ¬ D8 (p_q.add 0).block ∧ (
  LD [.int .i64] (p_q.add 0) w8 fun (x44 : Int) =>
  Calls Tryz.prog F.s_reProduct #[x29.v, x31.v, .int .i64 (IntKind.i64.wrap (x21 * x23)), .int .i64 x34, .int .i64 x36] w8 (Ret [.at .sl] fun (x37 : Sl) w9 =>
  Chg w8 w9 D8 ∧ (
  Calls Tryz.prog F.s_reProduct #[x39.v, x41.v, .int .i64 (IntKind.i64.wrap (x21 * x23)), .int .i64 2, .int .i64 x44] w9 (Ret [.at .sl] fun (x45 : Sl) w10 =>
  Chg w8 w10 D8 ∧ (
  Chg w8 w10 D8 ∧ (
  ST px4 0 [.int .i64 (IntKind.i64.wrap (x21 * x23)), .int .i64 x27, x37.v, x45.v] w10 fun w11 =>
  LD [.int .i64, .int .i64, .sl, .sl] px4 w11 fun (r0_0_3 : Int) (r0_1_3 : Int) (r0_2_3 : Sl) (r0_3_3 : Sl) =>
  Q r0_0_3 r0_1_3 r0_2_3 r0_3_3 true w11)))))))))))))

def V_s_ProductProblem (Q : Int → Int → Sl → Sl → Bool → World → Prop) (p_0 : Int) (p_1 : Int) (p_2 : Sl) (p_3 : Sl) (q_0 : Int) (q_1 : Int) (q_2 : Sl) (q_3 : Sl) (w : World) : Prop :=
  NEW T.t_i_Problem #[.int .i64 p_0, .int .i64 p_1, p_2.v, p_3.v] w fun (p_p : Addr) w1 =>
  NEW T.t_i_Problem #[.int .i64 q_0, .int .i64 q_1, q_2.v, q_3.v] w1 fun (p_q : Addr) w2 =>
  NEW T.t_i_Problem #[.int .i64 0, .int .i64 0, .slice none 0 0, .slice none 0 0] w2 fun (px4 : Addr) w3 =>
  LD [.int .i64, .int .i64, .sl, .sl] p_p w3 fun (x7_0 : Int) (x7_1 : Int) (x7_2 : Sl) (x7_3 : Sl) =>
  LD [.int .i64, .int .i64, .sl, .sl] p_q w3 fun (x8_0 : Int) (x8_1 : Int) (x8_2 : Sl) (x8_3 : Sl) =>
  Calls Tryz.prog F.s_reTwo #[.agg #[.int .i64 x7_0, .int .i64 x7_1, x7_2.v, x7_3.v], .agg #[.int .i64 x8_0, .int .i64 x8_1, x8_2.v, x8_3.v]] w3 (Ret [.at .bool] fun (x9 : Bool) w4 =>
  cond (!x9) (
  ST px4 0 [.int .i64 0, .int .i64 0, .slice none 0 0, .slice none 0 0] w4 fun w5 =>
  LD [.int .i64, .int .i64, .sl, .sl] px4 w5 fun (r0_0 : Int) (r0_1 : Int) (r0_2 : Sl) (r0_3 : Sl) =>
  Q r0_0 r0_1 r0_2 r0_3 false w5) (
  LD [.int .i64] (p_p.add 0) w4 fun (x13 : Int) =>
  LD [.int .i64] (p_q.add 0) w4 fun (x15 : Int) =>
  cond (decide (((IntKind.i64.wrap (x13 * x15)) : Int) > 8)) (
  ST px4 0 [.int .i64 0, .int .i64 0, .slice none 0 0, .slice none 0 0] w4 fun w6 =>
  LD [.int .i64, .int .i64, .sl, .sl] px4 w6 fun (r0_0_2 : Int) (r0_1_2 : Int) (r0_2_2 : Sl) (r0_3_2 : Sl) =>
  Q r0_0_2 r0_1_2 r0_2_2 r0_3_2 false w6) (
  V_s_ProductProblem_k1 Q p_p p_q px4 w4)))

theorem C_s_ProductProblem {Q : Int → Int → Sl → Sl → Bool → World → Prop} {p_0 : Int} {p_1 : Int} {p_2 : Sl} {p_3 : Sl} {q_0 : Int} {q_1 : Int} {q_2 : Sl} {q_3 : Sl} {w : World} (h : V_s_ProductProblem Q p_0 p_1 p_2 p_3 q_0 q_1 q_2 q_3 w) : Calls Tryz.prog F.s_ProductProblem #[.agg #[.int .i64 p_0, .int .i64 p_1, p_2.v, p_3.v], .agg #[.int .i64 q_0, .int .i64 q_1, q_2.v, q_3.v]] w (Ret [.agg [.int .i64, .int .i64, .sl, .sl], .at .bool] Q) :=
  mkC (hint := hint) (ann := annOf []) (args := [.agg #[.int .i64 p_0, .int .i64 p_1, p_2.v, p_3.v], .agg #[.int .i64 q_0, .int .i64 q_1, q_2.v, q_3.v]]) (rs := [.agg [.int .i64, .int .i64, .sl, .sl], .at .bool]) Tryz.func78 (by kernel_rfl) (by kernel_rfl) h

def V_s_reHalves (Q : Sl → Sl → World → Prop) (x : Sl) (k : Int) (w : World) : Prop :=
  ∃ (I3 : Sl → Sl → Int → World → Prop) (m3 : Sl → Sl → Int → World → Nat), I3 (⟨none, 0, 0⟩) (⟨none, 0, 0⟩) 0 w ∧ ∀ (a : Sl) (b : Sl) (x12 : Int) w1, I3 a b x12 w1 → ∀ _ _ _ _ _ _ _ _ _ _ _ _ _ _ _ _ _ : Value,
  cond (decide ((x12 : Int) < x.len)) (
  IX x x12 1 fun (px14 : Addr) =>
  LD [.int .i64] px14 w1 fun (x15 : Int) =>
  (k : Int) ≠ 0 ∧ (
  RUN Tryz.prog (.at .sl) (Instr.buildSlice T.t_sl_int 1 #[(0, .int .i64 (IntKind.i64.wrap (Int.tdiv x15 k)))]) w1 fun (x20 : Sl) w2 =>
  RUN Tryz.prog (.at .sl) (bsem .append #[T.t_sl_int, T.t_sl_int] T.t_sl_int #[a.v, x20.v]) w2 fun (x21 : Sl) w3 =>
  (k : Int) ≠ 0 ∧ (
  RUN Tryz.prog (.at .sl) (Instr.buildSlice T.t_sl_int 1 #[(0, .int .i64 (Int.tmod x15 k))]) w3 fun (x26 : Sl) w4 =>
  RUN Tryz.prog (.at .sl) (bsem .append #[T.t_sl_int, T.t_sl_int] T.t_sl_int #[b.v, x26.v]) w4 fun (x27 : Sl) w5 =>
  I3 x21 x27 (IntKind.i64.wrap (x12 + 1)) w5 ∧ m3 x21 x27 (IntKind.i64.wrap (x12 + 1)) w5 < m3 a b x12 w1))) (
  Q a b w1)

theorem C_s_reHalves {Q : Sl → Sl → World → Prop} {x : Sl} {k : Int} {w : World} (h : V_s_reHalves Q x k w) : Calls Tryz.prog F.s_reHalves #[x.v, .int .i64 k] w (Ret [.at .sl, .at .sl] Q) :=
  mkC (hint := hint) (ann := annOf [(3, ⟨[(6, .sl), (7, .sl), (12, .int .i64)], [9, 13, 14, 15, 16, 17, 18, 19, 20, 21, 22, 23, 24, 25, 26, 27, 28]⟩)]) (args := [x.v, .int .i64 k]) (rs := [.at .sl, .at .sl]) Tryz.func79 (by kernel_rfl) (by kernel_rfl) h

def V_i_ProductProblem_k1 (Q : Int → Int → Sl → Sl → Bool → World → Prop) (p_p : Addr) (p_q : Addr) (px4 : Addr) (w7 : World) : Prop :=
  LD [.int .i64] (p_p.add 0) w7 fun (x21 : Int) =>
  LD [.int .i64] (p_q.add 0) w7 fun (x23 : Int) =>
  ∀ w8, Ext w7 w8 → w8.heap = w7.heap → ∃ (D8 : Nat → Prop),
  ¬ D8 (p_p.add 1).block ∧ (
  LD [.int .i64] (p_p.add 1) w8 fun (x27 : Int) =>
  ¬ D8 (p_p.add 1).block ∧ (
  LD [.int .i64] (p_p.add 1) w8 fun (x30 : Int) =>
  Calls Tryz.prog F.i_allowedBy #[.int .i64 (IntKind.i64.wrap (x21 * x23)), .int .i64 x30, .func (.func F.i_ProductProblem_1) #[] #[.pointer (some p_q), .pointer (some p_p)]] w8 (Ret [.at .sl] fun (x32 : Sl) w9 =>
  Chg w8 w9 D8 ∧ (
  Calls Tryz.prog F.i_allowedBy #[.int .i64 (IntKind.i64.wrap (x21 * x23)), .int .i64 2, .func (.func F.i_ProductProblem_2) #[] #[.pointer (some p_q), .pointer (some p_p)]] w9 (Ret [.at .sl] fun (x35 : Sl) w10 =>
  Chg w8 w10 D8 ∧ (
  Chg w8 w10 D8 ∧ (
  ST px4 0 [.int .i64 (IntKind.i64.wrap (x21 * x23)), .int .i64 x27, x32.v, x35.v] w10 fun w11 =>
  LD [.int .i64, .int .i64, .sl, .sl] px4 w11 fun (r0_0_3 : Int) (r0_1_3 : Int) (r0_2_3 : Sl) (r0_3_3 : Sl) =>
  Q r0_0_3 r0_1_3 r0_2_3 r0_3_3 true w11)))))))

def V_i_ProductProblem (Q : Int → Int → Sl → Sl → Bool → World → Prop) (p_0 : Int) (p_1 : Int) (p_2 : Sl) (p_3 : Sl) (q_0 : Int) (q_1 : Int) (q_2 : Sl) (q_3 : Sl) (w : World) : Prop :=
  NEW T.t_i_Problem #[.int .i64 p_0, .int .i64 p_1, p_2.v, p_3.v] w fun (p_p : Addr) w1 =>
  NEW T.t_i_Problem #[.int .i64 q_0, .int .i64 q_1, q_2.v, q_3.v] w1 fun (p_q : Addr) w2 =>
  NEW T.t_i_Problem #[.int .i64 0, .int .i64 0, .slice none 0 0, .slice none 0 0] w2 fun (px4 : Addr) w3 =>
  LD [.int .i64, .int .i64, .sl, .sl] p_p w3 fun (x7_0 : Int) (x7_1 : Int) (x7_2 : Sl) (x7_3 : Sl) =>
  LD [.int .i64, .int .i64, .sl, .sl] p_q w3 fun (x8_0 : Int) (x8_1 : Int) (x8_2 : Sl) (x8_3 : Sl) =>
  Calls Tryz.prog F.i_areProblems #[.agg #[.int .i64 x7_0, .int .i64 x7_1, x7_2.v, x7_3.v], .agg #[.int .i64 x8_0, .int .i64 x8_1, x8_2.v, x8_3.v]] w3 (Ret [.at .bool] fun (x9 : Bool) w4 =>
  cond (!x9) (
  ST px4 0 [.int .i64 0, .int .i64 0, .slice none 0 0, .slice none 0 0] w4 fun w5 =>
  LD [.int .i64, .int .i64, .sl, .sl] px4 w5 fun (r0_0 : Int) (r0_1 : Int) (r0_2 : Sl) (r0_3 : Sl) =>
  Q r0_0 r0_1 r0_2 r0_3 false w5) (
  LD [.int .i64] (p_p.add 0) w4 fun (x13 : Int) =>
  LD [.int .i64] (p_q.add 0) w4 fun (x15 : Int) =>
  cond (decide (((IntKind.i64.wrap (x13 * x15)) : Int) > 8)) (
  ST px4 0 [.int .i64 0, .int .i64 0, .slice none 0 0, .slice none 0 0] w4 fun w6 =>
  LD [.int .i64, .int .i64, .sl, .sl] px4 w6 fun (r0_0_2 : Int) (r0_1_2 : Int) (r0_2_2 : Sl) (r0_3_2 : Sl) =>
  Q r0_0_2 r0_1_2 r0_2_2 r0_3_2 false w6) (
  V_i_ProductProblem_k1 Q p_p p_q px4 w4)))

theorem C_i_ProductProblem {Q : Int → Int → Sl → Sl → Bool → World → Prop} {p_0 : Int} {p_1 : Int} {p_2 : Sl} {p_3 : Sl} {q_0 : Int} {q_1 : Int} {q_2 : Sl} {q_3 : Sl} {w : World} (h : V_i_ProductProblem Q p_0 p_1 p_2 p_3 q_0 q_1 q_2 q_3 w) : Calls Tryz.prog F.i_ProductProblem #[.agg #[.int .i64 p_0, .int .i64 p_1, p_2.v, p_3.v], .agg #[.int .i64 q_0, .int .i64 q_1, q_2.v, q_3.v]] w (Ret [.agg [.int .i64, .int .i64, .sl, .sl], .at .bool] Q) :=
  mkC (hint := hint) (ann := annOf []) (args := [.agg #[.int .i64 p_0, .int .i64 p_1, p_2.v, p_3.v], .agg #[.int .i64 q_0, .int .i64 q_1, q_2.v, q_3.v]]) (rs := [.agg [.int .i64, .int .i64, .sl, .sl], .at .bool]) Tryz.func80 (by kernel_rfl) (by kernel_rfl) h

def V_i_isLabeling (Q : Bool → World → Prop) (p_0 : Int) (p_1 : Int) (p_2 : Sl) (p_3 : Sl) (n_0 : Sl) (n_1 : Sl) (n_2 : Sl) (l : Sl) (w : World) : Prop :=
  NEW T.t_i_Problem #[.int .i64 p_0, .int .i64 p_1, p_2.v, p_3.v] w fun (p_p : Addr) w1 =>
  NEW T.t_i_Network #[n_0.v, n_1.v, n_2.v] w1 fun (p_n : Addr) w2 =>
  LD [.sl, .sl, .sl] p_n w2 fun (x7_0 : Sl) (x7_1 : Sl) (x7_2 : Sl) =>
  Calls Tryz.prog F.i_portsOk #[.agg #[x7_0.v, x7_1.v, x7_2.v], l.v] w2 (Ret [.at .bool] fun (x9 : Bool) w3 =>
  cond x9 (
  Calls Tryz.prog F.slices_ContainsFunc_sl_sl_int_sl_int #[l.v, .func (.func F.i_isLabeling_1) #[] #[.pointer (some p_p)]] w3 (Ret [.at .bool] fun (x13 : Bool) w4 =>
  Q (!x13) w4)) (
  Q false w3))

theorem C_i_isLabeling {Q : Bool → World → Prop} {p_0 : Int} {p_1 : Int} {p_2 : Sl} {p_3 : Sl} {n_0 : Sl} {n_1 : Sl} {n_2 : Sl} {l : Sl} {w : World} (h : V_i_isLabeling Q p_0 p_1 p_2 p_3 n_0 n_1 n_2 l w) : Calls Tryz.prog F.i_isLabeling #[.agg #[.int .i64 p_0, .int .i64 p_1, p_2.v, p_3.v], .agg #[n_0.v, n_1.v, n_2.v], l.v] w (Ret [.at .bool] Q) :=
  mkC (hint := hint) (ann := annOf []) (args := [.agg #[.int .i64 p_0, .int .i64 p_1, p_2.v, p_3.v], .agg #[n_0.v, n_1.v, n_2.v], l.v]) (rs := [.at .bool]) Tryz.func81 (by kernel_rfl) (by kernel_rfl) h

def V_i_parts (Q : Sl → Sl → World → Prop) (labels : Sl) (k : Int) (w : World) : Prop :=
  ∃ (I2 : Sl → Sl → Int → World → Prop) (m2 : Sl → Sl → Int → World → Nat), I2 (⟨none, 0, 0⟩) (⟨none, 0, 0⟩) 0 w ∧ ∀ (first : Sl) (second : Sl) (x10 : Int) w1, I2 first second x10 w1 → ∀ _ _ _ _ _ _ _ _ _ _ _ _ _ _ _ _ _ : Value,
  cond (decide ((x10 : Int) < labels.len)) (
  IX labels x10 1 fun (px12 : Addr) =>
  LD [.int .i64] px12 w1 fun (x13 : Int) =>
  ∀ w2, Ext w1 w2 → w2.heap = w1.heap → ∃ (D2 : Nat → Prop),
  (k : Int) ≠ 0 ∧ (
  (k : Int) ≠ 0 ∧ (
  (
  RUN Tryz.prog (.at .sl) (Instr.buildSlice T.t_sl_int 1 #[(0, .int .i64 (IntKind.i64.wrap (Int.tdiv x13 k)))]) w2 fun (x18 : Sl) w3 =>
  Chg w2 w3 D2 ∧ (
  (
  RUN Tryz.prog (.at .sl) (bsem .append #[T.t_sl_int, T.t_sl_int] T.t_sl_int #[first.v, x18.v]) w3 fun (x19 : Sl) w4 =>
  Chg w2 w4 D2 ∧ (
  RUN Tryz.prog (.at .sl) (Instr.buildSlice T.t_sl_int 1 #[(0, .int .i64 (Int.tmod x13 k))]) w4 fun (x24 : Sl) w5 =>
  Chg w2 w5 D2 ∧ (
  RUN Tryz.prog (.at .sl) (bsem .append #[T.t_sl_int, T.t_sl_int] T.t_sl_int #[second.v, x24.v]) w5 fun (x25 : Sl) w6 =>
  Chg w2 w6 D2 ∧ (
  Chg w2 w6 D2 ∧ (
  Chg w2 w6 D2 ∧ (
  I2 x19 x25 (IntKind.i64.wrap (x10 + 1)) w6 ∧ m2 x19 x25 (IntKind.i64.wrap (x10 + 1)) w6 < m2 first second x10 w1)))))) ∧ (
  RUN Tryz.prog (.at .sl) (Instr.buildSlice T.t_sl_int 1 #[(0, .int .i64 (Int.tmod x13 k))]) w3 fun (x24_2 : Sl) w7 =>
  Chg w2 w7 D2 ∧ (
  RUN Tryz.prog (.at .sl) (bsem .append #[T.t_sl_int, T.t_sl_int] T.t_sl_int #[first.v, x18.v]) w7 fun (x19_2 : Sl) w8 =>
  Chg w2 w8 D2 ∧ (
  RUN Tryz.prog (.at .sl) (bsem .append #[T.t_sl_int, T.t_sl_int] T.t_sl_int #[second.v, x24_2.v]) w8 fun (x25_2 : Sl) w9 =>
  Chg w2 w9 D2 ∧ (
  Chg w2 w9 D2 ∧ (
  Chg w2 w9 D2 ∧ (
  I2 x19_2 x25_2 (IntKind.i64.wrap (x10 + 1)) w9 ∧ m2 x19_2 x25_2 (IntKind.i64.wrap (x10 + 1)) w9 < m2 first second x10 w1)))))))) ∧ (
  RUN Tryz.prog (.at .sl) (Instr.buildSlice T.t_sl_int 1 #[(0, .int .i64 (Int.tmod x13 k))]) w2 fun (x24_3 : Sl) w10 =>
  Chg w2 w10 D2 ∧ (
  RUN Tryz.prog (.at .sl) (Instr.buildSlice T.t_sl_int 1 #[(0, .int .i64 (IntKind.i64.wrap (Int.tdiv x13 k)))]) w10 fun (x18_2 : Sl) w11 =>
  Chg w2 w11 D2 ∧ (
  RUN Tryz.prog (.at .sl) (bsem .append #[T.t_sl_int, T.t_sl_int] T.t_sl_int #[first.v, x18_2.v]) w11 fun (x19_3 : Sl) w12 =>
  Chg w2 w12 D2 ∧ (
  RUN Tryz.prog (.at .sl) (bsem .append #[T.t_sl_int, T.t_sl_int] T.t_sl_int #[second.v, x24_3.v]) w12 fun (x25_3 : Sl) w13 =>
  Chg w2 w13 D2 ∧ (
  Chg w2 w13 D2 ∧ (
  Chg w2 w13 D2 ∧ (
  I2 x19_3 x25_3 (IntKind.i64.wrap (x10 + 1)) w13 ∧ m2 x19_3 x25_3 (IntKind.i64.wrap (x10 + 1)) w13 < m2 first second x10 w1)))))))))) (
  Q first second w1)

theorem C_i_parts {Q : Sl → Sl → World → Prop} {labels : Sl} {k : Int} {w : World} (h : V_i_parts Q labels k w) : Calls Tryz.prog F.i_parts #[labels.v, .int .i64 k] w (Ret [.at .sl, .at .sl] Q) :=
  mkC (hint := hint) (ann := annOf [(2, ⟨[(4, .sl), (5, .sl), (10, .int .i64)], [7, 11, 12, 13, 14, 15, 16, 17, 18, 19, 20, 21, 22, 23, 24, 25, 26]⟩)]) (args := [labels.v, .int .i64 k]) (rs := [.at .sl, .at .sl]) Tryz.func82 (by kernel_rfl) (by kernel_rfl) h

def V_s_reMap (Q : Bool → World → Prop) (p_0 : Int) (p_1 : Int) (p_2 : Sl) (p_3 : Sl) (q_0 : Int) (q_1 : Int) (q_2 : Sl) (q_3 : Sl) (f : Sl) (w : World) : Prop :=
  NEW T.t_i_Problem #[.int .i64 p_0, .int .i64 p_1, p_2.v, p_3.v] w fun (p_p : Addr) w1 =>
  NEW T.t_i_Problem #[.int .i64 q_0, .int .i64 q_1, q_2.v, q_3.v] w1 fun (p_q : Addr) w2 =>
  LD [.int .i64] (p_p.add 0) w2 fun (x10 : Int) =>
  cond ((f.len : Int) == x10) (
  LD [.int .i64] (p_q.add 0) w2 fun (x15 : Int) =>
  Calls Tryz.prog F.s_l1All #[f.v, .int .i64 0, .int .i64 (IntKind.i64.wrap (x15 - 1))] w2 (Ret [.at .bool] fun (x17 : Bool) w3 =>
  cond x17 (
  LD [.sl] (p_p.add 2) w3 fun (x21 : Sl) =>
  LD [.sl] (p_q.add 2) w3 fun (x23 : Sl) =>
  Calls Tryz.prog F.s_reInto #[x21.v, x23.v, f.v] w3 (Ret [.at .bool] fun (x25 : Bool) w4 =>
  cond x25 (
  LD [.sl] (p_p.add 3) w4 fun (x29 : Sl) =>
  LD [.sl] (p_q.add 3) w4 fun (x31 : Sl) =>
  Calls Tryz.prog F.s_reInto #[x29.v, x31.v, f.v] w4 (Ret [.at .bool] fun (x33 : Bool) w5 =>
  Q x33 w5)) (
  Q false w4))) (
  Q false w3))) (
  Q false w2)

theorem C_s_reMap {Q : Bool → World → Prop} {p_0 : Int} {p_1 : Int} {p_2 : Sl} {p_3 : Sl} {q_0 : Int} {q_1 : Int} {q_2 : Sl} {q_3 : Sl} {f : Sl} {w : World} (h : V_s_reMap Q p_0 p_1 p_2 p_3 q_0 q_1 q_2 q_3 f w) : Calls Tryz.prog F.s_reMap #[.agg #[.int .i64 p_0, .int .i64 p_1, p_2.v, p_3.v], .agg #[.int .i64 q_0, .int .i64 q_1, q_2.v, q_3.v], f.v] w (Ret [.at .bool] Q) :=
  mkC (hint := hint) (ann := annOf []) (args := [.agg #[.int .i64 p_0, .int .i64 p_1, p_2.v, p_3.v], .agg #[.int .i64 q_0, .int .i64 q_1, q_2.v, q_3.v], f.v]) (rs := [.at .bool]) Tryz.func84 (by kernel_rfl) (by kernel_rfl) h

def V_i_isLabelMap_k1 (Q : Bool → World → Prop) (p_p : Addr) (p_q : Addr) (p_f : Addr) (w5 : World) : Prop :=
  LD [.sl] (p_p.add 2) w5 fun (x21 : Sl) =>
  ∃ (I4 : Int → World → Prop) (m4 : Int → World → Nat), I4 0 w5 ∧ ∀ (x23 : Int) w6, I4 x23 w6 → ∀ _ _ _ _ _ _ _ _ _ _ _ _ : Value,
  cond (decide ((x23 : Int) < x21.len)) (
  IX x21 x23 1 fun (px25 : Addr) =>
  LD [.sl] px25 w6 fun (x26 : Sl) =>
  ∀ w7, Ext w6 w7 → w7.heap = w6.heap →
  LD [.int .i64, .int .i64, .sl, .sl] p_q w7 fun (x27_0 : Int) (x27_1 : Int) (x27_2 : Sl) (x27_3 : Sl) =>
  LD [.sl] p_f w7 fun (x29 : Sl) =>
  Ext w7 w7 ∧ (
  Calls Tryz.prog F.i_images #[x26.v, x29.v] w7 (Ret [.at .sl] fun (x30 : Sl) w8 =>
  Ext w7 w8 ∧ (
  Calls Tryz.prog F.i_Problem_node #[.agg #[.int .i64 x27_0, .int .i64 x27_1, x27_2.v, x27_3.v], x30.v] w8 (Ret [.at .bool] fun (x31 : Bool) w9 =>
  Ext w7 w9 ∧ (
  Ext w7 w9 ∧ (
  cond (!x31) (
  Q false w9) (
  I4 (IntKind.i64.wrap (x23 + 1)) w9 ∧ m4 (IntKind.i64.wrap (x23 + 1)) w9 < m4 x23 w6)))))))) (
  LD [.sl] (p_p.add 3) w6 fun (x35 : Sl) =>
  Calls Tryz.prog F.slices_ContainsFunc_sl_sl_int_sl_int #[x35.v, .func (.func F.i_isLabelMap_1) #[] #[.pointer (some p_q), .pointer (some p_f)]] w6 (Ret [.at .bool] fun (x37 : Bool) w10 =>
  Q (!x37) w10))

def V_i_isLabelMap (Q : Bool → World → Prop) (p_0 : Int) (p_1 : Int) (p_2 : Sl) (p_3 : Sl) (q_0 : Int) (q_1 : Int) (q_2 : Sl) (q_3 : Sl) (f : Sl) (w : World) : Prop :=
  NEW T.t_i_Problem #[.int .i64 p_0, .int .i64 p_1, p_2.v, p_3.v] w fun (p_p : Addr) w1 =>
  NEW T.t_i_Problem #[.int .i64 q_0, .int .i64 q_1, q_2.v, q_3.v] w1 fun (p_q : Addr) w2 =>
  NEW T.t_sl_int #[f.v] w2 fun (p_f : Addr) w3 =>
  LD [.sl] p_f w3 fun (x9 : Sl) =>
  LD [.int .i64] (p_p.add 0) w3 fun (x12 : Int) =>
  cond ((x9.len : Int) != x12) (
  Q false w3) (
  LD [.int .i64, .int .i64, .sl, .sl] p_q w3 fun (x15_0 : Int) (x15_1 : Int) (x15_2 : Sl) (x15_3 : Sl) =>
  LD [.sl] p_f w3 fun (x16 : Sl) =>
  Calls Tryz.prog F.i_Problem_hasLabels #[.agg #[.int .i64 x15_0, .int .i64 x15_1, x15_2.v, x15_3.v], x16.v] w3 (Ret [.at .bool] fun (x17 : Bool) w4 =>
  cond (!x17) (
  Q false w4) (
  V_i_isLabelMap_k1 Q p_p p_q p_f w4)))

theorem C_i_isLabelMap {Q : Bool → World → Prop} {p_0 : Int} {p_1 : Int} {p_2 : Sl} {p_3 : Sl} {q_0 : Int} {q_1 : Int} {q_2 : Sl} {q_3 : Sl} {f : Sl} {w : World} (h : V_i_isLabelMap Q p_0 p_1 p_2 p_3 q_0 q_1 q_2 q_3 f w) : Calls Tryz.prog F.i_isLabelMap #[.agg #[.int .i64 p_0, .int .i64 p_1, p_2.v, p_3.v], .agg #[.int .i64 q_0, .int .i64 q_1, q_2.v, q_3.v], f.v] w (Ret [.at .bool] Q) :=
  mkC (hint := hint) (ann := annOf [(4, ⟨[(23, .int .i64)], [6, 8, 24, 25, 26, 27, 28, 29, 30, 31, 32, 33]⟩)]) (args := [.agg #[.int .i64 p_0, .int .i64 p_1, p_2.v, p_3.v], .agg #[.int .i64 q_0, .int .i64 q_1, q_2.v, q_3.v], f.v]) (rs := [.at .bool]) Tryz.func87 (by kernel_rfl) (by kernel_rfl) h

def V_s_EdgeStep (Q : Int → Int → Sl → Sl → Sl → Bool → World → Prop) (p_0 : Int) (p_1 : Int) (p_2 : Sl) (p_3 : Sl) (w : World) : Prop :=
  NEW T.t_i_Problem #[.int .i64 p_0, .int .i64 p_1, p_2.v, p_3.v] w fun (p_p : Addr) w1 =>
  NEW T.t_i_Problem #[.int .i64 0, .int .i64 0, .slice none 0 0, .slice none 0 0] w1 fun (px2 : Addr) w2 =>
  LD [.int .i64, .int .i64, .sl, .sl] p_p w2 fun (x5_0 : Int) (x5_1 : Int) (x5_2 : Sl) (x5_3 : Sl) =>
  Calls Tryz.prog F.s_prGood #[.agg #[.int .i64 x5_0, .int .i64 x5_1, x5_2.v, x5_3.v]] w2 (Ret [.at .bool] fun (x6 : Bool) w3 =>
  cond (!x6) (
  ST px2 0 [.int .i64 0, .int .i64 0, .slice none 0 0, .slice none 0 0] w3 fun w4 =>
  LD [.int .i64, .int .i64, .sl, .sl] px2 w4 fun (r0_0 : Int) (r0_1 : Int) (r0_2 : Sl) (r0_3 : Sl) =>
  Q r0_0 r0_1 r0_2 r0_3 (⟨none, 0, 0⟩) false w4) (
  LD [.int .i64, .int .i64, .sl, .sl] p_p w3 fun (x9_0 : Int) (x9_1 : Int) (x9_2 : Sl) (x9_3 : Sl) =>
  Calls Tryz.prog F.s_elEdge #[.agg #[.int .i64 x9_0, .int .i64 x9_1, x9_2.v, x9_3.v]] w3 (Ret [.agg [.int .i64, .int .i64, .sl, .sl], .at .sl, .at .bool] fun (x10_0_0 : Int) (x10_0_1 : Int) (x10_0_2 : Sl) (x10_0_3 : Sl) (x10_1 : Sl) (x10_2 : Bool) w5 =>
  ST px2 0 [.int .i64 x10_0_0, .int .i64 x10_0_1, x10_0_2.v, x10_0_3.v] w5 fun w6 =>
  LD [.int .i64, .int .i64, .sl, .sl] px2 w6 fun (r0_0_2 : Int) (r0_1_2 : Int) (r0_2_2 : Sl) (r0_3_2 : Sl) =>
  Q r0_0_2 r0_1_2 r0_2_2 r0_3_2 x10_1 x10_2 w6)))

theorem C_s_EdgeStep {Q : Int → Int → Sl → Sl → Sl → Bool → World → Prop} {p_0 : Int} {p_1 : Int} {p_2 : Sl} {p_3 : Sl} {w : World} (h : V_s_EdgeStep Q p_0 p_1 p_2 p_3 w) : Calls Tryz.prog F.s_EdgeStep #[.agg #[.int .i64 p_0, .int .i64 p_1, p_2.v, p_3.v]] w (Ret [.agg [.int .i64, .int .i64, .sl, .sl], .at .sl, .at .bool] Q) :=
  mkC (hint := hint) (ann := annOf []) (args := [.agg #[.int .i64 p_0, .int .i64 p_1, p_2.v, p_3.v]]) (rs := [.agg [.int .i64, .int .i64, .sl, .sl], .at .sl, .at .bool]) Tryz.func89 (by kernel_rfl) (by kernel_rfl) h

end Go.Proofs.YtlmiookpmneicaaGreat
end

section
/- What each function's code computes to. Printed by a program. -/
namespace Go.Proofs.YtlmiookpmneicaaGreat
open Go.GX Go.RowKit
set_option linter.unusedVariables false
set_option maxRecDepth 100000

def V_s_elPullEdge_k4 (I3 : Sl → Int → World → Prop) (m3 : Sl → Int → World → Nat) (x17 : Int) (w2 : World) (out : Sl) (chosen_2 : Sl) (w10 : World) : Prop :=
  RUN Tryz.prog (.at .sl) (Instr.buildSlice T.t_sl_sl_int 1 #[(0, chosen_2.v)]) w10 fun (x56 : Sl) w11 =>
  RUN Tryz.prog (.at .sl) (bsem .append #[T.t_sl_sl_int, T.t_sl_sl_int] T.t_sl_sl_int #[out.v, x56.v]) w11 fun (x57 : Sl) w12 =>
  I3 x57 (IntKind.i64.wrap (x17 + 1)) w12 ∧ m3 x57 (IntKind.i64.wrap (x17 + 1)) w12 < m3 out x17 w2

def V_s_elPullEdge_k5 (I3 : Sl → Int → World → Prop) (m3 : Sl → Int → World → Nat) (x17 : Int) (w2 : World) (x28_0 : Sl) (out : Sl) (x23 : Sl) (x39 : Bool) (w5 : World) : Prop :=
  cond x39 (
  ∃ (I10 : Sl → Int → World → Prop) (m10 : Sl → Int → World → Nat), I10 (⟨none, 0, 0⟩) 0 w5 ∧ ∀ (chosen : Sl) (x42 : Int) w6, I10 chosen x42 w6 → ∀ _ _ _ _ _ _ _ _ _ _ _ _ : Value,
  cond (decide ((x42 : Int) < x23.len)) (
  IX x23 x42 1 fun (px44 : Addr) =>
  LD [.int .i64] px44 w6 fun (x45 : Int) =>
  Calls Tryz.prog F.s_elLabels #[.int .i64 x45] w6 (Ret [.at .sl] fun (x48 : Sl) w7 =>
  IX x48 0 1 fun (px49 : Addr) =>
  LD [.int .i64] px49 w7 fun (x50 : Int) =>
  RUN Tryz.prog (.at .sl) (Instr.buildSlice T.t_sl_int 1 #[(0, .int .i64 x50)]) w7 fun (x51 : Sl) w8 =>
  RUN Tryz.prog (.at .sl) (bsem .append #[T.t_sl_int, T.t_sl_int] T.t_sl_int #[chosen.v, x51.v]) w8 fun (x52 : Sl) w9 =>
  I10 x52 (IntKind.i64.wrap (x42 + 1)) w9 ∧ m10 x52 (IntKind.i64.wrap (x42 + 1)) w9 < m10 chosen x42 w6)) (
  V_s_elPullEdge_k4 I3 m3 x17 w2 out chosen w6)) (
  V_s_elPullEdge_k4 I3 m3 x17 w2 out x28_0 w5)

def V_s_elPullEdge (Q : Sl → World → Prop) (p_0 : Int) (p_1 : Int) (p_2 : Sl) (p_3 : Sl) (sets : Sl) (l : Sl) (w : World) : Prop :=
  NEW T.t_i_Problem #[.int .i64 p_0, .int .i64 p_1, p_2.v, p_3.v] w fun (p_p : Addr) w1 =>
  ∃ (I3 : Sl → Int → World → Prop) (m3 : Sl → Int → World → Nat), I3 (⟨none, 0, 0⟩) 0 w1 ∧ ∀ (out : Sl) (x17 : Int) w2, I3 out x17 w2 → ∀ _ _ _ _ _ _ _ _ _ _ _ _ _ _ _ _ _ _ _ _ _ _ _ _ _ _ _ _ _ _ _ _ _ _ _ _ _ _ _ _ _ _ _ _ _ _ : Value,
  cond (decide ((x17 : Int) < l.len)) (
  IX l x17 1 fun (px19 : Addr) =>
  LD [.sl] px19 w2 fun (x20 : Sl) =>
  Calls Tryz.prog F.s_coThrough #[sets.v, x20.v] w2 (Ret [.at .sl] fun (x23 : Sl) w3 =>
  LD [.sl] (p_p.add 2) w3 fun (x26 : Sl) =>
  Calls Tryz.prog F.s_elChoice #[x26.v, x23.v, .slice none 0 0] w3 (Ret [.at .sl, .at .bool] fun (x28_0 : Sl) (x28_1 : Bool) w4 =>
  LD [.int .i64] (p_p.add 1) w4 fun (x34 : Int) =>
  cond ((x20.len : Int) != x34) (
  V_s_elPullEdge_k5 I3 m3 x17 w2 x28_0 out x23 true w4) (
  V_s_elPullEdge_k5 I3 m3 x17 w2 x28_0 out x23 (!x28_1) w4)))) (
  Q out w2)

theorem C_s_elPullEdge {Q : Sl → World → Prop} {p_0 : Int} {p_1 : Int} {p_2 : Sl} {p_3 : Sl} {sets : Sl} {l : Sl} {w : World} (h : V_s_elPullEdge Q p_0 p_1 p_2 p_3 sets l w) : Calls Tryz.prog F.s_elPullEdge #[.agg #[.int .i64 p_0, .int .i64 p_1, p_2.v, p_3.v], sets.v, l.v] w (Ret [.at .sl] Q) :=
  mkC (hint := hint) (ann := annOf [(3, ⟨[(7, .sl), (17, .int .i64)], [9, 10, 11, 12, 14, 18, 19, 20, 21, 22, 23, 24, 25, 26, 27, 28, 29, 30, 31, 32, 33, 34, 35, 36, 37, 38, 39, 40, 41, 42, 43, 44, 45, 46, 47, 48, 49, 50, 51, 52, 53, 54, 55, 56, 57, 58]⟩), (10, ⟨[(11, .sl), (42, .int .i64)], [14, 43, 44, 45, 46, 47, 48, 49, 50, 51, 52, 53]⟩)]) (args := [.agg #[.int .i64 p_0, .int .i64 p_1, p_2.v, p_3.v], sets.v, l.v]) (rs := [.at .sl]) Tryz.func90 (by kernel_rfl) (by kernel_rfl) h

def V_i_EdgeStep (Q : Int → Int → Sl → Sl → Sl → Bool → World → Prop) (p_0 : Int) (p_1 : Int) (p_2 : Sl) (p_3 : Sl) (w : World) : Prop :=
  NEW T.t_i_Problem #[.int .i64 p_0, .int .i64 p_1, p_2.v, p_3.v] w fun (p_p : Addr) w1 =>
  NEW T.t_i_Problem #[.int .i64 0, .int .i64 0, .slice none 0 0, .slice none 0 0] w1 fun (px2 : Addr) w2 =>
  LD [.int .i64, .int .i64, .sl, .sl] p_p w2 fun (x5_0 : Int) (x5_1 : Int) (x5_2 : Sl) (x5_3 : Sl) =>
  Calls Tryz.prog F.i_IsProblem #[.agg #[.int .i64 x5_0, .int .i64 x5_1, x5_2.v, x5_3.v]] w2 (Ret [.at .bool] fun (x6 : Bool) w3 =>
  cond (!x6) (
  ST px2 0 [.int .i64 0, .int .i64 0, .slice none 0 0, .slice none 0 0] w3 fun w4 =>
  LD [.int .i64, .int .i64, .sl, .sl] px2 w4 fun (r0_0 : Int) (r0_1 : Int) (r0_2 : Sl) (r0_3 : Sl) =>
  Q r0_0 r0_1 r0_2 r0_3 (⟨none, 0, 0⟩) false w4) (
  LD [.int .i64, .int .i64, .sl, .sl] p_p w3 fun (x9_0 : Int) (x9_1 : Int) (x9_2 : Sl) (x9_3 : Sl) =>
  Calls Tryz.prog F.i_edgeStep #[.agg #[.int .i64 x9_0, .int .i64 x9_1, x9_2.v, x9_3.v]] w3 (Ret [.agg [.int .i64, .int .i64, .sl, .sl], .at .sl, .at .bool] fun (x10_0_0 : Int) (x10_0_1 : Int) (x10_0_2 : Sl) (x10_0_3 : Sl) (x10_1 : Sl) (x10_2 : Bool) w5 =>
  ST px2 0 [.int .i64 x10_0_0, .int .i64 x10_0_1, x10_0_2.v, x10_0_3.v] w5 fun w6 =>
  LD [.int .i64, .int .i64, .sl, .sl] px2 w6 fun (r0_0_2 : Int) (r0_1_2 : Int) (r0_2_2 : Sl) (r0_3_2 : Sl) =>
  Q r0_0_2 r0_1_2 r0_2_2 r0_3_2 x10_1 x10_2 w6)))

theorem C_i_EdgeStep {Q : Int → Int → Sl → Sl → Sl → Bool → World → Prop} {p_0 : Int} {p_1 : Int} {p_2 : Sl} {p_3 : Sl} {w : World} (h : V_i_EdgeStep Q p_0 p_1 p_2 p_3 w) : Calls Tryz.prog F.i_EdgeStep #[.agg #[.int .i64 p_0, .int .i64 p_1, p_2.v, p_3.v]] w (Ret [.agg [.int .i64, .int .i64, .sl, .sl], .at .sl, .at .bool] Q) :=
  mkC (hint := hint) (ann := annOf []) (args := [.agg #[.int .i64 p_0, .int .i64 p_1, p_2.v, p_3.v]]) (rs := [.agg [.int .i64, .int .i64, .sl, .sl], .at .sl, .at .bool]) Tryz.func91 (by kernel_rfl) (by kernel_rfl) h

def V_i_pullEdgeStep (Q : Sl → Bool → World → Prop) (p_0 : Int) (p_1 : Int) (p_2 : Sl) (p_3 : Sl) (sets : Sl) (l : Sl) (w : World) : Prop :=
  NEW T.t_i_Problem #[.int .i64 p_0, .int .i64 p_1, p_2.v, p_3.v] w fun (p_p : Addr) w1 =>
  ∃ (I3 : Sl → Int → World → Prop) (m3 : Sl → Int → World → Nat), I3 (⟨none, 0, 0⟩) 0 w1 ∧ ∀ (out : Sl) (x15 : Int) w2, I3 out x15 w2 → ∀ _ _ _ _ _ _ _ _ _ _ _ _ _ _ _ _ _ _ _ _ _ _ _ : Value,
  cond (decide ((x15 : Int) < l.len)) (
  IX l x15 1 fun (px17 : Addr) =>
  LD [.sl] px17 w2 fun (x18 : Sl) =>
  Calls Tryz.prog F.i_listsOf #[sets.v, x18.v] w2 (Ret [.at .sl] fun (x22 : Sl) w3 =>
  Calls Tryz.prog F.i_firstChoice #[x22.v, .func (.func F.i_pullEdgeStep_1) #[] #[.pointer (some p_p)]] w3 (Ret [.at .sl, .at .bool] fun (x24_0 : Sl) (x24_1 : Bool) w4 =>
  cond (!x24_1) (
  Q (⟨none, 0, 0⟩) false w4) (
  RUN Tryz.prog (.at .sl) (Instr.buildSlice T.t_sl_sl_int 1 #[(0, x24_0.v)]) w4 fun (x31 : Sl) w5 =>
  RUN Tryz.prog (.at .sl) (bsem .append #[T.t_sl_sl_int, T.t_sl_sl_int] T.t_sl_sl_int #[out.v, x31.v]) w5 fun (x32 : Sl) w6 =>
  I3 x32 (IntKind.i64.wrap (x15 + 1)) w6 ∧ m3 x32 (IntKind.i64.wrap (x15 + 1)) w6 < m3 out x15 w2)))) (
  Q out true w2)

theorem C_i_pullEdgeStep {Q : Sl → Bool → World → Prop} {p_0 : Int} {p_1 : Int} {p_2 : Sl} {p_3 : Sl} {sets : Sl} {l : Sl} {w : World} (h : V_i_pullEdgeStep Q p_0 p_1 p_2 p_3 sets l w) : Calls Tryz.prog F.i_pullEdgeStep #[.agg #[.int .i64 p_0, .int .i64 p_1, p_2.v, p_3.v], sets.v, l.v] w (Ret [.at .sl, .at .bool] Q) :=
  mkC (hint := hint) (ann := annOf [(3, ⟨[(8, .sl), (15, .int .i64)], [6, 7, 10, 11, 12, 16, 17, 18, 19, 20, 21, 22, 23, 24, 25, 26, 27, 28, 29, 30, 31, 32, 33]⟩)]) (args := [.agg #[.int .i64 p_0, .int .i64 p_1, p_2.v, p_3.v], sets.v, l.v]) (rs := [.at .sl, .at .bool]) Tryz.func92 (by kernel_rfl) (by kernel_rfl) h

def V_slices_ContainsFunc_sl_i_edge_i_edge (Q : Bool → World → Prop) (s : Sl) (f : Value) (w : World) : Prop :=
  Calls Tryz.prog F.slices_IndexFunc_sl_i_edge_i_edge #[s.v, f] w (Ret [.at (.int .i64)] fun (x7 : Int) w1 =>
  Q (decide ((x7 : Int) ≥ 0)) w1)

theorem C_slices_ContainsFunc_sl_i_edge_i_edge {Q : Bool → World → Prop} {s : Sl} {f : Value} {w : World} (h : V_slices_ContainsFunc_sl_i_edge_i_edge Q s f w) : Calls Tryz.prog F.slices_ContainsFunc_sl_i_edge_i_edge #[s.v, f] w (Ret [.at .bool] Q) :=
  mkC (hint := hint) (ann := annOf []) (args := [s.v, f]) (rs := [.at .bool]) Tryz.func97 (by kernel_rfl) (by kernel_rfl) h

def V_i_Network_edges_k5 (I6 : Sl → Int → World → Prop) (m6 : Sl → Int → World → Nat) (out_2 : Sl) (x18 : Int) (w3 : World) (out_3 : Sl) (w10 : World) : Prop :=
  I6 out_3 (IntKind.i64.wrap (x18 + 1)) w10 ∧ m6 out_3 (IntKind.i64.wrap (x18 + 1)) w10 < m6 out_2 x18 w3

def V_i_Network_edges (Q : Sl → World → Prop) (n_0 : Sl) (n_1 : Sl) (n_2 : Sl) (w : World) : Prop :=
  NEW T.t_i_Network #[n_0.v, n_1.v, n_2.v] w fun (p_n : Addr) w1 =>
  LD [.sl] (p_n.add 0) w1 fun (x9 : Sl) =>
  ∃ (I3 : Sl → Int → World → Prop) (m3 : Sl → Int → World → Nat), I3 (⟨none, 0, 0⟩) 0 w1 ∧ ∀ (out : Sl) (x11 : Int) w2, I3 out x11 w2 → ∀ _ _ _ _ _ _ _ _ _ _ _ _ _ _ _ _ _ _ _ _ _ _ _ _ _ _ _ _ _ _ _ _ _ _ _ _ _ _ _ _ _ _ _ : Value,
  cond (decide ((x11 : Int) < x9.len)) (
  IX x9 x11 1 fun (px14 : Addr) =>
  LD [.sl] px14 w2 fun (x15 : Sl) =>
  ∃ (I6 : Sl → Int → World → Prop) (m6 : Sl → Int → World → Nat), I6 out 0 w2 ∧ ∀ (out_2 : Sl) (x18 : Int) w3, I6 out_2 x18 w3 → ∀ _ _ _ _ _ _ _ _ _ _ _ _ _ _ _ _ _ _ _ _ _ _ _ _ _ _ _ _ _ _ _ _ _ : Value,
  cond (decide ((x18 : Int) < x15.len)) (
  IX x15 x18 2 fun (px21 : Addr) =>
  LD [.int .i64, .int .i64] px21 w3 fun (x22_0 : Int) (x22_1 : Int) =>
  NEW T.t_i_End #[.int .i64 0, .int .i64 0] w3 fun (p_e : Addr) w4 =>
  ST p_e 0 [.int .i64 x22_0, .int .i64 x22_1] w4 fun w5 =>
  LD [.int .i64] (p_e.add 0) w5 fun (x25 : Int) =>
  cond (decide ((x11 : Int) < x25)) (
  LD [.int .i64] (p_e.add 0) w5 fun (x43 : Int) =>
  LD [.int .i64] (p_e.add 1) w5 fun (x45 : Int) =>
  RUN Tryz.prog (.at .sl) (Instr.buildSlice T.t_sl_i_edge 1 #[(0, .agg #[.int .i64 x11, .int .i64 x18, .int .i64 x43, .int .i64 x45])]) w5 fun (x47 : Sl) w6 =>
  RUN Tryz.prog (.at .sl) (bsem .append #[T.t_sl_i_edge, T.t_sl_i_edge] T.t_sl_i_edge #[out_2.v, x47.v]) w6 fun (x48 : Sl) w7 =>
  V_i_Network_edges_k5 I6 m6 out_2 x18 w3 x48 w7) (
  LD [.int .i64] (p_e.add 0) w5 fun (x30 : Int) =>
  cond ((x11 : Int) == x30) (
  LD [.int .i64] (p_e.add 1) w5 fun (x35 : Int) =>
  cond (decide ((x18 : Int) ≤ x35)) (
  LD [.int .i64] (p_e.add 0) w5 fun (x43_2 : Int) =>
  LD [.int .i64] (p_e.add 1) w5 fun (x45_2 : Int) =>
  RUN Tryz.prog (.at .sl) (Instr.buildSlice T.t_sl_i_edge 1 #[(0, .agg #[.int .i64 x11, .int .i64 x18, .int .i64 x43_2, .int .i64 x45_2])]) w5 fun (x47_2 : Sl) w8 =>
  RUN Tryz.prog (.at .sl) (bsem .append #[T.t_sl_i_edge, T.t_sl_i_edge] T.t_sl_i_edge #[out_2.v, x47_2.v]) w8 fun (x48_2 : Sl) w9 =>
  V_i_Network_edges_k5 I6 m6 out_2 x18 w3 x48_2 w9) (
  V_i_Network_edges_k5 I6 m6 out_2 x18 w3 out_2 w5)) (
  V_i_Network_edges_k5 I6 m6 out_2 x18 w3 out_2 w5))) (
  I3 out_2 (IntKind.i64.wrap (x11 + 1)) w3 ∧ m3 out_2 (IntKind.i64.wrap (x11 + 1)) w3 < m3 out x11 w2)) (
  Q out w2)

theorem C_i_Network_edges {Q : Sl → World → Prop} {n_0 : Sl} {n_1 : Sl} {n_2 : Sl} {w : World} (h : V_i_Network_edges Q n_0 n_1 n_2 w) : Calls Tryz.prog F.i_Network_edges #[.agg #[n_0.v, n_1.v, n_2.v]] w (Ret [.at .sl] Q) :=
  mkC (hint := hint) (ann := annOf [(3, ⟨[(3, .sl), (11, .int .i64)], [4, 5, 6, 7, 12, 13, 14, 15, 16, 17, 18, 19, 20, 21, 22, 23, 24, 25, 26, 27, 28, 29, 30, 31, 32, 33, 34, 35, 36, 37, 38, 39, 40, 41, 42, 43, 44, 45, 46, 47, 48, 49, 50]⟩), (6, ⟨[(3, .sl), (18, .int .i64)], [6, 7, 19, 20, 21, 22, 23, 24, 25, 26, 27, 28, 29, 30, 31, 32, 33, 34, 35, 36, 37, 38, 39, 40, 41, 42, 43, 44, 45, 46, 47, 48, 49]⟩)]) (args := [.agg #[n_0.v, n_1.v, n_2.v]]) (rs := [.at .sl]) Tryz.func98 (by kernel_rfl) (by kernel_rfl) h

def V_i_Problem_edgeChoice (Q : Sl → Bool → World → Prop) (p_0 : Int) (p_1 : Int) (p_2 : Sl) (p_3 : Sl) (lists : Sl) (w : World) : Prop :=
  NEW T.t_i_Problem #[.int .i64 p_0, .int .i64 p_1, p_2.v, p_3.v] w fun (p_p : Addr) w1 =>
  Calls Tryz.prog F.i_firstChoice #[lists.v, .func (.func F.i_Problem_edgeChoice_1) #[] #[.pointer (some p_p)]] w1 (Ret [.at .sl, .at .bool] fun (x8_0 : Sl) (x8_1 : Bool) w2 =>
  Q x8_0 x8_1 w2)

theorem C_i_Problem_edgeChoice {Q : Sl → Bool → World → Prop} {p_0 : Int} {p_1 : Int} {p_2 : Sl} {p_3 : Sl} {lists : Sl} {w : World} (h : V_i_Problem_edgeChoice Q p_0 p_1 p_2 p_3 lists w) : Calls Tryz.prog F.i_Problem_edgeChoice #[.agg #[.int .i64 p_0, .int .i64 p_1, p_2.v, p_3.v], lists.v] w (Ret [.at .sl, .at .bool] Q) :=
  mkC (hint := hint) (ann := annOf []) (args := [.agg #[.int .i64 p_0, .int .i64 p_1, p_2.v, p_3.v], lists.v]) (rs := [.at .sl, .at .bool]) Tryz.func101 (by kernel_rfl) (by kernel_rfl) h

def V_i_listsOf (Q : Sl → World → Prop) (sets : Sl) (numbers : Sl) (w : World) : Prop :=
  ∃ (I3 : Sl → Int → World → Prop) (m3 : Sl → Int → World → Nat), I3 (⟨none, 0, 0⟩) 0 w ∧ ∀ (out : Sl) (x10 : Int) w1, I3 out x10 w1 → ∀ _ _ _ _ _ _ _ _ _ _ _ _ _ : Value,
  cond (decide ((x10 : Int) < numbers.len)) (
  IX numbers x10 1 fun (px12 : Addr) =>
  LD [.int .i64] px12 w1 fun (x13 : Int) =>
  IX sets x13 1 fun (px17 : Addr) =>
  LD [.int .i64] px17 w1 fun (x18 : Int) =>
  Calls Tryz.prog F.i_labelsIn #[.int .i64 x18] w1 (Ret [.at .sl] fun (x19 : Sl) w2 =>
  RUN Tryz.prog (.at .sl) (Instr.buildSlice T.t_sl_sl_int 1 #[(0, x19.v)]) w2 fun (x20 : Sl) w3 =>
  RUN Tryz.prog (.at .sl) (bsem .append #[T.t_sl_sl_int, T.t_sl_sl_int] T.t_sl_sl_int #[out.v, x20.v]) w3 fun (x21 : Sl) w4 =>
  I3 x21 (IntKind.i64.wrap (x10 + 1)) w4 ∧ m3 x21 (IntKind.i64.wrap (x10 + 1)) w4 < m3 out x10 w1)) (
  Q out w1)

theorem C_i_listsOf {Q : Sl → World → Prop} {sets : Sl} {numbers : Sl} {w : World} (h : V_i_listsOf Q sets numbers w) : Calls Tryz.prog F.i_listsOf #[sets.v, numbers.v] w (Ret [.at .sl] Q) :=
  mkC (hint := hint) (ann := annOf [(3, ⟨[(5, .sl), (10, .int .i64)], [7, 11, 12, 13, 14, 15, 16, 17, 18, 19, 20, 21, 22]⟩)]) (args := [sets.v, numbers.v]) (rs := [.at .sl]) Tryz.func102 (by kernel_rfl) (by kernel_rfl) h

def V_s_l1In (Q : Bool → World → Prop) (n : Int) (lo : Int) (hi : Int) (w : World) : Prop :=
  cond (decide ((n : Int) ≥ lo)) (
  Q (decide ((n : Int) ≤ hi)) w) (
  Q false w)

theorem C_s_l1In {Q : Bool → World → Prop} {n : Int} {lo : Int} {hi : Int} {w : World} (h : V_s_l1In Q n lo hi w) : Calls Tryz.prog F.s_l1In #[.int .i64 n, .int .i64 lo, .int .i64 hi] w (Ret [.at .bool] Q) :=
  mkC (hint := hint) (ann := annOf []) (args := [.int .i64 n, .int .i64 lo, .int .i64 hi]) (rs := [.at .bool]) Tryz.func111 (by kernel_rfl) (by kernel_rfl) h

def V_i_within (Q : Bool → World → Prop) (n : Int) (low : Int) (high : Int) (w : World) : Prop :=
  cond (decide ((low : Int) ≤ n)) (
  Q (decide ((n : Int) ≤ high)) w) (
  Q false w)

theorem C_i_within {Q : Bool → World → Prop} {n : Int} {low : Int} {high : Int} {w : World} (h : V_i_within Q n low high w) : Calls Tryz.prog F.i_within #[.int .i64 n, .int .i64 low, .int .i64 high] w (Ret [.at .bool] Q) :=
  mkC (hint := hint) (ann := annOf []) (args := [.int .i64 n, .int .i64 low, .int .i64 high]) (rs := [.at .bool]) Tryz.func113 (by kernel_rfl) (by kernel_rfl) h

end Go.Proofs.YtlmiookpmneicaaGreat
end
