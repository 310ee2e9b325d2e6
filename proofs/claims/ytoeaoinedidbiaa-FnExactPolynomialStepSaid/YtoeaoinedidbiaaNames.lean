/- The numbers of functions and types of this seat by their names, and of which kind a type's values are. Printed by a program. -/
import Derived.Test.YtoeaoinedidbiaaProg
import Derived.Test.YtoeaoinedidbiaaBase
namespace Go.Proofs.Ytoeaoinedidbiaa
open Go.GX Go.RowKit

abbrev F.main_main : FuncId := 0
abbrev F.gosem_cut : FuncId := 1
abbrev F.gosem_cut_init : FuncId := 2
abbrev F.l_FnExactIsEdgeColouring : FuncId := 3
abbrev F.l_FnExactIsDistanceColouring : FuncId := 4
abbrev F.l_FnExactLeastCover : FuncId := 5
abbrev F.l_FnExactGreedyEdgeColouring : FuncId := 6
abbrev F.l_FnExactCoverByProposals : FuncId := 7
abbrev F.l_FnExactPolynomialStep : FuncId := 8
abbrev F.l_FnExactLevelsFor : FuncId := 9
abbrev F.l_FnExactIndependentByColours : FuncId := 10
abbrev F.l_FnExactColourFromLists : FuncId := 11
abbrev F.l_FnExactFailingNetwork : FuncId := 12
abbrev F.l_szNetwork : FuncId := 13
abbrev F.l_szIntSS : FuncId := 14
abbrev F.s_IsEdgeColouring : FuncId := 15
abbrev F.l_toNetwork : FuncId := 16
abbrev F.l_toIntSS : FuncId := 17
abbrev F.i_IsEdgeColouring : FuncId := 18
abbrev F.l_eqNetwork : FuncId := 19
abbrev F.l_eqIntSS : FuncId := 20
abbrev F.s_IsDistanceColouring : FuncId := 21
abbrev F.l_toIntS : FuncId := 22
abbrev F.i_IsDistanceColouring : FuncId := 23
abbrev F.l_eqIntS : FuncId := 24
abbrev F.s_LeastCover : FuncId := 25
abbrev F.i_LeastCover : FuncId := 26
abbrev F.l_markNetwork : FuncId := 27
abbrev F.l_markIntS : FuncId := 28
abbrev F.l_heldIntS : FuncId := 29
abbrev F.s_GreedyEdgeColouring : FuncId := 30
abbrev F.i_GreedyEdgeColouring : FuncId := 31
abbrev F.l_markIntSS : FuncId := 32
abbrev F.l_heldIntSS : FuncId := 33
abbrev F.s_CoverByProposals : FuncId := 34
abbrev F.i_CoverByProposals : FuncId := 35
abbrev F.s_PolynomialStep : FuncId := 36
abbrev F.i_PolynomialStep : FuncId := 37
abbrev F.l_szWalkProblem : FuncId := 38
abbrev F.s_LevelsFor : FuncId := 39
abbrev F.l_toWalkProblem : FuncId := 40
abbrev F.i_LevelsFor : FuncId := 41
abbrev F.l_eqWalkProblem : FuncId := 42
abbrev F.s_IndependentByColours : FuncId := 43
abbrev F.i_IndependentByColours : FuncId := 44
abbrev F.s_ColourFromLists : FuncId := 45
abbrev F.i_ColourFromLists : FuncId := 46
abbrev F.l_szProblem : FuncId := 47
abbrev F.s_FailingNetwork : FuncId := 48
abbrev F.l_toProblem : FuncId := 49
abbrev F.i_FailingNetwork : FuncId := 50
abbrev F.l_eqProblem : FuncId := 51
abbrev F.l_markProblem : FuncId := 52
abbrev F.l_heldNetwork : FuncId := 53
abbrev F.l_szEndSS : FuncId := 54
abbrev F.l_szIntS : FuncId := 55
abbrev F.s_neGood : FuncId := 56
abbrev F.s_clEdges : FuncId := 57
abbrev F.l_toEndSS : FuncId := 58
abbrev F.i_IsNetwork : FuncId := 59
abbrev F.i_isEdgeColouring : FuncId := 60
abbrev F.l_eqEndSS : FuncId := 61
abbrev F.s_ruColours : FuncId := 62
abbrev F.s_l1In : FuncId := 63
abbrev F.s_meFrom : FuncId := 64
abbrev F.i_areColours : FuncId := 65
abbrev F.i_within : FuncId := 66
abbrev F.i_allDistances : FuncId := 67
abbrev F.s_mtChosen : FuncId := 68
abbrev F.s_mtCovers : FuncId := 69
abbrev F.i_binomial : FuncId := 70
abbrev F.i_subsetAt : FuncId := 71
abbrev F.i_isCover : FuncId := 72
abbrev F.i_numbersTo : FuncId := 73
abbrev F.l_markEndSS : FuncId := 74
abbrev F.s_soEmpty : FuncId := 75
abbrev F.s_neEdges : FuncId := 76
abbrev F.s_clLeast : FuncId := 77
abbrev F.s_l1Own : FuncId := 78
abbrev F.slices_ContainsFunc_sl_i_edge_i_edge : FuncId := 79
abbrev F.i_Network_edges : FuncId := 80
abbrev F.i_edge_isLoop : FuncId := 81
abbrev F.i_unlabeled : FuncId := 82
abbrev F.i_leastFree : FuncId := 83
abbrev F.slices_Concat_sl_int_int : FuncId := 84
abbrev F.s_DoubleCover : FuncId := 85
abbrev F.s_mtCover : FuncId := 86
abbrev F.i_DoubleCover : FuncId := 87
abbrev F.i_proposalMatching : FuncId := 88
abbrev F.slices_Repeat_sl_int_int : FuncId := 89
abbrev F.s_clAsked : FuncId := 90
abbrev F.s_clParameters : FuncId := 91
abbrev F.s_clStep : FuncId := 92
abbrev F.i_paletteOk : FuncId := 93
abbrev F.i_polynomialStep : FuncId := 94
abbrev F.s_cyLevels : FuncId := 95
abbrev F.i_IsWalkProblem : FuncId := 96
abbrev F.i_WalkProblem_flexibleLabels : FuncId := 97
abbrev F.i_WalkProblem_flexibilityOf : FuncId := 98
abbrev F.s_mtColoured : FuncId := 99
abbrev F.s_viMany : FuncId := 100
abbrev F.s_mtOwn : FuncId := 101
abbrev F.s_mtApart : FuncId := 102
abbrev F.s_l1Put : FuncId := 103
abbrev F.i_allWithin : FuncId := 104
abbrev F.i_IndependentByColours_1 : FuncId := 105
abbrev F.slices_SortStableFunc_sl_int_int : FuncId := 106
abbrev F.i_IndependentByColours_2 : FuncId := 107
abbrev F.i_greedyIndependent : FuncId := 108
abbrev F.slices_Max_sl_int_int : FuncId := 109
abbrev F.s_clProper : FuncId := 110
abbrev F.s_clLists : FuncId := 111
abbrev F.s_coThrough : FuncId := 112
abbrev F.s_neNear : FuncId := 113
abbrev F.s_l1Has : FuncId := 114
abbrev F.i_isColouring : FuncId := 115
abbrev F.i_listsOk : FuncId := 116
abbrev F.i_ColourFromLists_1 : FuncId := 117
abbrev F.i_near : FuncId := 118
abbrev F.slices_IndexFunc_sl_int_int : FuncId := 119
abbrev F.i_ColourFromLists_2 : FuncId := 120
abbrev F.slices_Contains_sl_int_int : FuncId := 121
abbrev F.s_prGood : FuncId := 122
abbrev F.s_l1All : FuncId := 123
abbrev F.s_prNode : FuncId := 124
abbrev F.s_zeBad : FuncId := 125
abbrev F.s_neEmpty : FuncId := 126
abbrev F.i_IsProblem : FuncId := 127
abbrev F.i_Problem_hasLabels : FuncId := 128
abbrev F.i_Problem_node : FuncId := 129
abbrev F.i_Problem_edge : FuncId := 130
abbrev F.i_wired : FuncId := 131
abbrev F.i_FailingNetwork_1 : FuncId := 132
abbrev F.l_heldEndSS : FuncId := 133
abbrev F.l_szEndS : FuncId := 134
abbrev F.s_neIds : FuncId := 135
abbrev F.l_toEndS : FuncId := 136
abbrev F.i_idsOk : FuncId := 137
abbrev F.i_inputsOk : FuncId := 138
abbrev F.i_Network_hasPort : FuncId := 139
abbrev F.i_portsOk : FuncId := 140
abbrev F.i_increasing : FuncId := 141
abbrev F.slices_Sorted_int : FuncId := 142
abbrev F.slices_Values_sl_int_int : FuncId := 143
abbrev F.l_eqEndS : FuncId := 144
abbrev F.i_distancesFrom : FuncId := 145
abbrev F.s_elHas : FuncId := 146
abbrev F.i_isCover_1 : FuncId := 147
abbrev F.l_markEndS : FuncId := 148
abbrev F.s_neFirst : FuncId := 149
abbrev F.slices_IndexFunc_sl_i_edge_i_edge : FuncId := 150
abbrev F.slices_Grow_sl_int_int : FuncId := 151
abbrev F.s_neIf : FuncId := 152
abbrev F.s_buDouble : FuncId := 153
abbrev F.s_mtProposals : FuncId := 154
abbrev F.i_network : FuncId := 155
abbrev F.i_noMatching : FuncId := 156
abbrev F.math_bits_Mul : FuncId := 157
abbrev F.s_clPalette : FuncId := 158
abbrev F.s_meMost : FuncId := 159
abbrev F.s_neDegrees : FuncId := 160
abbrev F.s_nuNext : FuncId := 161
abbrev F.s_clPower : FuncId := 162
abbrev F.s_clTake : FuncId := 163
abbrev F.i_isBound : FuncId := 164
abbrev F.i_polynomialParameters : FuncId := 165
abbrev F.i_DigitsOf : FuncId := 166
abbrev F.i_PolynomialAt : FuncId := 167
abbrev F.slices_ContainsFunc_sl_i_End_i_End : FuncId := 168
abbrev F.i_polynomialStep_1 : FuncId := 169
abbrev F.s_FlexibleLabels : FuncId := 170
abbrev F.s_FlexibilityOf : FuncId := 171
abbrev F.i_WalkProblem_hasLabels : FuncId := 172
abbrev F.slices_Compare_sl_int_int : FuncId := 173
abbrev F.i_WalkProblem_walkComponents : FuncId := 174
abbrev F.slices_Sort_sl_int_int : FuncId := 175
abbrev F.i_WalkProblem_reached : FuncId := 176
abbrev F.s_l1Most : FuncId := 177
abbrev F.slices_ContainsFunc_sl_int_int : FuncId := 178
abbrev F.i_allWithin_1 : FuncId := 179
abbrev F.slices_stableCmpFunc_int : FuncId := 180
abbrev F.i_areJoined : FuncId := 181
abbrev F.i_hasNear : FuncId := 182
abbrev F.s_imEdge : FuncId := 183
abbrev F.i_isColouring_1 : FuncId := 184
abbrev F.slices_Index_sl_int_int : FuncId := 185
abbrev F.s_prLists : FuncId := 186
abbrev F.s_prHas : FuncId := 187
abbrev F.s_prSorted : FuncId := 188
abbrev F.s_prEdge : FuncId := 189
abbrev F.i_configurationsOk : FuncId := 190
abbrev F.i_hasConfiguration : FuncId := 191
abbrev F.i_emptyNetwork : FuncId := 192
abbrev F.l_heldEndS : FuncId := 193
abbrev F.l_toEnd : FuncId := 194
abbrev F.slices_Clone_sl_int_int : FuncId := 195
abbrev F.i_Network_hasNode : FuncId := 196
abbrev F.slices_Collect_int : FuncId := 197
abbrev F.slices_Values_sl_int_int_1 : FuncId := 198
abbrev F.l_eqEnd : FuncId := 199
abbrev F.s_mtFree : FuncId := 200
abbrev F.s_mtTake : FuncId := 201
abbrev F.math_bits_Mul32 : FuncId := 202
abbrev F.math_bits_Mul64 : FuncId := 203
abbrev F.s_nuPrime : FuncId := 204
abbrev F.s_nuDigits : FuncId := 205
abbrev F.s_nuValue : FuncId := 206
abbrev F.i_Network_degrees : FuncId := 207
abbrev F.i_isPrime : FuncId := 208
abbrev F.i_isWhole : FuncId := 209
abbrev F.slices_Backward_sl_int_int : FuncId := 210
abbrev F.slices_IndexFunc_sl_i_End_i_End : FuncId := 211
abbrev F.s_waGood : FuncId := 212
abbrev F.s_waFlexible : FuncId := 213
abbrev F.s_waFlexibility : FuncId := 214
abbrev F.cmp_Compare_int : FuncId := 215
abbrev F.i_WalkProblem_closure : FuncId := 216
abbrev F.i_WalkProblem_after : FuncId := 217
abbrev F.i_labelsIn : FuncId := 218
abbrev F.i_setOf : FuncId := 219
abbrev F.i_WalkProblem_periodOf : FuncId := 220
abbrev F.slices_pdqsortOrdered_int : FuncId := 221
abbrev F.math_bits_Len : FuncId := 222
abbrev F.slices_insertionSortCmpFunc_int : FuncId := 223
abbrev F.slices_symMergeCmpFunc_int : FuncId := 224
abbrev F.i_areJoined_1 : FuncId := 225
abbrev F.i_hasNear_1 : FuncId := 226
abbrev F.s_prOrder : FuncId := 227
abbrev F.s_l1Same : FuncId := 228
abbrev F.s_l1Least : FuncId := 229
abbrev F.slices_IsSorted_sl_int_int : FuncId := 230
abbrev F.slices_BinarySearchFunc_sl_sl_int_sl_int_sl_int : FuncId := 231
abbrev F.slices_AppendSeq_sl_int_int : FuncId := 232
abbrev F.s_roFree : FuncId := 233
abbrev F.slices_Backward_sl_int_int_1 : FuncId := 234
abbrev F.s_waArcs : FuncId := 235
abbrev F.s_waParts : FuncId := 236
abbrev F.s_waPowers : FuncId := 237
abbrev F.cmp_isNaN_int : FuncId := 238
abbrev F.i_WalkProblem_distancesIn : FuncId := 239
abbrev F.i_gcd : FuncId := 240
abbrev F.slices_insertionSortOrdered_int : FuncId := 241
abbrev F.slices_heapSortOrdered_int : FuncId := 242
abbrev F.slices_breakPatternsOrdered_int : FuncId := 243
abbrev F.slices_choosePivotOrdered_int : FuncId := 244
abbrev F.slices_reverseRangeOrdered_int : FuncId := 245
abbrev F.slices_partialInsertionSortOrdered_int : FuncId := 246
abbrev F.cmp_Less_int : FuncId := 247
abbrev F.slices_partitionEqualOrdered_int : FuncId := 248
abbrev F.slices_partitionOrdered_int : FuncId := 249
abbrev F.math_bits_Len32 : FuncId := 250
abbrev F.math_bits_Len64 : FuncId := 251
abbrev F.slices_rotateCmpFunc_int : FuncId := 252
abbrev F.s_l1Sign : FuncId := 253
abbrev F.s_waReach : FuncId := 254
abbrev F.s_waDepths : FuncId := 255
abbrev F.s_waGcd : FuncId := 256
abbrev F.s_l1Abs : FuncId := 257
abbrev F.s_waMay : FuncId := 258
abbrev F.s_waTimes : FuncId := 259
abbrev F.slices_siftDownOrdered_int : FuncId := 260
abbrev F.slices_nextPowerOfTwo : FuncId := 261
abbrev F.ptr_slices_xorshift_Next : FuncId := 262
abbrev F.slices_medianAdjacentOrdered_int : FuncId := 263
abbrev F.slices_medianOrdered_int : FuncId := 264
abbrev F.slices_swapRangeCmpFunc_int : FuncId := 265
abbrev F.slices_order2Ordered_int : FuncId := 266
abbrev F.runtime_boundsError_Error : FuncId := 267
abbrev F.runtime_boundsError_RuntimeError : FuncId := 268
abbrev F.runtime_errorString_Error : FuncId := 269
abbrev F.runtime_errorString_RuntimeError : FuncId := 270
abbrev F.runtime_plainError_Error : FuncId := 271
abbrev F.runtime_plainError_RuntimeError : FuncId := 272
abbrev F.runtime_errorAddressString_Error : FuncId := 273
abbrev F.runtime_errorAddressString_RuntimeError : FuncId := 274
abbrev F.ptr_runtime_TypeAssertionError_Error : FuncId := 275
abbrev F.ptr_runtime_TypeAssertionError_RuntimeError : FuncId := 276
abbrev F.ptr_runtime_PanicNilError_Error : FuncId := 277
abbrev F.ptr_runtime_PanicNilError_RuntimeError : FuncId := 278
abbrev F.ptr_internal_abi_Type_Align : FuncId := 279
abbrev F.internal_runtime_maps_unhashableTypeError_Error : FuncId := 280
abbrev F.internal_runtime_maps_unhashableTypeError_RuntimeError : FuncId := 281
abbrev F.i_Network_isSimple : FuncId := 282
abbrev F.i_WalkProblem_classOf : FuncId := 283
abbrev F.internal_abi_Kind_String : FuncId := 284
abbrev T.t_unit : TypeId := 0
abbrev T.t_func : TypeId := 1
abbrev T.t_int64 : TypeId := 2
abbrev T.t_int : TypeId := 3
abbrev T.t_bool : TypeId := 4
abbrev T.t_uint8 : TypeId := 5
abbrev T.t_abi_BoundsErrorCode : TypeId := 6
abbrev T.t_struct_x_int64_y_int_signed_bool_code_abi_BoundsErrorCode : TypeId := 7
abbrev T.t_runtime_boundsError : TypeId := 8
abbrev T.t_string : TypeId := 9
abbrev T.t_runtime_errorString : TypeId := 10
abbrev T.t_runtime_plainError : TypeId := 11
abbrev T.t_uintptr : TypeId := 12
abbrev T.t_struct_msg_string_addr_uintptr : TypeId := 13
abbrev T.t_runtime_errorAddressString : TypeId := 14
abbrev T.t_ptr_runtime_TypeAssertionError : TypeId := 15
abbrev T.t_ptr_runtime_PanicNilError : TypeId := 16
abbrev T.t_ptr_abi_Type : TypeId := 17
abbrev T.t_struct_typ_ptr_abi_Type : TypeId := 18
abbrev T.t_maps_unhashableTypeError : TypeId := 19
abbrev T.t_interface : TypeId := 20
abbrev T.t_int32 : TypeId := 21
abbrev T.t_sl_sl_l_End : TypeId := 22
abbrev T.t_sl_int : TypeId := 23
abbrev T.t_struct_Ends_sl_sl_l_End_Ids_sl_int_Inputs_sl_int : TypeId := 24
abbrev T.t_l_Network : TypeId := 25
abbrev T.t_sl_sl_int : TypeId := 26
abbrev T.t_func_l_Network_int_int : TypeId := 27
abbrev T.t_func_sl_sl_int_int_int : TypeId := 28
abbrev T.t_bool_bool : TypeId := 29
abbrev T.t_func_i_Network_sl_sl_int_bool_bool : TypeId := 30
abbrev T.t_sl_sl_i_End : TypeId := 31
abbrev T.t_struct_Ends_sl_sl_i_End_Ids_sl_int_Inputs_sl_int : TypeId := 32
abbrev T.t_i_Network : TypeId := 33
abbrev T.t_func_l_Network_i_Network : TypeId := 34
abbrev T.t_func_sl_sl_int_sl_sl_int : TypeId := 35
abbrev T.t_func_i_Network_i_Network_bool : TypeId := 36
abbrev T.t_func_sl_sl_int_sl_sl_int_bool : TypeId := 37
abbrev T.t_func_l_Network_sl_sl_int_bool : TypeId := 38
abbrev T.t_func_i_Network_sl_int_int_bool_bool : TypeId := 39
abbrev T.t_func_sl_int_sl_int : TypeId := 40
abbrev T.t_func_sl_int_sl_int_bool : TypeId := 41
abbrev T.t_func_l_Network_sl_int_int_bool : TypeId := 42
abbrev T.t_sl_int_bool : TypeId := 43
abbrev T.t_func_i_Network_sl_int_bool : TypeId := 44
abbrev T.t_func_i_Network_int_int : TypeId := 45
abbrev T.t_func_sl_int_int_int : TypeId := 46
abbrev T.t_func_l_Network_bool : TypeId := 47
abbrev T.t_sl_sl_int_bool : TypeId := 48
abbrev T.t_func_i_Network_sl_sl_int_bool : TypeId := 49
abbrev T.t_sl_int_int_bool : TypeId := 50
abbrev T.t_func_i_Network_sl_int_int_int_sl_int_int_bool : TypeId := 51
abbrev T.t_func_l_Network_sl_int_int_int_bool : TypeId := 52
abbrev T.t_struct_Labels_int_Arcs_sl_sl_int : TypeId := 53
abbrev T.t_l_WalkProblem : TypeId := 54
abbrev T.t_func_l_WalkProblem_int_int : TypeId := 55
abbrev T.t_int_bool : TypeId := 56
abbrev T.t_func_i_WalkProblem_int_bool : TypeId := 57
abbrev T.t_i_WalkProblem : TypeId := 58
abbrev T.t_func_l_WalkProblem_i_WalkProblem : TypeId := 59
abbrev T.t_func_i_WalkProblem_i_WalkProblem_bool : TypeId := 60
abbrev T.t_func_l_WalkProblem_bool : TypeId := 61
abbrev T.t_func_i_Network_sl_int_sl_int_int_bool : TypeId := 62
abbrev T.t_func_l_Network_sl_int_bool : TypeId := 63
abbrev T.t_func_i_Network_sl_int_sl_sl_int_sl_int_bool : TypeId := 64
abbrev T.t_func_l_Network_sl_int_sl_sl_int_bool : TypeId := 65
abbrev T.t_struct_Labels_int_Degree_int_Nodes_sl_sl_int_Edges_sl_sl_int : TypeId := 66
abbrev T.t_l_Problem : TypeId := 67
abbrev T.t_func_l_Problem_int_int : TypeId := 68
abbrev T.t_i_Network_bool : TypeId := 69
abbrev T.t_func_i_Problem_sl_int_i_Network_bool : TypeId := 70
abbrev T.t_i_Problem : TypeId := 71
abbrev T.t_func_l_Problem_i_Problem : TypeId := 72
abbrev T.t_func_i_Problem_i_Problem_bool : TypeId := 73
abbrev T.t_func_i_Problem_int_int : TypeId := 74
abbrev T.t_func_l_Problem_sl_int_bool : TypeId := 75
abbrev T.t_func_sl_sl_l_End_int_int : TypeId := 76
abbrev T.t_func_i_Network_bool : TypeId := 77
abbrev T.t_func_i_Network_sl_sl_int_bool_1 : TypeId := 78
abbrev T.t_func_sl_sl_l_End_sl_sl_i_End : TypeId := 79
abbrev T.t_func_sl_sl_i_End_sl_sl_i_End_bool : TypeId := 80
abbrev T.t_func_i_Network_sl_int_bool_1 : TypeId := 81
abbrev T.t_func_int_int_int_bool : TypeId := 82
abbrev T.t_func_i_Network_int_sl_int : TypeId := 83
abbrev T.t_func_i_Network_sl_sl_int : TypeId := 84
abbrev T.t_func_int_int_sl_int : TypeId := 85
abbrev T.t_func_int_int_int : TypeId := 86
abbrev T.t_func_int_int_int_sl_int : TypeId := 87
abbrev T.t_func_int_sl_int : TypeId := 88
abbrev T.t_func_sl_sl_i_End_int_int : TypeId := 89
abbrev T.t_func_sl_int_int : TypeId := 90
abbrev T.t_func_sl_i_edge_func_i_edge_bool_bool : TypeId := 91
abbrev T.t_sl_i_edge : TypeId := 92
abbrev T.t_struct_v_int_i_int_w_int_j_int : TypeId := 93
abbrev T.t_i_edge : TypeId := 94
abbrev T.t_func_sl_i_edge : TypeId := 95
abbrev T.t_func_i_edge_bool : TypeId := 96
abbrev T.t_func_bool : TypeId := 97
abbrev T.t_func_sl_int_sl_int_1 : TypeId := 98
abbrev T.t_func_i_Network_i_Network_bool_1 : TypeId := 99
abbrev T.t_func_i_Network_sl_int : TypeId := 100
abbrev T.t_sl_int_int : TypeId := 101
abbrev T.t_func_i_Network_sl_int_sl_int_int : TypeId := 102
abbrev T.t_func_sl_int_int_sl_int : TypeId := 103
abbrev T.t_func_i_Network_sl_int_int_int_bool : TypeId := 104
abbrev T.t_int_int : TypeId := 105
abbrev T.t_func_int_int_int_int : TypeId := 106
abbrev T.t_func_i_Network_sl_int_int_int_sl_int : TypeId := 107
abbrev T.t_func_i_Network_sl_int_int_int_sl_int_int : TypeId := 108
abbrev T.t_int_int_bool : TypeId := 109
abbrev T.t_func_i_WalkProblem_int_int_bool : TypeId := 110
abbrev T.t_func_i_WalkProblem_bool : TypeId := 111
abbrev T.t_func_sl_int : TypeId := 112
abbrev T.t_func_int_int : TypeId := 113
abbrev T.t_func_i_Network_int_bool : TypeId := 114
abbrev T.t_func_i_Network_int_sl_int_bool : TypeId := 115
abbrev T.t_func_sl_int_int_int_bool : TypeId := 116
abbrev T.t_func_sl_int_func_int_int_int : TypeId := 117
abbrev T.t_func_i_Network_sl_int_sl_int : TypeId := 118
abbrev T.t_func_sl_int_sl_int_sl_int : TypeId := 119
abbrev T.t_func_sl_int_int_bool : TypeId := 120
abbrev T.t_func_i_Network_int_sl_int_sl_int : TypeId := 121
abbrev T.t_func_sl_int_func_int_bool_int : TypeId := 122
abbrev T.t_func_int_bool : TypeId := 123
abbrev T.t_func_i_Problem_bool : TypeId := 124
abbrev T.t_func_i_Problem_sl_int_bool : TypeId := 125
abbrev T.t_func_i_Problem_sl_int_sl_int_int_int_bool : TypeId := 126
abbrev T.t_func_int_i_Network : TypeId := 127
abbrev T.t_sl_i_End : TypeId := 128
abbrev T.t_struct_Node_int_Port_int : TypeId := 129
abbrev T.t_i_End : TypeId := 130
abbrev T.t_func_int_bool_1 : TypeId := 131
abbrev T.t_func_int_int_bool : TypeId := 132
abbrev T.t_func_int_int_func_int_int_i_End_i_Network_bool : TypeId := 133
abbrev T.t_func_int_int_i_End : TypeId := 134
abbrev T.t_func_sl_l_End_int_int : TypeId := 135
abbrev T.t_sl_l_End : TypeId := 136
abbrev T.t_func_sl_l_End_sl_i_End : TypeId := 137
abbrev T.t_func_iter_Seq_int_sl_int : TypeId := 138
abbrev T.t_func_func_int_bool : TypeId := 139
abbrev T.t_iter_Seq_int : TypeId := 140
abbrev T.t_func_sl_int_iter_Seq_int : TypeId := 141
abbrev T.t_func_sl_i_End_sl_i_End_bool : TypeId := 142
abbrev T.t_func_sl_i_End_int_int : TypeId := 143
abbrev T.t_func_i_Network_int_int_bool : TypeId := 144
abbrev T.t_func_sl_i_edge_func_i_edge_bool_int : TypeId := 145
abbrev T.t_func_i_Network_i_Network : TypeId := 146
abbrev T.t_uint : TypeId := 147
abbrev T.t_uint_uint : TypeId := 148
abbrev T.t_func_uint_uint_uint_uint : TypeId := 149
abbrev T.t_func_int_int_int_sl_int_int : TypeId := 150
abbrev T.t_func_int_int_int_sl_int_bool : TypeId := 151
abbrev T.t_func_int_sl_int_int_int_bool : TypeId := 152
abbrev T.t_func_sl_i_End_func_i_End_bool_bool : TypeId := 153
abbrev T.t_func_i_End_bool : TypeId := 154
abbrev T.t_func_i_WalkProblem_sl_int_bool : TypeId := 155
abbrev T.t_func_i_WalkProblem_int_int_bool_1 : TypeId := 156
abbrev T.t_func_sl_int_sl_int_int : TypeId := 157
abbrev T.t_sl_sl_int_sl_int : TypeId := 158
abbrev T.t_func_sl_sl_int_sl_int : TypeId := 159
abbrev T.t_func_sl_int_1 : TypeId := 160
abbrev T.t_func_sl_int_func_int_bool_bool : TypeId := 161
abbrev T.t_func_sl_int_int_func_int_int_int : TypeId := 162
abbrev T.t_func_i_Network_sl_int_int_int_bool_1 : TypeId := 163
abbrev T.t_func_sl_sl_int_int_int_bool : TypeId := 164
abbrev T.t_func_sl_sl_int_sl_int_bool : TypeId := 165
abbrev T.t_func_i_Problem_int_int_bool : TypeId := 166
abbrev T.t_func_sl_sl_int_int_bool : TypeId := 167
abbrev T.t_func_int_i_Network_bool : TypeId := 168
abbrev T.t_func_l_End_i_End : TypeId := 169
abbrev T.t_l_End : TypeId := 170
abbrev T.t_func_i_End_i_End_bool : TypeId := 171
abbrev T.t_uint32 : TypeId := 172
abbrev T.t_uint32_uint32 : TypeId := 173
abbrev T.t_func_uint32_uint32_uint32_uint32 : TypeId := 174
abbrev T.t_uint64 : TypeId := 175
abbrev T.t_uint64_uint64 : TypeId := 176
abbrev T.t_func_uint64_uint64_uint64_uint64 : TypeId := 177
abbrev T.t_func_int_sl_int_int_int : TypeId := 178
abbrev T.t_func_func_int_int_bool : TypeId := 179
abbrev T.t_iter_Seq2_int_int : TypeId := 180
abbrev T.t_func_sl_int_iter_Seq2_int_int : TypeId := 181
abbrev T.t_func_sl_i_End_func_i_End_bool_int : TypeId := 182
abbrev T.t_func_i_WalkProblem_sl_int : TypeId := 183
abbrev T.t_func_i_WalkProblem_int_int : TypeId := 184
abbrev T.t_func_sl_int_int_int_int : TypeId := 185
abbrev T.t_func_uint_int : TypeId := 186
abbrev T.t_func_sl_int_int_int_func_int_int_int : TypeId := 187
abbrev T.t_func_sl_int_int_int_int_func_int_int_int : TypeId := 188
abbrev T.t_func_sl_int_bool : TypeId := 189
abbrev T.t_func_sl_sl_int_sl_int_func_sl_int_sl_int_int_int_bool : TypeId := 190
abbrev T.t_func_sl_int_iter_Seq_int_sl_int : TypeId := 191
abbrev T.t_func_sl_sl_int_int_bool_1 : TypeId := 192
abbrev T.t_sl_s_waPart : TypeId := 193
abbrev T.t_func_i_WalkProblem_sl_s_waPart : TypeId := 194
abbrev T.t_struct_labels_sl_int_period_int_residue_sl_int : TypeId := 195
abbrev T.t_s_waPart : TypeId := 196
abbrev T.t_sl_sl_sl_bool : TypeId := 197
abbrev T.t_func_i_WalkProblem_int_sl_sl_sl_bool : TypeId := 198
abbrev T.t_sl_bool : TypeId := 199
abbrev T.t_sl_sl_bool : TypeId := 200
abbrev T.t_func_int_int_1 : TypeId := 201
abbrev T.t_func_sl_int_int_int_1 : TypeId := 202
abbrev T.t_slices_sortedHint : TypeId := 203
abbrev T.t_int_slices_sortedHint : TypeId := 204
abbrev T.t_func_sl_int_int_int_int_slices_sortedHint : TypeId := 205
abbrev T.t_func_sl_int_int_int_int_int : TypeId := 206
abbrev T.t_func_sl_int_int_int_int_int_bool : TypeId := 207
abbrev T.t_func_uint32_int : TypeId := 208
abbrev T.t_func_uint64_int : TypeId := 209
abbrev T.t_func_i_WalkProblem_sl_sl_bool : TypeId := 210
abbrev T.t_func_i_WalkProblem_sl_int_sl_int : TypeId := 211
abbrev T.t_func_sl_sl_bool_sl_sl_bool_sl_sl_bool : TypeId := 212
abbrev T.t_slices_xorshift : TypeId := 213
abbrev T.t_func_int_uint : TypeId := 214
abbrev T.t_func_uint64 : TypeId := 215
abbrev T.t_func_sl_int_int_ptr_int_int : TypeId := 216
abbrev T.t_ptr_int : TypeId := 217
abbrev T.t_func_sl_int_int_int_int_ptr_int_int : TypeId := 218
abbrev T.t_ptr_slices_xorshift : TypeId := 219
abbrev T.t_func_sl_int_int_int_ptr_int_int_int : TypeId := 220
abbrev T.t_func_string : TypeId := 221
abbrev T.t_struct__interface_ptr_abi_Type_concrete_ptr_abi_Type_asserted_ptr_abi_Type_missingMethod_string : TypeId := 222
abbrev T.t_runtime_TypeAssertionError : TypeId := 223
abbrev T.t_0_ptr_runtime_PanicNilError : TypeId := 224
abbrev T.t_struct___0_ptr_runtime_PanicNilError : TypeId := 225
abbrev T.t_runtime_PanicNilError : TypeId := 226
abbrev T.t_func_int : TypeId := 227
abbrev T.t_abi_TFlag : TypeId := 228
abbrev T.t_abi_Kind : TypeId := 229
abbrev T.t_func_unsafe_Pointer_unsafe_Pointer_bool : TypeId := 230
abbrev T.t_ptr_uint8 : TypeId := 231
abbrev T.t_abi_NameOff : TypeId := 232
abbrev T.t_abi_TypeOff : TypeId := 233
abbrev T.t_struct_Size__uintptr_PtrBytes_uintptr_Hash_uint32_TFlag_abi_TFlag_Align__uint8_FieldAlign__uint8_Kind__abi_Kind_Equal_func_unsafe_Pointer_unsafe_Pointer_bool_GCData_ptr_uint8_Str_abi_NameOff_PtrToThis_abi_TypeOff : TypeId := 234
abbrev T.t_abi_Type : TypeId := 235
abbrev T.t_unsafe_Pointer : TypeId := 236
def hints0 : List (List Sh) := [
  [],
  [.at .val],
  [.at (.int .i64)],
  [.at (.int .i64)],
  [.at .bool],
  [.at (.int .u8)],
  [.at (.int .u8)],
  [.agg [.int .i64, .int .i64, .bool, .int .u8]],
  [.agg [.int .i64, .int .i64, .bool, .int .u8]],
  [.at .str],
  [.at .str],
  [.at .str],
  [.at (.int .u64)],
  [.agg [.str, .int .u64]],
  [.agg [.str, .int .u64]],
  [.at .ptr]]
def hints1 : List (List Sh) := [
  [.at .ptr],
  [.at .ptr],
  [.agg [.ptr]],
  [.agg [.ptr]],
  [.at .val],
  [.at (.int .i32)],
  [.at .sl],
  [.at .sl],
  [.agg [.sl, .sl, .sl]],
  [.agg [.sl, .sl, .sl]],
  [.at .sl],
  [.at .val],
  [.at .val],
  [.at .bool, .at .bool],
  [.at .val],
  [.at .sl]]
def hints2 : List (List Sh) := [
  [.agg [.sl, .sl, .sl]],
  [.agg [.sl, .sl, .sl]],
  [.at .val],
  [.at .val],
  [.at .val],
  [.at .val],
  [.at .val],
  [.at .val],
  [.at .val],
  [.at .val],
  [.at .val],
  [.at .sl, .at .bool],
  [.at .val],
  [.at .val],
  [.at .val],
  [.at .val]]
def hints3 : List (List Sh) := [
  [.at .sl, .at .bool],
  [.at .val],
  [.at .sl, .at (.int .i64), .at .bool],
  [.at .val],
  [.at .val],
  [.agg [.int .i64, .sl]],
  [.agg [.int .i64, .sl]],
  [.at .val],
  [.at (.int .i64), .at .bool],
  [.at .val],
  [.agg [.int .i64, .sl]],
  [.at .val],
  [.at .val],
  [.at .val],
  [.at .val],
  [.at .val]]
def hints4 : List (List Sh) := [
  [.at .val],
  [.at .val],
  [.agg [.int .i64, .int .i64, .sl, .sl]],
  [.agg [.int .i64, .int .i64, .sl, .sl]],
  [.at .val],
  [.agg [.sl, .sl, .sl], .at .bool],
  [.at .val],
  [.agg [.int .i64, .int .i64, .sl, .sl]],
  [.at .val],
  [.at .val],
  [.at .val],
  [.at .val],
  [.at .val],
  [.at .val],
  [.at .val],
  [.at .val]]
def hints5 : List (List Sh) := [
  [.at .val],
  [.at .val],
  [.at .val],
  [.at .val],
  [.at .val],
  [.at .val],
  [.at .val],
  [.at .val],
  [.at .val],
  [.at .val],
  [.at .val],
  [.at .val],
  [.at .sl],
  [.agg [.int .i64, .int .i64, .int .i64, .int .i64]],
  [.agg [.int .i64, .int .i64, .int .i64, .int .i64]],
  [.at .val]]
def hints6 : List (List Sh) := [
  [.at .val],
  [.at .val],
  [.at .val],
  [.at .val],
  [.at .val],
  [.at .sl, .at (.int .i64)],
  [.at .val],
  [.at .val],
  [.at .val],
  [.at (.int .i64), .at (.int .i64)],
  [.at .val],
  [.at .val],
  [.at .val],
  [.at (.int .i64), .at (.int .i64), .at .bool],
  [.at .val],
  [.at .val]]
def hints7 : List (List Sh) := [
  [.at .val],
  [.at .val],
  [.at .val],
  [.at .val],
  [.at .val],
  [.at .val],
  [.at .val],
  [.at .val],
  [.at .val],
  [.at .val],
  [.at .val],
  [.at .val],
  [.at .val],
  [.at .val],
  [.at .val],
  [.at .val]]
def hints8 : List (List Sh) := [
  [.at .sl],
  [.agg [.int .i64, .int .i64]],
  [.agg [.int .i64, .int .i64]],
  [.at .val],
  [.at .val],
  [.at .val],
  [.at .val],
  [.at .val],
  [.at .sl],
  [.at .val],
  [.at .val],
  [.at .val],
  [.at .val],
  [.at .val],
  [.at .val],
  [.at .val]]
def hints9 : List (List Sh) := [
  [.at .val],
  [.at .val],
  [.at .val],
  [.at (.int .u64)],
  [.at (.int .u64), .at (.int .u64)],
  [.at .val],
  [.at .val],
  [.at .val],
  [.at .val],
  [.at .val],
  [.at .val],
  [.at .val],
  [.at .val],
  [.at .val],
  [.at .sl, .at .sl],
  [.at .val]]
def hints10 : List (List Sh) := [
  [.at .val],
  [.at .val],
  [.at .val],
  [.at .val],
  [.at .val],
  [.at .val],
  [.at .val],
  [.at .val],
  [.at .val],
  [.at .val],
  [.agg [.int .i64, .int .i64]],
  [.at .val],
  [.at (.int .u32)],
  [.at (.int .u32), .at (.int .u32)],
  [.at .val],
  [.at (.int .u64)]]
def hints11 : List (List Sh) := [
  [.at (.int .u64), .at (.int .u64)],
  [.at .val],
  [.at .val],
  [.at .val],
  [.at .val],
  [.at .val],
  [.at .val],
  [.at .val],
  [.at .val],
  [.at .val],
  [.at .val],
  [.at .val],
  [.at .val],
  [.at .val],
  [.at .val],
  [.at .val]]
def hints12 : List (List Sh) := [
  [.at .val],
  [.at .sl],
  [.at .val],
  [.agg [.sl, .int .i64, .sl]],
  [.agg [.sl, .int .i64, .sl]],
  [.at .sl],
  [.at .val],
  [.at .sl],
  [.at .sl],
  [.at .val],
  [.at .val],
  [.at (.int .i64)],
  [.at (.int .i64), .at (.int .i64)],
  [.at .val],
  [.at .val],
  [.at .val]]
def hints13 : List (List Sh) := [
  [.at .val],
  [.at .val],
  [.at .val],
  [.at .val],
  [.at .val],
  [.at (.int .u64)],
  [.at .val],
  [.at .val],
  [.at .val],
  [.at .ptr],
  [.at .val],
  [.at .ptr],
  [.at .val],
  [.at .val],
  [.agg [.ptr, .ptr, .ptr, .str]],
  [.agg [.ptr, .ptr, .ptr, .str]]]
def hints14 : List (List Sh) := [
  [.agg []],
  [.agg []],
  [.agg []],
  [.at .val],
  [.at (.int .u8)],
  [.at (.int .u8)],
  [.at .val],
  [.at .ptr],
  [.at (.int .i32)],
  [.at (.int .i32)],
  [.agg [.int .u64, .int .u64, .int .u32, .int .u8, .int .u8, .int .u8, .int .u8, .val, .ptr, .int .i32, .int .i32]],
  [.agg [.int .u64, .int .u64, .int .u32, .int .u8, .int .u8, .int .u8, .int .u8, .val, .ptr, .int .i32, .int .i32]],
  [.at .ptr]]
def hint : Hint := hintOf [hints0, hints1, hints2, hints3, hints4, hints5, hints6, hints7, hints8, hints9, hints10, hints11, hints12, hints13, hints14]
end Go.Proofs.Ytoeaoinedidbiaa
