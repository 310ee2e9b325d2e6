/- The numbers of functions and types of this seat by their names, and of which kind a type's values are. Printed by a program. -/
import Derived.Test.YtncnlckblciegaaProg
import Derived.Test.YtncnlckblciegaaBase
namespace Go.Proofs.Ytncnlckblciegaa
open Go.GX Go.RowKit

abbrev F.main_main : FuncId := 0
abbrev F.gosem_cut : FuncId := 1
abbrev F.gosem_cut_init : FuncId := 2
abbrev F.l_FnExactCountColours : FuncId := 3
abbrev F.l_FnExactGreedyReduce : FuncId := 4
abbrev F.l_FnExactHalveColours : FuncId := 5
abbrev F.l_FnExactGreedyEdgeColouring : FuncId := 6
abbrev F.l_FnExactCoverByProposals : FuncId := 7
abbrev F.l_FnExactPolynomialStep : FuncId := 8
abbrev F.l_FnExactLevelsFor : FuncId := 9
abbrev F.l_FnExactIndependentByColours : FuncId := 10
abbrev F.l_FnExactColourFromLists : FuncId := 11
abbrev F.s_CountColours : FuncId := 12
abbrev F.l_toIntS : FuncId := 13
abbrev F.i_CountColours : FuncId := 14
abbrev F.l_eqIntS : FuncId := 15
abbrev F.l_szNetwork : FuncId := 16
abbrev F.s_GreedyReduce : FuncId := 17
abbrev F.l_toNetwork : FuncId := 18
abbrev F.i_GreedyReduce : FuncId := 19
abbrev F.l_eqNetwork : FuncId := 20
abbrev F.l_markNetwork : FuncId := 21
abbrev F.l_markIntS : FuncId := 22
abbrev F.l_heldIntS : FuncId := 23
abbrev F.s_HalveColours : FuncId := 24
abbrev F.i_HalveColours : FuncId := 25
abbrev F.s_GreedyEdgeColouring : FuncId := 26
abbrev F.i_GreedyEdgeColouring : FuncId := 27
abbrev F.l_eqIntSS : FuncId := 28
abbrev F.l_markIntSS : FuncId := 29
abbrev F.l_heldIntSS : FuncId := 30
abbrev F.s_CoverByProposals : FuncId := 31
abbrev F.i_CoverByProposals : FuncId := 32
abbrev F.s_PolynomialStep : FuncId := 33
abbrev F.i_PolynomialStep : FuncId := 34
abbrev F.l_szWalkProblem : FuncId := 35
abbrev F.s_LevelsFor : FuncId := 36
abbrev F.l_toWalkProblem : FuncId := 37
abbrev F.i_LevelsFor : FuncId := 38
abbrev F.l_eqWalkProblem : FuncId := 39
abbrev F.s_IndependentByColours : FuncId := 40
abbrev F.i_IndependentByColours : FuncId := 41
abbrev F.l_szIntSS : FuncId := 42
abbrev F.s_ColourFromLists : FuncId := 43
abbrev F.l_toIntSS : FuncId := 44
abbrev F.i_ColourFromLists : FuncId := 45
abbrev F.s_l1Has : FuncId := 46
abbrev F.slices_Compact_sl_int_int : FuncId := 47
abbrev F.slices_Sorted_int : FuncId := 48
abbrev F.slices_Values_sl_int_int : FuncId := 49
abbrev F.l_szEndSS : FuncId := 50
abbrev F.l_szIntS : FuncId := 51
abbrev F.s_clAsked : FuncId := 52
abbrev F.s_clGreedy : FuncId := 53
abbrev F.l_toEndSS : FuncId := 54
abbrev F.i_paletteOk : FuncId := 55
abbrev F.i_greedyReduce : FuncId := 56
abbrev F.l_eqEndSS : FuncId := 57
abbrev F.l_markEndSS : FuncId := 58
abbrev F.s_clHalve : FuncId := 59
abbrev F.i_halveColours : FuncId := 60
abbrev F.s_neGood : FuncId := 61
abbrev F.s_soEmpty : FuncId := 62
abbrev F.s_neEdges : FuncId := 63
abbrev F.s_clLeast : FuncId := 64
abbrev F.s_l1Own : FuncId := 65
abbrev F.i_IsNetwork : FuncId := 66
abbrev F.slices_ContainsFunc_sl_i_edge_i_edge : FuncId := 67
abbrev F.i_Network_edges : FuncId := 68
abbrev F.i_edge_isLoop : FuncId := 69
abbrev F.i_unlabeled : FuncId := 70
abbrev F.i_leastFree : FuncId := 71
abbrev F.slices_Concat_sl_int_int : FuncId := 72
abbrev F.s_DoubleCover : FuncId := 73
abbrev F.s_mtCover : FuncId := 74
abbrev F.i_DoubleCover : FuncId := 75
abbrev F.i_proposalMatching : FuncId := 76
abbrev F.slices_Repeat_sl_int_int : FuncId := 77
abbrev F.s_clParameters : FuncId := 78
abbrev F.s_clStep : FuncId := 79
abbrev F.i_polynomialStep : FuncId := 80
abbrev F.s_cyLevels : FuncId := 81
abbrev F.i_IsWalkProblem : FuncId := 82
abbrev F.i_WalkProblem_flexibleLabels : FuncId := 83
abbrev F.i_WalkProblem_flexibilityOf : FuncId := 84
abbrev F.s_mtColoured : FuncId := 85
abbrev F.s_viMany : FuncId := 86
abbrev F.s_mtOwn : FuncId := 87
abbrev F.s_mtApart : FuncId := 88
abbrev F.s_l1Put : FuncId := 89
abbrev F.i_allWithin : FuncId := 90
abbrev F.i_IndependentByColours_1 : FuncId := 91
abbrev F.i_numbersTo : FuncId := 92
abbrev F.slices_SortStableFunc_sl_int_int : FuncId := 93
abbrev F.i_IndependentByColours_2 : FuncId := 94
abbrev F.i_greedyIndependent : FuncId := 95
abbrev F.slices_Max_sl_int_int : FuncId := 96
abbrev F.s_clProper : FuncId := 97
abbrev F.s_clLists : FuncId := 98
abbrev F.s_coThrough : FuncId := 99
abbrev F.s_neNear : FuncId := 100
abbrev F.i_isColouring : FuncId := 101
abbrev F.i_listsOk : FuncId := 102
abbrev F.i_ColourFromLists_1 : FuncId := 103
abbrev F.i_near : FuncId := 104
abbrev F.slices_IndexFunc_sl_int_int : FuncId := 105
abbrev F.i_ColourFromLists_2 : FuncId := 106
abbrev F.slices_Contains_sl_int_int : FuncId := 107
abbrev F.slices_Collect_int : FuncId := 108
abbrev F.slices_Sort_sl_int_int : FuncId := 109
abbrev F.slices_Values_sl_int_int_1 : FuncId := 110
abbrev F.l_szEndS : FuncId := 111
abbrev F.s_clPalette : FuncId := 112
abbrev F.s_l1All : FuncId := 113
abbrev F.s_meMost : FuncId := 114
abbrev F.s_neDegrees : FuncId := 115
abbrev F.s_clDrop : FuncId := 116
abbrev F.s_l1Most : FuncId := 117
abbrev F.l_toEndS : FuncId := 118
abbrev F.i_within : FuncId := 119
abbrev F.i_isBound : FuncId := 120
abbrev F.i_dropColour : FuncId := 121
abbrev F.slices_Clone_sl_int_int : FuncId := 122
abbrev F.l_eqEndS : FuncId := 123
abbrev F.l_markEndS : FuncId := 124
abbrev F.s_l1In : FuncId := 125
abbrev F.s_neIds : FuncId := 126
abbrev F.s_neFirst : FuncId := 127
abbrev F.i_idsOk : FuncId := 128
abbrev F.i_inputsOk : FuncId := 129
abbrev F.i_Network_hasPort : FuncId := 130
abbrev F.slices_IndexFunc_sl_i_edge_i_edge : FuncId := 131
abbrev F.slices_Grow_sl_int_int : FuncId := 132
abbrev F.s_neIf : FuncId := 133
abbrev F.s_buDouble : FuncId := 134
abbrev F.s_mtProposals : FuncId := 135
abbrev F.i_network : FuncId := 136
abbrev F.i_noMatching : FuncId := 137
abbrev F.math_bits_Mul : FuncId := 138
abbrev F.s_nuNext : FuncId := 139
abbrev F.s_clPower : FuncId := 140
abbrev F.s_clTake : FuncId := 141
abbrev F.i_polynomialParameters : FuncId := 142
abbrev F.i_DigitsOf : FuncId := 143
abbrev F.i_PolynomialAt : FuncId := 144
abbrev F.slices_ContainsFunc_sl_i_End_i_End : FuncId := 145
abbrev F.i_polynomialStep_1 : FuncId := 146
abbrev F.s_FlexibleLabels : FuncId := 147
abbrev F.s_FlexibilityOf : FuncId := 148
abbrev F.i_WalkProblem_hasLabels : FuncId := 149
abbrev F.slices_Compare_sl_int_int : FuncId := 150
abbrev F.i_WalkProblem_walkComponents : FuncId := 151
abbrev F.i_WalkProblem_reached : FuncId := 152
abbrev F.slices_ContainsFunc_sl_int_int : FuncId := 153
abbrev F.i_allWithin_1 : FuncId := 154
abbrev F.slices_stableCmpFunc_int : FuncId := 155
abbrev F.i_areJoined : FuncId := 156
abbrev F.i_hasNear : FuncId := 157
abbrev F.s_imEdge : FuncId := 158
abbrev F.i_isColouring_1 : FuncId := 159
abbrev F.i_increasing : FuncId := 160
abbrev F.slices_Index_sl_int_int : FuncId := 161
abbrev F.slices_AppendSeq_sl_int_int : FuncId := 162
abbrev F.slices_pdqsortOrdered_int : FuncId := 163
abbrev F.math_bits_Len : FuncId := 164
abbrev F.l_toEnd : FuncId := 165
abbrev F.i_Network_degrees : FuncId := 166
abbrev F.l_eqEnd : FuncId := 167
abbrev F.i_Network_hasNode : FuncId := 168
abbrev F.s_neEmpty : FuncId := 169
abbrev F.s_mtFree : FuncId := 170
abbrev F.s_mtTake : FuncId := 171
abbrev F.math_bits_Mul32 : FuncId := 172
abbrev F.math_bits_Mul64 : FuncId := 173
abbrev F.s_nuPrime : FuncId := 174
abbrev F.s_nuDigits : FuncId := 175
abbrev F.s_nuValue : FuncId := 176
abbrev F.i_isPrime : FuncId := 177
abbrev F.i_isWhole : FuncId := 178
abbrev F.slices_Backward_sl_int_int : FuncId := 179
abbrev F.slices_IndexFunc_sl_i_End_i_End : FuncId := 180
abbrev F.s_waGood : FuncId := 181
abbrev F.s_waFlexible : FuncId := 182
abbrev F.s_waFlexibility : FuncId := 183
abbrev F.cmp_Compare_int : FuncId := 184
abbrev F.i_WalkProblem_closure : FuncId := 185
abbrev F.i_WalkProblem_after : FuncId := 186
abbrev F.i_labelsIn : FuncId := 187
abbrev F.i_setOf : FuncId := 188
abbrev F.i_WalkProblem_periodOf : FuncId := 189
abbrev F.slices_insertionSortCmpFunc_int : FuncId := 190
abbrev F.slices_symMergeCmpFunc_int : FuncId := 191
abbrev F.i_areJoined_1 : FuncId := 192
abbrev F.i_hasNear_1 : FuncId := 193
abbrev F.slices_insertionSortOrdered_int : FuncId := 194
abbrev F.slices_heapSortOrdered_int : FuncId := 195
abbrev F.slices_breakPatternsOrdered_int : FuncId := 196
abbrev F.slices_choosePivotOrdered_int : FuncId := 197
abbrev F.slices_reverseRangeOrdered_int : FuncId := 198
abbrev F.slices_partialInsertionSortOrdered_int : FuncId := 199
abbrev F.cmp_Less_int : FuncId := 200
abbrev F.slices_partitionEqualOrdered_int : FuncId := 201
abbrev F.slices_partitionOrdered_int : FuncId := 202
abbrev F.math_bits_Len32 : FuncId := 203
abbrev F.math_bits_Len64 : FuncId := 204
abbrev F.s_roFree : FuncId := 205
abbrev F.slices_Backward_sl_int_int_1 : FuncId := 206
abbrev F.s_waArcs : FuncId := 207
abbrev F.s_waParts : FuncId := 208
abbrev F.s_waPowers : FuncId := 209
abbrev F.cmp_isNaN_int : FuncId := 210
abbrev F.i_WalkProblem_distancesIn : FuncId := 211
abbrev F.i_gcd : FuncId := 212
abbrev F.slices_rotateCmpFunc_int : FuncId := 213
abbrev F.slices_siftDownOrdered_int : FuncId := 214
abbrev F.slices_nextPowerOfTwo : FuncId := 215
abbrev F.ptr_slices_xorshift_Next : FuncId := 216
abbrev F.slices_medianAdjacentOrdered_int : FuncId := 217
abbrev F.slices_medianOrdered_int : FuncId := 218
abbrev F.s_prOrder : FuncId := 219
abbrev F.s_waReach : FuncId := 220
abbrev F.s_waDepths : FuncId := 221
abbrev F.s_waGcd : FuncId := 222
abbrev F.s_l1Abs : FuncId := 223
abbrev F.s_waMay : FuncId := 224
abbrev F.s_waTimes : FuncId := 225
abbrev F.slices_swapRangeCmpFunc_int : FuncId := 226
abbrev F.slices_order2Ordered_int : FuncId := 227
abbrev F.s_l1Sign : FuncId := 228
abbrev F.runtime_boundsError_Error : FuncId := 229
abbrev F.runtime_boundsError_RuntimeError : FuncId := 230
abbrev F.runtime_errorString_Error : FuncId := 231
abbrev F.runtime_errorString_RuntimeError : FuncId := 232
abbrev F.runtime_plainError_Error : FuncId := 233
abbrev F.runtime_plainError_RuntimeError : FuncId := 234
abbrev F.runtime_errorAddressString_Error : FuncId := 235
abbrev F.runtime_errorAddressString_RuntimeError : FuncId := 236
abbrev F.ptr_runtime_TypeAssertionError_Error : FuncId := 237
abbrev F.ptr_runtime_TypeAssertionError_RuntimeError : FuncId := 238
abbrev F.ptr_runtime_PanicNilError_Error : FuncId := 239
abbrev F.ptr_runtime_PanicNilError_RuntimeError : FuncId := 240
abbrev F.ptr_internal_abi_Type_Align : FuncId := 241
abbrev F.internal_runtime_maps_unhashableTypeError_Error : FuncId := 242
abbrev F.internal_runtime_maps_unhashableTypeError_RuntimeError : FuncId := 243
abbrev F.i_Network_isSimple : FuncId := 244
abbrev F.i_WalkProblem_classOf : FuncId := 245
abbrev F.internal_abi_Kind_String : FuncId := 246
abbrev T.t_unit : TypeId := 0
abbrev T.t_func : TypeId := 1
abbrev T.t_int64 : TypeId := 2
abbrev T.t_int : TypeId := 3
abbrev T.t_bool : TypeId := 4
abbrev T.t_uint8 : TypeId := 5
abbrev T.t_abi_BoundsErrorCode : TypeId := 6
abbrev T.t_struct_x_int64_y_int_signed_bool_code_abi_BoundsErrorCode : TypeId := 7
abbrev T.t_runtime_boundsError : TypeId := 8
abbrev T.t_string : TypeId := 9
abbrev T.t_runtime_errorString : TypeId := 10
abbrev T.t_runtime_plainError : TypeId := 11
abbrev T.t_uintptr : TypeId := 12
abbrev T.t_struct_msg_string_addr_uintptr : TypeId := 13
abbrev T.t_runtime_errorAddressString : TypeId := 14
abbrev T.t_ptr_runtime_TypeAssertionError : TypeId := 15
abbrev T.t_ptr_runtime_PanicNilError : TypeId := 16
abbrev T.t_ptr_abi_Type : TypeId := 17
abbrev T.t_struct_typ_ptr_abi_Type : TypeId := 18
abbrev T.t_maps_unhashableTypeError : TypeId := 19
abbrev T.t_interface : TypeId := 20
abbrev T.t_int32 : TypeId := 21
abbrev T.t_sl_int : TypeId := 22
abbrev T.t_int_bool : TypeId := 23
abbrev T.t_func_sl_int_int_bool : TypeId := 24
abbrev T.t_func_sl_int_sl_int : TypeId := 25
abbrev T.t_func_sl_int_sl_int_bool : TypeId := 26
abbrev T.t_func_sl_int_bool : TypeId := 27
abbrev T.t_sl_sl_l_End : TypeId := 28
abbrev T.t_struct_Ends_sl_sl_l_End_Ids_sl_int_Inputs_sl_int : TypeId := 29
abbrev T.t_l_Network : TypeId := 30
abbrev T.t_func_l_Network_int_int : TypeId := 31
abbrev T.t_sl_int_int_bool : TypeId := 32
abbrev T.t_func_i_Network_sl_int_int_int_sl_int_int_bool : TypeId := 33
abbrev T.t_sl_sl_i_End : TypeId := 34
abbrev T.t_struct_Ends_sl_sl_i_End_Ids_sl_int_Inputs_sl_int : TypeId := 35
abbrev T.t_i_Network : TypeId := 36
abbrev T.t_func_l_Network_i_Network : TypeId := 37
abbrev T.t_func_i_Network_i_Network_bool : TypeId := 38
abbrev T.t_func_i_Network_int_int : TypeId := 39
abbrev T.t_func_sl_int_int_int : TypeId := 40
abbrev T.t_func_l_Network_sl_int_int_int_bool : TypeId := 41
abbrev T.t_sl_sl_int : TypeId := 42
abbrev T.t_sl_sl_int_bool : TypeId := 43
abbrev T.t_func_i_Network_sl_sl_int_bool : TypeId := 44
abbrev T.t_func_sl_sl_int_sl_sl_int_bool : TypeId := 45
abbrev T.t_func_sl_sl_int_int_int : TypeId := 46
abbrev T.t_func_l_Network_bool : TypeId := 47
abbrev T.t_sl_int_bool : TypeId := 48
abbrev T.t_func_i_Network_sl_int_bool : TypeId := 49
abbrev T.t_struct_Labels_int_Arcs_sl_sl_int : TypeId := 50
abbrev T.t_l_WalkProblem : TypeId := 51
abbrev T.t_func_l_WalkProblem_int_int : TypeId := 52
abbrev T.t_func_i_WalkProblem_int_bool : TypeId := 53
abbrev T.t_i_WalkProblem : TypeId := 54
abbrev T.t_func_l_WalkProblem_i_WalkProblem : TypeId := 55
abbrev T.t_func_i_WalkProblem_i_WalkProblem_bool : TypeId := 56
abbrev T.t_func_l_WalkProblem_bool : TypeId := 57
abbrev T.t_func_i_Network_sl_int_sl_int_int_bool : TypeId := 58
abbrev T.t_func_l_Network_sl_int_bool : TypeId := 59
abbrev T.t_func_i_Network_sl_int_sl_sl_int_sl_int_bool : TypeId := 60
abbrev T.t_func_sl_sl_int_sl_sl_int : TypeId := 61
abbrev T.t_func_l_Network_sl_int_sl_sl_int_bool : TypeId := 62
abbrev T.t_func_sl_int_int_bool_1 : TypeId := 63
abbrev T.t_func_iter_Seq_int_sl_int : TypeId := 64
abbrev T.t_func_func_int_bool : TypeId := 65
abbrev T.t_iter_Seq_int : TypeId := 66
abbrev T.t_func_sl_int_iter_Seq_int : TypeId := 67
abbrev T.t_func_sl_sl_l_End_int_int : TypeId := 68
abbrev T.t_func_i_Network_sl_int_int_int_bool : TypeId := 69
abbrev T.t_sl_int_int : TypeId := 70
abbrev T.t_func_i_Network_sl_int_int_int_sl_int_int : TypeId := 71
abbrev T.t_func_sl_sl_l_End_sl_sl_i_End : TypeId := 72
abbrev T.t_func_sl_sl_i_End_sl_sl_i_End_bool : TypeId := 73
abbrev T.t_func_sl_sl_i_End_int_int : TypeId := 74
abbrev T.t_func_i_Network_bool : TypeId := 75
abbrev T.t_func_i_Network_sl_sl_int : TypeId := 76
abbrev T.t_func_sl_int_int : TypeId := 77
abbrev T.t_func_sl_i_edge_func_i_edge_bool_bool : TypeId := 78
abbrev T.t_sl_i_edge : TypeId := 79
abbrev T.t_struct_v_int_i_int_w_int_j_int : TypeId := 80
abbrev T.t_i_edge : TypeId := 81
abbrev T.t_func_sl_i_edge : TypeId := 82
abbrev T.t_func_i_edge_bool : TypeId := 83
abbrev T.t_func_bool : TypeId := 84
abbrev T.t_func_sl_int_sl_int_1 : TypeId := 85
abbrev T.t_i_Network_bool : TypeId := 86
abbrev T.t_func_i_Network_i_Network_bool_1 : TypeId := 87
abbrev T.t_func_i_Network_sl_int : TypeId := 88
abbrev T.t_func_i_Network_sl_int_sl_int_int : TypeId := 89
abbrev T.t_func_sl_int_int_sl_int : TypeId := 90
abbrev T.t_int_int : TypeId := 91
abbrev T.t_func_int_int_int_int : TypeId := 92
abbrev T.t_func_i_Network_sl_int_int_int_sl_int : TypeId := 93
abbrev T.t_int_int_bool : TypeId := 94
abbrev T.t_func_i_WalkProblem_int_int_bool : TypeId := 95
abbrev T.t_func_i_WalkProblem_bool : TypeId := 96
abbrev T.t_func_sl_int : TypeId := 97
abbrev T.t_func_int_int : TypeId := 98
abbrev T.t_func_i_Network_sl_int_bool_1 : TypeId := 99
abbrev T.t_func_i_Network_int_bool : TypeId := 100
abbrev T.t_func_i_Network_int_sl_int_bool : TypeId := 101
abbrev T.t_func_sl_int_int_int_bool : TypeId := 102
abbrev T.t_func_int_sl_int : TypeId := 103
abbrev T.t_func_sl_int_func_int_int_int : TypeId := 104
abbrev T.t_func_int_int_int : TypeId := 105
abbrev T.t_func_i_Network_sl_int_sl_int : TypeId := 106
abbrev T.t_func_i_Network_sl_sl_int_bool_1 : TypeId := 107
abbrev T.t_func_sl_int_sl_int_sl_int : TypeId := 108
abbrev T.t_func_i_Network_int_sl_int : TypeId := 109
abbrev T.t_func_i_Network_int_sl_int_sl_int : TypeId := 110
abbrev T.t_func_sl_int_func_int_bool_int : TypeId := 111
abbrev T.t_func_int_bool : TypeId := 112
abbrev T.t_func_sl_int_1 : TypeId := 113
abbrev T.t_func_sl_l_End_int_int : TypeId := 114
abbrev T.t_sl_l_End : TypeId := 115
abbrev T.t_func_int_int_bool : TypeId := 116
abbrev T.t_func_i_Network_sl_int_int_sl_int : TypeId := 117
abbrev T.t_sl_i_End : TypeId := 118
abbrev T.t_func_sl_l_End_sl_i_End : TypeId := 119
abbrev T.t_func_int_int_int_bool : TypeId := 120
abbrev T.t_func_sl_i_End_sl_i_End_bool : TypeId := 121
abbrev T.t_func_sl_i_End_int_int : TypeId := 122
abbrev T.t_struct_Node_int_Port_int : TypeId := 123
abbrev T.t_i_End : TypeId := 124
abbrev T.t_func_i_Network_int_int_bool : TypeId := 125
abbrev T.t_func_sl_i_edge_func_i_edge_bool_int : TypeId := 126
abbrev T.t_func_i_Network_i_Network : TypeId := 127
abbrev T.t_uint : TypeId := 128
abbrev T.t_uint_uint : TypeId := 129
abbrev T.t_func_uint_uint_uint_uint : TypeId := 130
abbrev T.t_func_int_int_int_sl_int_int : TypeId := 131
abbrev T.t_func_int_int_int_sl_int_bool : TypeId := 132
abbrev T.t_func_int_sl_int_int_int_bool : TypeId := 133
abbrev T.t_func_sl_i_End_func_i_End_bool_bool : TypeId := 134
abbrev T.t_func_i_End_bool : TypeId := 135
abbrev T.t_func_i_WalkProblem_sl_int_bool : TypeId := 136
abbrev T.t_func_i_WalkProblem_int_int_bool_1 : TypeId := 137
abbrev T.t_func_int_bool_1 : TypeId := 138
abbrev T.t_func_sl_int_sl_int_int : TypeId := 139
abbrev T.t_sl_sl_int_sl_int : TypeId := 140
abbrev T.t_func_sl_sl_int_sl_int : TypeId := 141
abbrev T.t_func_int_int_sl_int : TypeId := 142
abbrev T.t_func_sl_int_func_int_bool_bool : TypeId := 143
abbrev T.t_func_sl_int_int_func_int_int_int : TypeId := 144
abbrev T.t_func_i_Network_sl_int_int_int_bool_1 : TypeId := 145
abbrev T.t_func_sl_int_iter_Seq_int_sl_int : TypeId := 146
abbrev T.t_func_sl_int_int_int_int : TypeId := 147
abbrev T.t_func_uint_int : TypeId := 148
abbrev T.t_func_l_End_i_End : TypeId := 149
abbrev T.t_l_End : TypeId := 150
abbrev T.t_func_i_End_i_End_bool : TypeId := 151
abbrev T.t_func_int_i_Network : TypeId := 152
abbrev T.t_uint32 : TypeId := 153
abbrev T.t_uint32_uint32 : TypeId := 154
abbrev T.t_func_uint32_uint32_uint32_uint32 : TypeId := 155
abbrev T.t_uint64 : TypeId := 156
abbrev T.t_uint64_uint64 : TypeId := 157
abbrev T.t_func_uint64_uint64_uint64_uint64 : TypeId := 158
abbrev T.t_func_int_int_int_sl_int : TypeId := 159
abbrev T.t_func_int_sl_int_int_int : TypeId := 160
abbrev T.t_func_func_int_int_bool : TypeId := 161
abbrev T.t_iter_Seq2_int_int : TypeId := 162
abbrev T.t_func_sl_int_iter_Seq2_int_int : TypeId := 163
abbrev T.t_func_sl_i_End_func_i_End_bool_int : TypeId := 164
abbrev T.t_func_i_WalkProblem_sl_int : TypeId := 165
abbrev T.t_func_i_WalkProblem_int_int : TypeId := 166
abbrev T.t_func_sl_int_int_int_func_int_int_int : TypeId := 167
abbrev T.t_func_sl_int_int_int_int_func_int_int_int : TypeId := 168
abbrev T.t_func_sl_int_int_int_1 : TypeId := 169
abbrev T.t_slices_sortedHint : TypeId := 170
abbrev T.t_int_slices_sortedHint : TypeId := 171
abbrev T.t_func_sl_int_int_int_int_slices_sortedHint : TypeId := 172
abbrev T.t_func_sl_int_int_int_int_int : TypeId := 173
abbrev T.t_func_sl_int_int_int_int_int_bool : TypeId := 174
abbrev T.t_func_uint32_int : TypeId := 175
abbrev T.t_func_uint64_int : TypeId := 176
abbrev T.t_func_sl_sl_int_int_bool : TypeId := 177
abbrev T.t_sl_s_waPart : TypeId := 178
abbrev T.t_func_i_WalkProblem_sl_s_waPart : TypeId := 179
abbrev T.t_struct_labels_sl_int_period_int_residue_sl_int : TypeId := 180
abbrev T.t_s_waPart : TypeId := 181
abbrev T.t_sl_sl_sl_bool : TypeId := 182
abbrev T.t_func_i_WalkProblem_int_sl_sl_sl_bool : TypeId := 183
abbrev T.t_sl_bool : TypeId := 184
abbrev T.t_sl_sl_bool : TypeId := 185
abbrev T.t_func_int_int_1 : TypeId := 186
abbrev T.t_slices_xorshift : TypeId := 187
abbrev T.t_func_int_uint : TypeId := 188
abbrev T.t_func_uint64 : TypeId := 189
abbrev T.t_func_sl_int_int_ptr_int_int : TypeId := 190
abbrev T.t_ptr_int : TypeId := 191
abbrev T.t_func_sl_int_int_int_int_ptr_int_int : TypeId := 192
abbrev T.t_func_i_WalkProblem_sl_sl_bool : TypeId := 193
abbrev T.t_func_i_WalkProblem_sl_int_sl_int : TypeId := 194
abbrev T.t_func_sl_sl_bool_sl_sl_bool_sl_sl_bool : TypeId := 195
abbrev T.t_ptr_slices_xorshift : TypeId := 196
abbrev T.t_func_sl_int_int_int_ptr_int_int_int : TypeId := 197
abbrev T.t_func_string : TypeId := 198
abbrev T.t_struct__interface_ptr_abi_Type_concrete_ptr_abi_Type_asserted_ptr_abi_Type_missingMethod_string : TypeId := 199
abbrev T.t_runtime_TypeAssertionError : TypeId := 200
abbrev T.t_0_ptr_runtime_PanicNilError : TypeId := 201
abbrev T.t_struct___0_ptr_runtime_PanicNilError : TypeId := 202
abbrev T.t_runtime_PanicNilError : TypeId := 203
abbrev T.t_func_int : TypeId := 204
abbrev T.t_abi_TFlag : TypeId := 205
abbrev T.t_abi_Kind : TypeId := 206
abbrev T.t_func_unsafe_Pointer_unsafe_Pointer_bool : TypeId := 207
abbrev T.t_ptr_uint8 : TypeId := 208
abbrev T.t_abi_NameOff : TypeId := 209
abbrev T.t_abi_TypeOff : TypeId := 210
abbrev T.t_struct_Size__uintptr_PtrBytes_uintptr_Hash_uint32_TFlag_abi_TFlag_Align__uint8_FieldAlign__uint8_Kind__abi_Kind_Equal_func_unsafe_Pointer_unsafe_Pointer_bool_GCData_ptr_uint8_Str_abi_NameOff_PtrToThis_abi_TypeOff : TypeId := 211
abbrev T.t_abi_Type : TypeId := 212
abbrev T.t_unsafe_Pointer : TypeId := 213
def hints0 : List (List Sh) := [
  [],
  [.at .val],
  [.at (.int .i64)],
  [.at (.int .i64)],
  [.at .bool],
  [.at (.int .u8)],
  [.at (.int .u8)],
  [.agg [.int .i64, .int .i64, .bool, .int .u8]],
  [.agg [.int .i64, .int .i64, .bool, .int .u8]],
  [.at .str],
  [.at .str],
  [.at .str],
  [.at (.int .u64)],
  [.agg [.str, .int .u64]],
  [.agg [.str, .int .u64]],
  [.at .ptr]]
def hints1 : List (List Sh) := [
  [.at .ptr],
  [.at .ptr],
  [.agg [.ptr]],
  [.agg [.ptr]],
  [.at .val],
  [.at (.int .i32)],
  [.at .sl],
  [.at (.int .i64), .at .bool],
  [.at .val],
  [.at .val],
  [.at .val],
  [.at .val],
  [.at .sl],
  [.agg [.sl, .sl, .sl]],
  [.agg [.sl, .sl, .sl]],
  [.at .val]]
def hints2 : List (List Sh) := [
  [.at .sl, .at (.int .i64), .at .bool],
  [.at .val],
  [.at .sl],
  [.agg [.sl, .sl, .sl]],
  [.agg [.sl, .sl, .sl]],
  [.at .val],
  [.at .val],
  [.at .val],
  [.at .val],
  [.at .val],
  [.at .sl],
  [.at .sl, .at .bool],
  [.at .val],
  [.at .val],
  [.at .val],
  [.at .val]]
def hints3 : List (List Sh) := [
  [.at .sl, .at .bool],
  [.at .val],
  [.agg [.int .i64, .sl]],
  [.agg [.int .i64, .sl]],
  [.at .val],
  [.at .val],
  [.agg [.int .i64, .sl]],
  [.at .val],
  [.at .val],
  [.at .val],
  [.at .val],
  [.at .val],
  [.at .val],
  [.at .val],
  [.at .val],
  [.at .val]]
def hints4 : List (List Sh) := [
  [.at .val],
  [.at .val],
  [.at .val],
  [.at .val],
  [.at .val],
  [.at .val],
  [.at .sl, .at (.int .i64)],
  [.at .val],
  [.at .val],
  [.at .val],
  [.at .val],
  [.at .val],
  [.at .val],
  [.at .val],
  [.at .val],
  [.at .sl]]
def hints5 : List (List Sh) := [
  [.agg [.int .i64, .int .i64, .int .i64, .int .i64]],
  [.agg [.int .i64, .int .i64, .int .i64, .int .i64]],
  [.at .val],
  [.at .val],
  [.at .val],
  [.at .val],
  [.agg [.sl, .sl, .sl], .at .bool],
  [.at .val],
  [.at .val],
  [.at .val],
  [.at .val],
  [.at (.int .i64), .at (.int .i64)],
  [.at .val],
  [.at .val],
  [.at (.int .i64), .at (.int .i64), .at .bool],
  [.at .val]]
def hints6 : List (List Sh) := [
  [.at .val],
  [.at .val],
  [.at .val],
  [.at .val],
  [.at .val],
  [.at .val],
  [.at .val],
  [.at .val],
  [.at .val],
  [.at .val],
  [.at .val],
  [.at .val],
  [.at .val],
  [.at .val],
  [.at .val],
  [.at .val]]
def hints7 : List (List Sh) := [
  [.at .val],
  [.at .val],
  [.at .val],
  [.at .sl],
  [.at .val],
  [.at .val],
  [.at .sl],
  [.at .val],
  [.at .val],
  [.at .val],
  [.at .val],
  [.agg [.int .i64, .int .i64]],
  [.agg [.int .i64, .int .i64]],
  [.at .val],
  [.at .val],
  [.at .val]]
def hints8 : List (List Sh) := [
  [.at (.int .u64)],
  [.at (.int .u64), .at (.int .u64)],
  [.at .val],
  [.at .val],
  [.at .val],
  [.at .val],
  [.at .val],
  [.at .val],
  [.at .val],
  [.at .val],
  [.at .val],
  [.at .val],
  [.at .sl, .at .sl],
  [.at .val],
  [.at .val],
  [.at .val]]
def hints9 : List (List Sh) := [
  [.at .val],
  [.at .val],
  [.at .val],
  [.at .val],
  [.at .val],
  [.at .val],
  [.agg [.int .i64, .int .i64]],
  [.at .val],
  [.at .val],
  [.at (.int .u32)],
  [.at (.int .u32), .at (.int .u32)],
  [.at .val],
  [.at (.int .u64)],
  [.at (.int .u64), .at (.int .u64)],
  [.at .val],
  [.at .val]]
def hints10 : List (List Sh) := [
  [.at .val],
  [.at .val],
  [.at .val],
  [.at .val],
  [.at .val],
  [.at .val],
  [.at .val],
  [.at .val],
  [.at .val],
  [.at .val],
  [.at (.int .i64)],
  [.at (.int .i64), .at (.int .i64)],
  [.at .val],
  [.at .val],
  [.at .val],
  [.at .val]]
def hints11 : List (List Sh) := [
  [.at .val],
  [.at .val],
  [.at .sl],
  [.at .val],
  [.agg [.sl, .int .i64, .sl]],
  [.agg [.sl, .int .i64, .sl]],
  [.at .sl],
  [.at .val],
  [.at .sl],
  [.at .sl],
  [.at .val],
  [.at (.int .u64)],
  [.at .val],
  [.at .val],
  [.at .val],
  [.at .ptr]]
def hints12 : List (List Sh) := [
  [.at .val],
  [.at .val],
  [.at .val],
  [.at .val],
  [.at .ptr],
  [.at .val],
  [.at .val],
  [.agg [.ptr, .ptr, .ptr, .str]],
  [.agg [.ptr, .ptr, .ptr, .str]],
  [.agg []],
  [.agg []],
  [.agg []],
  [.at .val],
  [.at (.int .u8)],
  [.at (.int .u8)],
  [.at .val]]
def hints13 : List (List Sh) := [
  [.at .ptr],
  [.at (.int .i32)],
  [.at (.int .i32)],
  [.agg [.int .u64, .int .u64, .int .u32, .int .u8, .int .u8, .int .u8, .int .u8, .val, .ptr, .int .i32, .int .i32]],
  [.agg [.int .u64, .int .u64, .int .u32, .int .u8, .int .u8, .int .u8, .int .u8, .val, .ptr, .int .i32, .int .i32]],
  [.at .ptr]]
def hint : Hint := hintOf [hints0, hints1, hints2, hints3, hints4, hints5, hints6, hints7, hints8, hints9, hints10, hints11, hints12, hints13]
end Go.Proofs.Ytncnlckblciegaa
