/- The numbers of functions and types of this seat by their names, and of which kind a type's values are. Printed by a program. -/
import Derived.Test.YtcilbmkieclelaaProg
import Derived.Test.YtcilbmkieclelaaBase
namespace Go.Proofs.Ytcilbmkieclelaa
open Go.GX Go.RowKit

abbrev F.main_main : FuncId := 0
abbrev F.gosem_cut : FuncId := 1
abbrev F.gosem_cut_init : FuncId := 2
abbrev F.l_FnExactIsEdgeColouring : FuncId := 3
abbrev F.l_FnExactIsDistanceColouring : FuncId := 4
abbrev F.l_FnExactGreedyIndependent : FuncId := 5
abbrev F.l_FnExactRulingByIds : FuncId := 6
abbrev F.l_FnExactImproveMatching : FuncId := 7
abbrev F.l_FnExactWeakFromSet : FuncId := 8
abbrev F.l_FnExactGreedyMatching : FuncId := 9
abbrev F.l_FnExactDropColour : FuncId := 10
abbrev F.l_FnExactLeastCover : FuncId := 11
abbrev F.l_FnExactIndependentByIds : FuncId := 12
abbrev F.l_FnExactProposalMatching : FuncId := 13
abbrev F.l_szNetwork : FuncId := 14
abbrev F.l_szIntSS : FuncId := 15
abbrev F.s_IsEdgeColouring : FuncId := 16
abbrev F.l_toNetwork : FuncId := 17
abbrev F.l_toIntSS : FuncId := 18
abbrev F.i_IsEdgeColouring : FuncId := 19
abbrev F.l_eqNetwork : FuncId := 20
abbrev F.l_eqIntSS : FuncId := 21
abbrev F.s_IsDistanceColouring : FuncId := 22
abbrev F.l_toIntS : FuncId := 23
abbrev F.i_IsDistanceColouring : FuncId := 24
abbrev F.l_eqIntS : FuncId := 25
abbrev F.s_GreedyIndependent : FuncId := 26
abbrev F.i_GreedyIndependent : FuncId := 27
abbrev F.l_markNetwork : FuncId := 28
abbrev F.l_markIntS : FuncId := 29
abbrev F.l_heldIntS : FuncId := 30
abbrev F.s_RulingByIds : FuncId := 31
abbrev F.i_RulingByIds : FuncId := 32
abbrev F.s_ImproveMatching : FuncId := 33
abbrev F.i_ImproveMatching : FuncId := 34
abbrev F.s_WeakFromSet : FuncId := 35
abbrev F.i_WeakFromSet : FuncId := 36
abbrev F.s_GreedyMatching : FuncId := 37
abbrev F.i_GreedyMatching : FuncId := 38
abbrev F.s_DropColour : FuncId := 39
abbrev F.i_DropColour : FuncId := 40
abbrev F.s_LeastCover : FuncId := 41
abbrev F.i_LeastCover : FuncId := 42
abbrev F.s_IndependentByIds : FuncId := 43
abbrev F.i_IndependentByIds : FuncId := 44
abbrev F.s_ProposalMatching : FuncId := 45
abbrev F.i_ProposalMatching : FuncId := 46
abbrev F.l_szEndSS : FuncId := 47
abbrev F.l_szIntS : FuncId := 48
abbrev F.s_neGood : FuncId := 49
abbrev F.s_clEdges : FuncId := 50
abbrev F.l_toEndSS : FuncId := 51
abbrev F.i_IsNetwork : FuncId := 52
abbrev F.i_isEdgeColouring : FuncId := 53
abbrev F.l_eqEndSS : FuncId := 54
abbrev F.s_ruColours : FuncId := 55
abbrev F.s_l1In : FuncId := 56
abbrev F.s_meFrom : FuncId := 57
abbrev F.i_areColours : FuncId := 58
abbrev F.i_within : FuncId := 59
abbrev F.i_allDistances : FuncId := 60
abbrev F.s_nePerm : FuncId := 61
abbrev F.s_mtGreedy : FuncId := 62
abbrev F.i_isPermutation : FuncId := 63
abbrev F.i_greedyIndependent : FuncId := 64
abbrev F.l_markEndSS : FuncId := 65
abbrev F.s_ruLeaves : FuncId := 66
abbrev F.i_numbersTo : FuncId := 67
abbrev F.slices_Clone_sl_int_int : FuncId := 68
abbrev F.slices_DeleteFunc_sl_int_int : FuncId := 69
abbrev F.i_RulingByIds_1 : FuncId := 70
abbrev F.slices_ContainsFunc_sl_i_End_i_End : FuncId := 71
abbrev F.i_RulingByIds_1_1 : FuncId := 72
abbrev F.slices_Contains_sl_int_int : FuncId := 73
abbrev F.s_mtAsked : FuncId := 74
abbrev F.s_mtPort : FuncId := 75
abbrev F.s_mtTake : FuncId := 76
abbrev F.i_matchingOk : FuncId := 77
abbrev F.i_portTo : FuncId := 78
abbrev F.s_IsMaximalIndependent : FuncId := 79
abbrev F.i_IsMaximalIndependent : FuncId := 80
abbrev F.s_mtFree : FuncId := 81
abbrev F.s_neEdges : FuncId := 82
abbrev F.i_noMatching : FuncId := 83
abbrev F.i_Network_edges : FuncId := 84
abbrev F.s_clProper : FuncId := 85
abbrev F.s_nuWhole : FuncId := 86
abbrev F.s_clDrop : FuncId := 87
abbrev F.i_isColouring : FuncId := 88
abbrev F.i_isWhole : FuncId := 89
abbrev F.i_dropColour : FuncId := 90
abbrev F.s_mtChosen : FuncId := 91
abbrev F.s_mtCovers : FuncId := 92
abbrev F.i_binomial : FuncId := 93
abbrev F.i_subsetAt : FuncId := 94
abbrev F.i_isCover : FuncId := 95
abbrev F.s_mtOwn : FuncId := 96
abbrev F.s_neNear : FuncId := 97
abbrev F.s_l1Has : FuncId := 98
abbrev F.s_l1Put : FuncId := 99
abbrev F.s_mtApart : FuncId := 100
abbrev F.i_independentByIds : FuncId := 101
abbrev F.s_mtSides : FuncId := 102
abbrev F.s_mtProposals : FuncId := 103
abbrev F.i_allWithin : FuncId := 104
abbrev F.slices_ContainsFunc_sl_i_edge_i_edge : FuncId := 105
abbrev F.i_ProposalMatching_1 : FuncId := 106
abbrev F.i_proposalMatching : FuncId := 107
abbrev F.l_szEndS : FuncId := 108
abbrev F.s_neIds : FuncId := 109
abbrev F.s_l1All : FuncId := 110
abbrev F.l_toEndS : FuncId := 111
abbrev F.i_idsOk : FuncId := 112
abbrev F.i_inputsOk : FuncId := 113
abbrev F.i_Network_hasPort : FuncId := 114
abbrev F.i_portsOk : FuncId := 115
abbrev F.i_increasing : FuncId := 116
abbrev F.slices_Sorted_int : FuncId := 117
abbrev F.slices_Values_sl_int_int : FuncId := 118
abbrev F.l_eqEndS : FuncId := 119
abbrev F.i_distancesFrom : FuncId := 120
abbrev F.i_areJoined : FuncId := 121
abbrev F.i_hasNear : FuncId := 122
abbrev F.slices_Sort_sl_int_int : FuncId := 123
abbrev F.l_markEndS : FuncId := 124
abbrev F.s_nuBit : FuncId := 125
abbrev F.slices_IndexFunc_sl_int_int : FuncId := 126
abbrev F.slices_IndexFunc_sl_i_End_i_End : FuncId := 127
abbrev F.slices_Index_sl_int_int : FuncId := 128
abbrev F.s_mtIs : FuncId := 129
abbrev F.s_l1Own : FuncId := 130
abbrev F.i_isMatching : FuncId := 131
abbrev F.i_portTo_1 : FuncId := 132
abbrev F.s_mtSet : FuncId := 133
abbrev F.s_mtIndependent : FuncId := 134
abbrev F.i_isNodeSet : FuncId := 135
abbrev F.i_isIndependent : FuncId := 136
abbrev F.s_roFree : FuncId := 137
abbrev F.s_neFirst : FuncId := 138
abbrev F.slices_Repeat_sl_int_int : FuncId := 139
abbrev F.s_imEdge : FuncId := 140
abbrev F.s_clLeast : FuncId := 141
abbrev F.s_coThrough : FuncId := 142
abbrev F.i_isColouring_1 : FuncId := 143
abbrev F.i_leastFree : FuncId := 144
abbrev F.i_near : FuncId := 145
abbrev F.s_elHas : FuncId := 146
abbrev F.i_isCover_1 : FuncId := 147
abbrev F.i_independentByIds_1 : FuncId := 148
abbrev F.i_independentByIds_2 : FuncId := 149
abbrev F.s_l1Most : FuncId := 150
abbrev F.slices_ContainsFunc_sl_int_int : FuncId := 151
abbrev F.i_allWithin_1 : FuncId := 152
abbrev F.slices_IndexFunc_sl_i_edge_i_edge : FuncId := 153
abbrev F.l_toEnd : FuncId := 154
abbrev F.i_Network_hasNode : FuncId := 155
abbrev F.slices_Collect_int : FuncId := 156
abbrev F.slices_Values_sl_int_int_1 : FuncId := 157
abbrev F.l_eqEnd : FuncId := 158
abbrev F.i_areJoined_1 : FuncId := 159
abbrev F.i_hasNear_1 : FuncId := 160
abbrev F.slices_pdqsortOrdered_int : FuncId := 161
abbrev F.math_bits_Len : FuncId := 162
abbrev F.s_l1Rising : FuncId := 163
abbrev F.i_isIndependent_1 : FuncId := 164
abbrev F.math_bits_Mul : FuncId := 165
abbrev F.slices_AppendSeq_sl_int_int : FuncId := 166
abbrev F.slices_insertionSortOrdered_int : FuncId := 167
abbrev F.slices_heapSortOrdered_int : FuncId := 168
abbrev F.slices_breakPatternsOrdered_int : FuncId := 169
abbrev F.slices_choosePivotOrdered_int : FuncId := 170
abbrev F.slices_reverseRangeOrdered_int : FuncId := 171
abbrev F.slices_partialInsertionSortOrdered_int : FuncId := 172
abbrev F.cmp_Less_int : FuncId := 173
abbrev F.slices_partitionEqualOrdered_int : FuncId := 174
abbrev F.slices_partitionOrdered_int : FuncId := 175
abbrev F.math_bits_Len32 : FuncId := 176
abbrev F.math_bits_Len64 : FuncId := 177
abbrev F.math_bits_Mul32 : FuncId := 178
abbrev F.math_bits_Mul64 : FuncId := 179
abbrev F.slices_siftDownOrdered_int : FuncId := 180
abbrev F.slices_nextPowerOfTwo : FuncId := 181
abbrev F.ptr_slices_xorshift_Next : FuncId := 182
abbrev F.slices_medianAdjacentOrdered_int : FuncId := 183
abbrev F.slices_medianOrdered_int : FuncId := 184
abbrev F.cmp_isNaN_int : FuncId := 185
abbrev F.slices_order2Ordered_int : FuncId := 186
abbrev F.runtime_boundsError_Error : FuncId := 187
abbrev F.runtime_boundsError_RuntimeError : FuncId := 188
abbrev F.runtime_errorString_Error : FuncId := 189
abbrev F.runtime_errorString_RuntimeError : FuncId := 190
abbrev F.runtime_plainError_Error : FuncId := 191
abbrev F.runtime_plainError_RuntimeError : FuncId := 192
abbrev F.runtime_errorAddressString_Error : FuncId := 193
abbrev F.runtime_errorAddressString_RuntimeError : FuncId := 194
abbrev F.ptr_runtime_TypeAssertionError_Error : FuncId := 195
abbrev F.ptr_runtime_TypeAssertionError_RuntimeError : FuncId := 196
abbrev F.ptr_runtime_PanicNilError_Error : FuncId := 197
abbrev F.ptr_runtime_PanicNilError_RuntimeError : FuncId := 198
abbrev F.ptr_internal_abi_Type_Align : FuncId := 199
abbrev F.internal_runtime_maps_unhashableTypeError_Error : FuncId := 200
abbrev F.internal_runtime_maps_unhashableTypeError_RuntimeError : FuncId := 201
abbrev F.i_Network_isSimple : FuncId := 202
abbrev F.i_edge_isLoop : FuncId := 203
abbrev F.internal_abi_Kind_String : FuncId := 204
abbrev T.t_unit : TypeId := 0
abbrev T.t_func : TypeId := 1
abbrev T.t_int64 : TypeId := 2
abbrev T.t_int : TypeId := 3
abbrev T.t_bool : TypeId := 4
abbrev T.t_uint8 : TypeId := 5
abbrev T.t_abi_BoundsErrorCode : TypeId := 6
abbrev T.t_struct_x_int64_y_int_signed_bool_code_abi_BoundsErrorCode : TypeId := 7
abbrev T.t_runtime_boundsError : TypeId := 8
abbrev T.t_string : TypeId := 9
abbrev T.t_runtime_errorString : TypeId := 10
abbrev T.t_runtime_plainError : TypeId := 11
abbrev T.t_uintptr : TypeId := 12
abbrev T.t_struct_msg_string_addr_uintptr : TypeId := 13
abbrev T.t_runtime_errorAddressString : TypeId := 14
abbrev T.t_ptr_runtime_TypeAssertionError : TypeId := 15
abbrev T.t_ptr_runtime_PanicNilError : TypeId := 16
abbrev T.t_ptr_abi_Type : TypeId := 17
abbrev T.t_struct_typ_ptr_abi_Type : TypeId := 18
abbrev T.t_maps_unhashableTypeError : TypeId := 19
abbrev T.t_interface : TypeId := 20
abbrev T.t_int32 : TypeId := 21
abbrev T.t_sl_sl_l_End : TypeId := 22
abbrev T.t_sl_int : TypeId := 23
abbrev T.t_struct_Ends_sl_sl_l_End_Ids_sl_int_Inputs_sl_int : TypeId := 24
abbrev T.t_l_Network : TypeId := 25
abbrev T.t_sl_sl_int : TypeId := 26
abbrev T.t_func_l_Network_int_int : TypeId := 27
abbrev T.t_func_sl_sl_int_int_int : TypeId := 28
abbrev T.t_bool_bool : TypeId := 29
abbrev T.t_func_i_Network_sl_sl_int_bool_bool : TypeId := 30
abbrev T.t_sl_sl_i_End : TypeId := 31
abbrev T.t_struct_Ends_sl_sl_i_End_Ids_sl_int_Inputs_sl_int : TypeId := 32
abbrev T.t_i_Network : TypeId := 33
abbrev T.t_func_l_Network_i_Network : TypeId := 34
abbrev T.t_func_sl_sl_int_sl_sl_int : TypeId := 35
abbrev T.t_func_i_Network_i_Network_bool : TypeId := 36
abbrev T.t_func_sl_sl_int_sl_sl_int_bool : TypeId := 37
abbrev T.t_func_l_Network_sl_sl_int_bool : TypeId := 38
abbrev T.t_func_i_Network_sl_int_int_bool_bool : TypeId := 39
abbrev T.t_func_sl_int_sl_int : TypeId := 40
abbrev T.t_func_sl_int_sl_int_bool : TypeId := 41
abbrev T.t_func_l_Network_sl_int_int_bool : TypeId := 42
abbrev T.t_sl_int_bool : TypeId := 43
abbrev T.t_func_i_Network_sl_int_sl_int_bool : TypeId := 44
abbrev T.t_func_i_Network_int_int : TypeId := 45
abbrev T.t_func_sl_int_int_int : TypeId := 46
abbrev T.t_func_l_Network_sl_int_bool : TypeId := 47
abbrev T.t_sl_int_int_bool : TypeId := 48
abbrev T.t_func_i_Network_sl_int_int_bool : TypeId := 49
abbrev T.t_func_l_Network_bool : TypeId := 50
abbrev T.t_func_i_Network_sl_int_bool : TypeId := 51
abbrev T.t_func_i_Network_sl_int_int_sl_int_bool : TypeId := 52
abbrev T.t_func_i_Network_sl_int_sl_int_int_bool : TypeId := 53
abbrev T.t_func_sl_sl_l_End_int_int : TypeId := 54
abbrev T.t_func_i_Network_bool : TypeId := 55
abbrev T.t_func_i_Network_sl_sl_int_bool : TypeId := 56
abbrev T.t_func_sl_sl_l_End_sl_sl_i_End : TypeId := 57
abbrev T.t_func_sl_sl_i_End_sl_sl_i_End_bool : TypeId := 58
abbrev T.t_func_i_Network_sl_int_bool_1 : TypeId := 59
abbrev T.t_func_int_int_int_bool : TypeId := 60
abbrev T.t_func_i_Network_int_sl_int : TypeId := 61
abbrev T.t_func_i_Network_sl_sl_int : TypeId := 62
abbrev T.t_func_sl_int_int_bool : TypeId := 63
abbrev T.t_func_i_Network_sl_int_sl_int : TypeId := 64
abbrev T.t_func_sl_sl_i_End_int_int : TypeId := 65
abbrev T.t_sl_bool : TypeId := 66
abbrev T.t_func_i_Network_sl_bool_int_int_bool : TypeId := 67
abbrev T.t_func_int_sl_int : TypeId := 68
abbrev T.t_func_sl_int_func_int_bool_sl_int : TypeId := 69
abbrev T.t_func_sl_i_End_func_i_End_bool_bool : TypeId := 70
abbrev T.t_sl_i_End : TypeId := 71
abbrev T.t_struct_Node_int_Port_int : TypeId := 72
abbrev T.t_i_End : TypeId := 73
abbrev T.t_func_i_End_bool : TypeId := 74
abbrev T.t_func_int_bool : TypeId := 75
abbrev T.t_func_i_Network_int_int_int : TypeId := 76
abbrev T.t_func_i_Network_sl_int_int_int_sl_int : TypeId := 77
abbrev T.t_func_i_Network_sl_int_bool_bool : TypeId := 78
abbrev T.t_func_i_Network_sl_int : TypeId := 79
abbrev T.t_sl_i_edge : TypeId := 80
abbrev T.t_func_sl_i_edge : TypeId := 81
abbrev T.t_struct_v_int_i_int_w_int_j_int : TypeId := 82
abbrev T.t_i_edge : TypeId := 83
abbrev T.t_func_i_Network_sl_int_int_sl_int : TypeId := 84
abbrev T.t_func_int_int_sl_int : TypeId := 85
abbrev T.t_func_int_int_int : TypeId := 86
abbrev T.t_func_int_int_int_sl_int : TypeId := 87
abbrev T.t_func_i_Network_int_bool : TypeId := 88
abbrev T.t_func_sl_int_int_sl_int : TypeId := 89
abbrev T.t_func_i_Network_int_sl_int_bool : TypeId := 90
abbrev T.t_sl_int_int : TypeId := 91
abbrev T.t_func_i_Network_sl_int_int : TypeId := 92
abbrev T.t_func_i_Network_sl_int_sl_int_int : TypeId := 93
abbrev T.t_func_sl_int_int_int_bool : TypeId := 94
abbrev T.t_func_sl_i_edge_func_i_edge_bool_bool : TypeId := 95
abbrev T.t_func_i_edge_bool : TypeId := 96
abbrev T.t_func_sl_l_End_int_int : TypeId := 97
abbrev T.t_sl_l_End : TypeId := 98
abbrev T.t_func_sl_l_End_sl_i_End : TypeId := 99
abbrev T.t_func_int_int_bool : TypeId := 100
abbrev T.t_func_iter_Seq_int_sl_int : TypeId := 101
abbrev T.t_func_func_int_bool : TypeId := 102
abbrev T.t_iter_Seq_int : TypeId := 103
abbrev T.t_func_sl_int_iter_Seq_int : TypeId := 104
abbrev T.t_func_sl_i_End_sl_i_End_bool : TypeId := 105
abbrev T.t_func_i_Network_int_int_bool : TypeId := 106
abbrev T.t_func_sl_int : TypeId := 107
abbrev T.t_func_sl_i_End_int_int : TypeId := 108
abbrev T.t_uint : TypeId := 109
abbrev T.t_func_sl_int_func_int_bool_int : TypeId := 110
abbrev T.t_func_sl_i_End_func_i_End_bool_int : TypeId := 111
abbrev T.t_int_int_bool : TypeId := 112
abbrev T.t_func_i_Network_sl_int_int_int_bool : TypeId := 113
abbrev T.t_func_sl_int_int : TypeId := 114
abbrev T.t_func_sl_int_sl_int_sl_int : TypeId := 115
abbrev T.t_func_i_Network_int_sl_int_sl_int : TypeId := 116
abbrev T.t_func_sl_int_func_int_bool_bool : TypeId := 117
abbrev T.t_func_sl_i_edge_func_i_edge_bool_int : TypeId := 118
abbrev T.t_func_l_End_i_End : TypeId := 119
abbrev T.t_l_End : TypeId := 120
abbrev T.t_func_i_End_i_End_bool : TypeId := 121
abbrev T.t_func_sl_int_int_int_int : TypeId := 122
abbrev T.t_func_uint_int : TypeId := 123
abbrev T.t_uint_uint : TypeId := 124
abbrev T.t_func_uint_uint_uint_uint : TypeId := 125
abbrev T.t_func_sl_int_iter_Seq_int_sl_int : TypeId := 126
abbrev T.t_func_sl_int_int_int_1 : TypeId := 127
abbrev T.t_slices_sortedHint : TypeId := 128
abbrev T.t_int_slices_sortedHint : TypeId := 129
abbrev T.t_func_sl_int_int_int_int_slices_sortedHint : TypeId := 130
abbrev T.t_func_sl_int_int_int_int_int : TypeId := 131
abbrev T.t_int_bool : TypeId := 132
abbrev T.t_func_sl_int_int_int_int_int_bool : TypeId := 133
abbrev T.t_func_uint32_int : TypeId := 134
abbrev T.t_uint32 : TypeId := 135
abbrev T.t_func_uint64_int : TypeId := 136
abbrev T.t_uint64 : TypeId := 137
abbrev T.t_uint32_uint32 : TypeId := 138
abbrev T.t_func_uint32_uint32_uint32_uint32 : TypeId := 139
abbrev T.t_uint64_uint64 : TypeId := 140
abbrev T.t_func_uint64_uint64_uint64_uint64 : TypeId := 141
abbrev T.t_slices_xorshift : TypeId := 142
abbrev T.t_func_int_uint : TypeId := 143
abbrev T.t_func_uint64 : TypeId := 144
abbrev T.t_func_sl_int_int_ptr_int_int : TypeId := 145
abbrev T.t_ptr_int : TypeId := 146
abbrev T.t_func_sl_int_int_int_int_ptr_int_int : TypeId := 147
abbrev T.t_ptr_slices_xorshift : TypeId := 148
abbrev T.t_int_int : TypeId := 149
abbrev T.t_func_sl_int_int_int_ptr_int_int_int : TypeId := 150
abbrev T.t_func_string : TypeId := 151
abbrev T.t_struct__interface_ptr_abi_Type_concrete_ptr_abi_Type_asserted_ptr_abi_Type_missingMethod_string : TypeId := 152
abbrev T.t_runtime_TypeAssertionError : TypeId := 153
abbrev T.t_0_ptr_runtime_PanicNilError : TypeId := 154
abbrev T.t_struct___0_ptr_runtime_PanicNilError : TypeId := 155
abbrev T.t_runtime_PanicNilError : TypeId := 156
abbrev T.t_func_int : TypeId := 157
abbrev T.t_abi_TFlag : TypeId := 158
abbrev T.t_abi_Kind : TypeId := 159
abbrev T.t_func_unsafe_Pointer_unsafe_Pointer_bool : TypeId := 160
abbrev T.t_ptr_uint8 : TypeId := 161
abbrev T.t_abi_NameOff : TypeId := 162
abbrev T.t_abi_TypeOff : TypeId := 163
abbrev T.t_struct_Size__uintptr_PtrBytes_uintptr_Hash_uint32_TFlag_abi_TFlag_Align__uint8_FieldAlign__uint8_Kind__abi_Kind_Equal_func_unsafe_Pointer_unsafe_Pointer_bool_GCData_ptr_uint8_Str_abi_NameOff_PtrToThis_abi_TypeOff : TypeId := 164
abbrev T.t_abi_Type : TypeId := 165
abbrev T.t_func_bool : TypeId := 166
abbrev T.t_unsafe_Pointer : TypeId := 167
def hints0 : List (List Sh) := [
  [],
  [.at .val],
  [.at (.int .i64)],
  [.at (.int .i64)],
  [.at .bool],
  [.at (.int .u8)],
  [.at (.int .u8)],
  [.agg [.int .i64, .int .i64, .bool, .int .u8]],
  [.agg [.int .i64, .int .i64, .bool, .int .u8]],
  [.at .str],
  [.at .str],
  [.at .str],
  [.at (.int .u64)],
  [.agg [.str, .int .u64]],
  [.agg [.str, .int .u64]],
  [.at .ptr]]
def hints1 : List (List Sh) := [
  [.at .ptr],
  [.at .ptr],
  [.agg [.ptr]],
  [.agg [.ptr]],
  [.at .val],
  [.at (.int .i32)],
  [.at .sl],
  [.at .sl],
  [.agg [.sl, .sl, .sl]],
  [.agg [.sl, .sl, .sl]],
  [.at .sl],
  [.at .val],
  [.at .val],
  [.at .bool, .at .bool],
  [.at .val],
  [.at .sl]]
def hints2 : List (List Sh) := [
  [.agg [.sl, .sl, .sl]],
  [.agg [.sl, .sl, .sl]],
  [.at .val],
  [.at .val],
  [.at .val],
  [.at .val],
  [.at .val],
  [.at .val],
  [.at .val],
  [.at .val],
  [.at .val],
  [.at .sl, .at .bool],
  [.at .val],
  [.at .val],
  [.at .val],
  [.at .val]]
def hints3 : List (List Sh) := [
  [.at .sl, .at (.int .i64), .at .bool],
  [.at .val],
  [.at .val],
  [.at .val],
  [.at .val],
  [.at .val],
  [.at .val],
  [.at .val],
  [.at .val],
  [.at .val],
  [.at .val],
  [.at .val],
  [.at .val],
  [.at .val],
  [.at .val],
  [.at .val]]
def hints4 : List (List Sh) := [
  [.at .val],
  [.at .val],
  [.at .sl],
  [.at .val],
  [.at .val],
  [.at .val],
  [.at .val],
  [.at .sl],
  [.agg [.int .i64, .int .i64]],
  [.agg [.int .i64, .int .i64]],
  [.at .val],
  [.at .val],
  [.at .val],
  [.at .val],
  [.at .val],
  [.at .val]]
def hints5 : List (List Sh) := [
  [.at .sl],
  [.at .val],
  [.agg [.int .i64, .int .i64, .int .i64, .int .i64]],
  [.agg [.int .i64, .int .i64, .int .i64, .int .i64]],
  [.at .val],
  [.at .val],
  [.at .val],
  [.at .val],
  [.at .val],
  [.at .val],
  [.at .val],
  [.at .sl, .at (.int .i64)],
  [.at .val],
  [.at .val],
  [.at .val],
  [.at .val]]
def hints6 : List (List Sh) := [
  [.at .val],
  [.at .val],
  [.at .sl],
  [.at .val],
  [.at .val],
  [.at .val],
  [.at .val],
  [.at .val],
  [.at .val],
  [.at .val],
  [.at .val],
  [.at .val],
  [.at .val],
  [.at (.int .u64)],
  [.at .val],
  [.at .val]]
def hints7 : List (List Sh) := [
  [.at (.int .i64), .at (.int .i64), .at .bool],
  [.at .val],
  [.at .val],
  [.at .val],
  [.at .val],
  [.at .val],
  [.at .val],
  [.at .val],
  [.agg [.int .i64, .int .i64]],
  [.at .val],
  [.at .val],
  [.at .val],
  [.at (.int .u64), .at (.int .u64)],
  [.at .val],
  [.at .val],
  [.at .val]]
def hints8 : List (List Sh) := [
  [.at (.int .i64)],
  [.at (.int .i64), .at (.int .i64)],
  [.at .val],
  [.at .val],
  [.at (.int .i64), .at .bool],
  [.at .val],
  [.at .val],
  [.at (.int .u32)],
  [.at .val],
  [.at (.int .u64)],
  [.at (.int .u32), .at (.int .u32)],
  [.at .val],
  [.at (.int .u64), .at (.int .u64)],
  [.at .val],
  [.at (.int .u64)],
  [.at .val]]
def hints9 : List (List Sh) := [
  [.at .val],
  [.at .val],
  [.at .ptr],
  [.at .val],
  [.at .ptr],
  [.at (.int .i64), .at (.int .i64)],
  [.at .val],
  [.at .val],
  [.agg [.ptr, .ptr, .ptr, .str]],
  [.agg [.ptr, .ptr, .ptr, .str]],
  [.agg []],
  [.agg []],
  [.agg []],
  [.at .val],
  [.at (.int .u8)],
  [.at (.int .u8)]]
def hints10 : List (List Sh) := [
  [.at .val],
  [.at .ptr],
  [.at (.int .i32)],
  [.at (.int .i32)],
  [.agg [.int .u64, .int .u64, .int .u32, .int .u8, .int .u8, .int .u8, .int .u8, .val, .ptr, .int .i32, .int .i32]],
  [.agg [.int .u64, .int .u64, .int .u32, .int .u8, .int .u8, .int .u8, .int .u8, .val, .ptr, .int .i32, .int .i32]],
  [.at .val],
  [.at .ptr]]
def hint : Hint := hintOf [hints0, hints1, hints2, hints3, hints4, hints5, hints6, hints7, hints8, hints9, hints10]
end Go.Proofs.Ytcilbmkieclelaa
