/- The numbers of functions and types of this seat by their names, and of which kind a type's values are. Printed by a program. -/
import Derived.Test.YtghibjghjjnchaaProg
import Derived.Test.YtghibjghjjnchaaBase
namespace Go.Proofs.Ytghibjghjjnchaa
open Go.GX Go.RowKit

abbrev F.main_main : FuncId := 0
abbrev F.gosem_cut : FuncId := 1
abbrev F.gosem_cut_init : FuncId := 2
abbrev F.l_FnExactPolynomialParameters : FuncId := 3
abbrev F.l_FnExactCountColours : FuncId := 4
abbrev F.l_FnExactIsMatching : FuncId := 5
abbrev F.l_FnExactIsColouring : FuncId := 6
abbrev F.l_FnExactIsDefective : FuncId := 7
abbrev F.l_FnExactIsWeak : FuncId := 8
abbrev F.l_FnExactMatchingSize : FuncId := 9
abbrev F.l_FnExactIsIndependent : FuncId := 10
abbrev F.l_FnExactIsVertexCover : FuncId := 11
abbrev F.l_FnExactIsMaximalMatching : FuncId := 12
abbrev F.l_FnExactIsMaximalIndependent : FuncId := 13
abbrev F.l_FnExactIsDominating : FuncId := 14
abbrev F.s_PolynomialParameters : FuncId := 15
abbrev F.i_PolynomialParameters : FuncId := 16
abbrev F.s_CountColours : FuncId := 17
abbrev F.l_toIntS : FuncId := 18
abbrev F.i_CountColours : FuncId := 19
abbrev F.l_eqIntS : FuncId := 20
abbrev F.l_szNetwork : FuncId := 21
abbrev F.s_IsMatching : FuncId := 22
abbrev F.l_toNetwork : FuncId := 23
abbrev F.i_IsMatching : FuncId := 24
abbrev F.l_eqNetwork : FuncId := 25
abbrev F.s_IsColouring : FuncId := 26
abbrev F.i_IsColouring : FuncId := 27
abbrev F.s_IsDefective : FuncId := 28
abbrev F.i_IsDefective : FuncId := 29
abbrev F.s_IsWeak : FuncId := 30
abbrev F.i_IsWeak : FuncId := 31
abbrev F.s_MatchingSize : FuncId := 32
abbrev F.i_MatchingSize : FuncId := 33
abbrev F.s_IsIndependent : FuncId := 34
abbrev F.i_IsIndependent : FuncId := 35
abbrev F.s_IsVertexCover : FuncId := 36
abbrev F.i_IsVertexCover : FuncId := 37
abbrev F.s_IsMaximalMatching : FuncId := 38
abbrev F.i_IsMaximalMatching : FuncId := 39
abbrev F.s_IsMaximalIndependent : FuncId := 40
abbrev F.i_IsMaximalIndependent : FuncId := 41
abbrev F.s_IsDominating : FuncId := 42
abbrev F.i_IsDominating : FuncId := 43
abbrev F.s_clPalette : FuncId := 44
abbrev F.s_clParameters : FuncId := 45
abbrev F.i_within : FuncId := 46
abbrev F.i_polynomialParameters : FuncId := 47
abbrev F.s_l1Has : FuncId := 48
abbrev F.slices_Compact_sl_int_int : FuncId := 49
abbrev F.slices_Sorted_int : FuncId := 50
abbrev F.slices_Values_sl_int_int : FuncId := 51
abbrev F.l_szEndSS : FuncId := 52
abbrev F.l_szIntS : FuncId := 53
abbrev F.s_neGood : FuncId := 54
abbrev F.s_mtIs : FuncId := 55
abbrev F.l_toEndSS : FuncId := 56
abbrev F.i_IsNetwork : FuncId := 57
abbrev F.i_isMatching : FuncId := 58
abbrev F.l_eqEndSS : FuncId := 59
abbrev F.s_clProper : FuncId := 60
abbrev F.i_isColouring : FuncId := 61
abbrev F.s_ruColours : FuncId := 62
abbrev F.s_ruSame : FuncId := 63
abbrev F.i_areColours : FuncId := 64
abbrev F.i_portsWith : FuncId := 65
abbrev F.s_mtAsked : FuncId := 66
abbrev F.s_mtSize : FuncId := 67
abbrev F.i_matchingOk : FuncId := 68
abbrev F.i_oneIf : FuncId := 69
abbrev F.s_mtSet : FuncId := 70
abbrev F.s_mtIndependent : FuncId := 71
abbrev F.i_isNodeSet : FuncId := 72
abbrev F.i_isIndependent : FuncId := 73
abbrev F.s_mtCovers : FuncId := 74
abbrev F.i_isCover : FuncId := 75
abbrev F.s_mtMaximal : FuncId := 76
abbrev F.slices_ContainsFunc_sl_i_edge_i_edge : FuncId := 77
abbrev F.i_Network_edges : FuncId := 78
abbrev F.i_IsMaximalMatching_1 : FuncId := 79
abbrev F.s_mtOwn : FuncId := 80
abbrev F.s_mtApart : FuncId := 81
abbrev F.slices_Contains_sl_int_int : FuncId := 82
abbrev F.i_areJoined : FuncId := 83
abbrev F.i_hasNear : FuncId := 84
abbrev F.s_ruSet : FuncId := 85
abbrev F.s_ruCovers : FuncId := 86
abbrev F.i_isDominating : FuncId := 87
abbrev F.s_l1In : FuncId := 88
abbrev F.s_nuNext : FuncId := 89
abbrev F.s_clPower : FuncId := 90
abbrev F.i_isPrime : FuncId := 91
abbrev F.slices_Collect_int : FuncId := 92
abbrev F.slices_Sort_sl_int_int : FuncId := 93
abbrev F.slices_Values_sl_int_int_1 : FuncId := 94
abbrev F.l_szEndS : FuncId := 95
abbrev F.s_neIds : FuncId := 96
abbrev F.s_l1All : FuncId := 97
abbrev F.l_toEndS : FuncId := 98
abbrev F.i_idsOk : FuncId := 99
abbrev F.i_inputsOk : FuncId := 100
abbrev F.i_Network_hasPort : FuncId := 101
abbrev F.l_eqEndS : FuncId := 102
abbrev F.s_imEdge : FuncId := 103
abbrev F.i_allWithin : FuncId := 104
abbrev F.i_isColouring_1 : FuncId := 105
abbrev F.s_neNear : FuncId := 106
abbrev F.i_near : FuncId := 107
abbrev F.s_l1Rising : FuncId := 108
abbrev F.i_increasing : FuncId := 109
abbrev F.i_isIndependent_1 : FuncId := 110
abbrev F.s_neEdges : FuncId := 111
abbrev F.i_isCover_1 : FuncId := 112
abbrev F.slices_IndexFunc_sl_i_edge_i_edge : FuncId := 113
abbrev F.slices_Index_sl_int_int : FuncId := 114
abbrev F.slices_ContainsFunc_sl_i_End_i_End : FuncId := 115
abbrev F.i_areJoined_1 : FuncId := 116
abbrev F.i_hasNear_1 : FuncId := 117
abbrev F.s_ruFar : FuncId := 118
abbrev F.slices_ContainsFunc_sl_int_int : FuncId := 119
abbrev F.i_numbersTo : FuncId := 120
abbrev F.i_isDominating_1 : FuncId := 121
abbrev F.s_nuPrime : FuncId := 122
abbrev F.slices_AppendSeq_sl_int_int : FuncId := 123
abbrev F.slices_pdqsortOrdered_int : FuncId := 124
abbrev F.math_bits_Len : FuncId := 125
abbrev F.l_toEnd : FuncId := 126
abbrev F.slices_Clone_sl_int_int : FuncId := 127
abbrev F.i_Network_hasNode : FuncId := 128
abbrev F.l_eqEnd : FuncId := 129
abbrev F.i_allWithin_1 : FuncId := 130
abbrev F.s_neFirst : FuncId := 131
abbrev F.slices_IndexFunc_sl_i_End_i_End : FuncId := 132
abbrev F.s_meFrom : FuncId := 133
abbrev F.slices_IndexFunc_sl_int_int : FuncId := 134
abbrev F.slices_insertionSortOrdered_int : FuncId := 135
abbrev F.slices_heapSortOrdered_int : FuncId := 136
abbrev F.slices_breakPatternsOrdered_int : FuncId := 137
abbrev F.slices_choosePivotOrdered_int : FuncId := 138
abbrev F.slices_reverseRangeOrdered_int : FuncId := 139
abbrev F.slices_partialInsertionSortOrdered_int : FuncId := 140
abbrev F.cmp_Less_int : FuncId := 141
abbrev F.slices_partitionEqualOrdered_int : FuncId := 142
abbrev F.slices_partitionOrdered_int : FuncId := 143
abbrev F.math_bits_Len32 : FuncId := 144
abbrev F.math_bits_Len64 : FuncId := 145
abbrev F.slices_siftDownOrdered_int : FuncId := 146
abbrev F.slices_nextPowerOfTwo : FuncId := 147
abbrev F.ptr_slices_xorshift_Next : FuncId := 148
abbrev F.slices_medianAdjacentOrdered_int : FuncId := 149
abbrev F.slices_medianOrdered_int : FuncId := 150
abbrev F.cmp_isNaN_int : FuncId := 151
abbrev F.slices_order2Ordered_int : FuncId := 152
abbrev F.runtime_boundsError_Error : FuncId := 153
abbrev F.runtime_boundsError_RuntimeError : FuncId := 154
abbrev F.runtime_errorString_Error : FuncId := 155
abbrev F.runtime_errorString_RuntimeError : FuncId := 156
abbrev F.runtime_plainError_Error : FuncId := 157
abbrev F.runtime_plainError_RuntimeError : FuncId := 158
abbrev F.runtime_errorAddressString_Error : FuncId := 159
abbrev F.runtime_errorAddressString_RuntimeError : FuncId := 160
abbrev F.ptr_runtime_TypeAssertionError_Error : FuncId := 161
abbrev F.ptr_runtime_TypeAssertionError_RuntimeError : FuncId := 162
abbrev F.ptr_runtime_PanicNilError_Error : FuncId := 163
abbrev F.ptr_runtime_PanicNilError_RuntimeError : FuncId := 164
abbrev F.ptr_internal_abi_Type_Align : FuncId := 165
abbrev F.internal_runtime_maps_unhashableTypeError_Error : FuncId := 166
abbrev F.internal_runtime_maps_unhashableTypeError_RuntimeError : FuncId := 167
abbrev F.i_Network_isSimple : FuncId := 168
abbrev F.i_edge_isLoop : FuncId := 169
abbrev F.internal_abi_Kind_String : FuncId := 170
abbrev T.t_unit : TypeId := 0
abbrev T.t_func : TypeId := 1
abbrev T.t_int64 : TypeId := 2
abbrev T.t_int : TypeId := 3
abbrev T.t_bool : TypeId := 4
abbrev T.t_uint8 : TypeId := 5
abbrev T.t_abi_BoundsErrorCode : TypeId := 6
abbrev T.t_struct_x_int64_y_int_signed_bool_code_abi_BoundsErrorCode : TypeId := 7
abbrev T.t_runtime_boundsError : TypeId := 8
abbrev T.t_string : TypeId := 9
abbrev T.t_runtime_errorString : TypeId := 10
abbrev T.t_runtime_plainError : TypeId := 11
abbrev T.t_uintptr : TypeId := 12
abbrev T.t_struct_msg_string_addr_uintptr : TypeId := 13
abbrev T.t_runtime_errorAddressString : TypeId := 14
abbrev T.t_ptr_runtime_TypeAssertionError : TypeId := 15
abbrev T.t_ptr_runtime_PanicNilError : TypeId := 16
abbrev T.t_ptr_abi_Type : TypeId := 17
abbrev T.t_struct_typ_ptr_abi_Type : TypeId := 18
abbrev T.t_maps_unhashableTypeError : TypeId := 19
abbrev T.t_interface : TypeId := 20
abbrev T.t_int32 : TypeId := 21
abbrev T.t_int_int_bool : TypeId := 22
abbrev T.t_func_int_int_int_int_bool : TypeId := 23
abbrev T.t_func_int_int_bool : TypeId := 24
abbrev T.t_sl_int : TypeId := 25
abbrev T.t_int_bool : TypeId := 26
abbrev T.t_func_sl_int_int_bool : TypeId := 27
abbrev T.t_func_sl_int_sl_int : TypeId := 28
abbrev T.t_func_sl_int_sl_int_bool : TypeId := 29
abbrev T.t_func_sl_int_bool : TypeId := 30
abbrev T.t_sl_sl_l_End : TypeId := 31
abbrev T.t_struct_Ends_sl_sl_l_End_Ids_sl_int_Inputs_sl_int : TypeId := 32
abbrev T.t_l_Network : TypeId := 33
abbrev T.t_func_l_Network_int_int : TypeId := 34
abbrev T.t_bool_bool : TypeId := 35
abbrev T.t_func_i_Network_sl_int_bool_bool : TypeId := 36
abbrev T.t_sl_sl_i_End : TypeId := 37
abbrev T.t_struct_Ends_sl_sl_i_End_Ids_sl_int_Inputs_sl_int : TypeId := 38
abbrev T.t_i_Network : TypeId := 39
abbrev T.t_func_l_Network_i_Network : TypeId := 40
abbrev T.t_func_i_Network_i_Network_bool : TypeId := 41
abbrev T.t_func_l_Network_sl_int_bool : TypeId := 42
abbrev T.t_func_i_Network_sl_int_int_bool_bool : TypeId := 43
abbrev T.t_func_l_Network_sl_int_int_bool : TypeId := 44
abbrev T.t_func_i_Network_sl_int_int_bool : TypeId := 45
abbrev T.t_int_int : TypeId := 46
abbrev T.t_func_int_int_int_int : TypeId := 47
abbrev T.t_func_int_int_int_bool : TypeId := 48
abbrev T.t_func_sl_int_int_bool_1 : TypeId := 49
abbrev T.t_func_iter_Seq_int_sl_int : TypeId := 50
abbrev T.t_func_func_int_bool : TypeId := 51
abbrev T.t_iter_Seq_int : TypeId := 52
abbrev T.t_func_sl_int_iter_Seq_int : TypeId := 53
abbrev T.t_func_sl_sl_l_End_int_int : TypeId := 54
abbrev T.t_func_sl_int_int_int : TypeId := 55
abbrev T.t_func_i_Network_bool : TypeId := 56
abbrev T.t_func_i_Network_sl_int_bool : TypeId := 57
abbrev T.t_func_sl_sl_l_End_sl_sl_i_End : TypeId := 58
abbrev T.t_func_sl_sl_i_End_sl_sl_i_End_bool : TypeId := 59
abbrev T.t_func_i_Network_sl_int_int_int_int : TypeId := 60
abbrev T.t_func_i_Network_int_sl_int_int_int : TypeId := 61
abbrev T.t_sl_i_End : TypeId := 62
abbrev T.t_func_sl_int_int : TypeId := 63
abbrev T.t_func_bool_int : TypeId := 64
abbrev T.t_func_sl_i_edge_func_i_edge_bool_bool : TypeId := 65
abbrev T.t_sl_i_edge : TypeId := 66
abbrev T.t_struct_v_int_i_int_w_int_j_int : TypeId := 67
abbrev T.t_i_edge : TypeId := 68
abbrev T.t_func_sl_i_edge : TypeId := 69
abbrev T.t_func_i_edge_bool : TypeId := 70
abbrev T.t_func_i_Network_int_bool : TypeId := 71
abbrev T.t_func_i_Network_int_sl_int_bool : TypeId := 72
abbrev T.t_func_i_Network_int_int_bool : TypeId := 73
abbrev T.t_func_i_Network_sl_int_int_bool_1 : TypeId := 74
abbrev T.t_func_int_int : TypeId := 75
abbrev T.t_func_int_bool : TypeId := 76
abbrev T.t_func_sl_int : TypeId := 77
abbrev T.t_func_sl_l_End_int_int : TypeId := 78
abbrev T.t_sl_l_End : TypeId := 79
abbrev T.t_func_sl_int_int_int_bool : TypeId := 80
abbrev T.t_struct_Node_int_Port_int : TypeId := 81
abbrev T.t_i_End : TypeId := 82
abbrev T.t_func_sl_l_End_sl_i_End : TypeId := 83
abbrev T.t_func_sl_i_End_sl_i_End_bool : TypeId := 84
abbrev T.t_func_i_Network_sl_int_int_int_bool : TypeId := 85
abbrev T.t_func_i_Network_int_sl_int : TypeId := 86
abbrev T.t_func_i_Network_int_sl_int_sl_int : TypeId := 87
abbrev T.t_sl_sl_int : TypeId := 88
abbrev T.t_func_i_Network_sl_sl_int : TypeId := 89
abbrev T.t_func_sl_i_edge_func_i_edge_bool_int : TypeId := 90
abbrev T.t_func_sl_i_End_func_i_End_bool_bool : TypeId := 91
abbrev T.t_func_i_End_bool : TypeId := 92
abbrev T.t_func_i_Network_sl_int_int_int : TypeId := 93
abbrev T.t_func_sl_int_func_int_bool_bool : TypeId := 94
abbrev T.t_func_int_sl_int : TypeId := 95
abbrev T.t_func_sl_int_iter_Seq_int_sl_int : TypeId := 96
abbrev T.t_func_sl_int_int_int_int : TypeId := 97
abbrev T.t_func_uint_int : TypeId := 98
abbrev T.t_uint : TypeId := 99
abbrev T.t_func_l_End_i_End : TypeId := 100
abbrev T.t_l_End : TypeId := 101
abbrev T.t_func_i_End_i_End_bool : TypeId := 102
abbrev T.t_func_sl_i_End_func_i_End_bool_int : TypeId := 103
abbrev T.t_func_sl_int_func_int_bool_int : TypeId := 104
abbrev T.t_func_sl_int_int_int_1 : TypeId := 105
abbrev T.t_slices_sortedHint : TypeId := 106
abbrev T.t_int_slices_sortedHint : TypeId := 107
abbrev T.t_func_sl_int_int_int_int_slices_sortedHint : TypeId := 108
abbrev T.t_func_sl_int_int_int_int_int : TypeId := 109
abbrev T.t_func_sl_int_int_int_int_int_bool : TypeId := 110
abbrev T.t_func_uint32_int : TypeId := 111
abbrev T.t_uint32 : TypeId := 112
abbrev T.t_func_uint64_int : TypeId := 113
abbrev T.t_uint64 : TypeId := 114
abbrev T.t_slices_xorshift : TypeId := 115
abbrev T.t_func_int_uint : TypeId := 116
abbrev T.t_func_uint64 : TypeId := 117
abbrev T.t_func_sl_int_int_ptr_int_int : TypeId := 118
abbrev T.t_ptr_int : TypeId := 119
abbrev T.t_func_sl_int_int_int_int_ptr_int_int : TypeId := 120
abbrev T.t_ptr_slices_xorshift : TypeId := 121
abbrev T.t_func_sl_int_int_int_ptr_int_int_int : TypeId := 122
abbrev T.t_func_string : TypeId := 123
abbrev T.t_struct__interface_ptr_abi_Type_concrete_ptr_abi_Type_asserted_ptr_abi_Type_missingMethod_string : TypeId := 124
abbrev T.t_runtime_TypeAssertionError : TypeId := 125
abbrev T.t_0_ptr_runtime_PanicNilError : TypeId := 126
abbrev T.t_struct___0_ptr_runtime_PanicNilError : TypeId := 127
abbrev T.t_runtime_PanicNilError : TypeId := 128
abbrev T.t_func_int : TypeId := 129
abbrev T.t_abi_TFlag : TypeId := 130
abbrev T.t_abi_Kind : TypeId := 131
abbrev T.t_func_unsafe_Pointer_unsafe_Pointer_bool : TypeId := 132
abbrev T.t_ptr_uint8 : TypeId := 133
abbrev T.t_abi_NameOff : TypeId := 134
abbrev T.t_abi_TypeOff : TypeId := 135
abbrev T.t_struct_Size__uintptr_PtrBytes_uintptr_Hash_uint32_TFlag_abi_TFlag_Align__uint8_FieldAlign__uint8_Kind__abi_Kind_Equal_func_unsafe_Pointer_unsafe_Pointer_bool_GCData_ptr_uint8_Str_abi_NameOff_PtrToThis_abi_TypeOff : TypeId := 136
abbrev T.t_abi_Type : TypeId := 137
abbrev T.t_func_bool : TypeId := 138
abbrev T.t_unsafe_Pointer : TypeId := 139
def hints0 : List (List Sh) := [
  [],
  [.at .val],
  [.at (.int .i64)],
  [.at (.int .i64)],
  [.at .bool],
  [.at (.int .u8)],
  [.at (.int .u8)],
  [.agg [.int .i64, .int .i64, .bool, .int .u8]],
  [.agg [.int .i64, .int .i64, .bool, .int .u8]],
  [.at .str],
  [.at .str],
  [.at .str],
  [.at (.int .u64)],
  [.agg [.str, .int .u64]],
  [.agg [.str, .int .u64]],
  [.at .ptr]]
def hints1 : List (List Sh) := [
  [.at .ptr],
  [.at .ptr],
  [.agg [.ptr]],
  [.agg [.ptr]],
  [.at .val],
  [.at (.int .i32)],
  [.at (.int .i64), .at (.int .i64), .at .bool],
  [.at .val],
  [.at .val],
  [.at .sl],
  [.at (.int .i64), .at .bool],
  [.at .val],
  [.at .val],
  [.at .val],
  [.at .val],
  [.at .sl]]
def hints2 : List (List Sh) := [
  [.agg [.sl, .sl, .sl]],
  [.agg [.sl, .sl, .sl]],
  [.at .val],
  [.at .bool, .at .bool],
  [.at .val],
  [.at .sl],
  [.agg [.sl, .sl, .sl]],
  [.agg [.sl, .sl, .sl]],
  [.at .val],
  [.at .val],
  [.at .val],
  [.at .val],
  [.at .val],
  [.at .val],
  [.at (.int .i64), .at (.int .i64)],
  [.at .val]]
def hints3 : List (List Sh) := [
  [.at .val],
  [.at .val],
  [.at .val],
  [.at .val],
  [.at .val],
  [.at .val],
  [.at .val],
  [.at .val],
  [.at .val],
  [.at .val],
  [.at .val],
  [.at .val],
  [.at .val],
  [.at .val],
  [.at .sl],
  [.at .val]]
def hints4 : List (List Sh) := [
  [.at .val],
  [.at .val],
  [.at .sl],
  [.agg [.int .i64, .int .i64, .int .i64, .int .i64]],
  [.agg [.int .i64, .int .i64, .int .i64, .int .i64]],
  [.at .val],
  [.at .val],
  [.at .val],
  [.at .val],
  [.at .val],
  [.at .val],
  [.at .val],
  [.at .val],
  [.at .val],
  [.at .val],
  [.at .sl]]
def hints5 : List (List Sh) := [
  [.at .val],
  [.agg [.int .i64, .int .i64]],
  [.agg [.int .i64, .int .i64]],
  [.at .val],
  [.at .val],
  [.at .val],
  [.at .val],
  [.at .val],
  [.at .sl],
  [.at .val],
  [.at .val],
  [.at .val],
  [.at .val],
  [.at .val],
  [.at .val],
  [.at .val]]
def hints6 : List (List Sh) := [
  [.at .val],
  [.at .val],
  [.at .val],
  [.at (.int .u64)],
  [.at .val],
  [.agg [.int .i64, .int .i64]],
  [.at .val],
  [.at .val],
  [.at .val],
  [.at .val],
  [.at (.int .i64)],
  [.at (.int .i64), .at (.int .i64)],
  [.at .val],
  [.at .val],
  [.at .val],
  [.at .val]]
def hints7 : List (List Sh) := [
  [.at (.int .u32)],
  [.at .val],
  [.at (.int .u64)],
  [.at (.int .u64)],
  [.at .val],
  [.at .val],
  [.at .val],
  [.at .ptr],
  [.at .val],
  [.at .ptr],
  [.at .val],
  [.at .val],
  [.agg [.ptr, .ptr, .ptr, .str]],
  [.agg [.ptr, .ptr, .ptr, .str]],
  [.agg []],
  [.agg []]]
def hints8 : List (List Sh) := [
  [.agg []],
  [.at .val],
  [.at (.int .u8)],
  [.at (.int .u8)],
  [.at .val],
  [.at .ptr],
  [.at (.int .i32)],
  [.at (.int .i32)],
  [.agg [.int .u64, .int .u64, .int .u32, .int .u8, .int .u8, .int .u8, .int .u8, .val, .ptr, .int .i32, .int .i32]],
  [.agg [.int .u64, .int .u64, .int .u32, .int .u8, .int .u8, .int .u8, .int .u8, .val, .ptr, .int .i32, .int .i32]],
  [.at .val],
  [.at .ptr]]
def hint : Hint := hintOf [hints0, hints1, hints2, hints3, hints4, hints5, hints6, hints7, hints8]
end Go.Proofs.Ytghibjghjjnchaa
