/- The numbers of functions and types of this seat by their names, and of which kind a type's values are. Printed by a program. -/
import Derived.Test.YtjfodknpphhajaaProg
import Derived.Test.YtjfodknpphhajaaBase
namespace Go.Proofs.Ytjfodknpphhajaa
open Go.GX Go.RowKit

abbrev F.main_main : FuncId := 0
abbrev F.gosem_cut : FuncId := 1
abbrev F.gosem_cut_init : FuncId := 2
abbrev F.l_FnExactFirstFaultOfLabeling : FuncId := 3
abbrev F.l_FnExactIsSolution : FuncId := 4
abbrev F.l_FnExactMergeLabels : FuncId := 5
abbrev F.l_szProblem : FuncId := 6
abbrev F.l_szNetwork : FuncId := 7
abbrev F.l_szIntSS : FuncId := 8
abbrev F.s_FirstFaultOfLabeling : FuncId := 9
abbrev F.l_toProblem : FuncId := 10
abbrev F.l_toNetwork : FuncId := 11
abbrev F.l_toIntSS : FuncId := 12
abbrev F.i_FirstFaultOfLabeling : FuncId := 13
abbrev F.l_eqProblem : FuncId := 14
abbrev F.l_eqNetwork : FuncId := 15
abbrev F.l_eqIntSS : FuncId := 16
abbrev F.s_IsSolution : FuncId := 17
abbrev F.i_IsSolution : FuncId := 18
abbrev F.s_MergeLabels : FuncId := 19
abbrev F.i_MergeLabels : FuncId := 20
abbrev F.l_markProblem : FuncId := 21
abbrev F.l_heldProblem : FuncId := 22
abbrev F.l_szEndSS : FuncId := 23
abbrev F.l_szIntS : FuncId := 24
abbrev F.s_prAsked : FuncId := 25
abbrev F.s_prIs : FuncId := 26
abbrev F.s_prFault : FuncId := 27
abbrev F.l_toEndSS : FuncId := 28
abbrev F.l_toIntS : FuncId := 29
abbrev F.i_IsProblem : FuncId := 30
abbrev F.i_IsNetwork : FuncId := 31
abbrev F.i_isLabeling : FuncId := 32
abbrev F.i_labelFault : FuncId := 33
abbrev F.l_eqEndSS : FuncId := 34
abbrev F.l_eqIntS : FuncId := 35
abbrev F.s_prGood : FuncId := 36
abbrev F.s_l1All : FuncId := 37
abbrev F.s_reMerge : FuncId := 38
abbrev F.s_prMap : FuncId := 39
abbrev F.i_Problem_hasLabels : FuncId := 40
abbrev F.i_numbersTo : FuncId := 41
abbrev F.i_renamed : FuncId := 42
abbrev F.l_markIntSS : FuncId := 43
abbrev F.l_heldIntSS : FuncId := 44
abbrev F.l_szEndS : FuncId := 45
abbrev F.s_neGood : FuncId := 46
abbrev F.s_prShape : FuncId := 47
abbrev F.s_prNode : FuncId := 48
abbrev F.s_neFirst : FuncId := 49
abbrev F.s_prEdge : FuncId := 50
abbrev F.l_toEndS : FuncId := 51
abbrev F.i_within : FuncId := 52
abbrev F.i_configurationsOk : FuncId := 53
abbrev F.i_idsOk : FuncId := 54
abbrev F.i_inputsOk : FuncId := 55
abbrev F.i_Network_hasPort : FuncId := 56
abbrev F.i_portsOk : FuncId := 57
abbrev F.slices_ContainsFunc_sl_sl_int_sl_int : FuncId := 58
abbrev F.i_isLabeling_1 : FuncId := 59
abbrev F.i_Problem_node : FuncId := 60
abbrev F.i_Problem_edge : FuncId := 61
abbrev F.l_eqEndS : FuncId := 62
abbrev F.s_l1In : FuncId := 63
abbrev F.s_prLists : FuncId := 64
abbrev F.s_prSorted : FuncId := 65
abbrev F.s_coThrough : FuncId := 66
abbrev F.s_prInsert : FuncId := 67
abbrev F.i_allWithin : FuncId := 68
abbrev F.slices_Contains_sl_int_int : FuncId := 69
abbrev F.slices_Sort_sl_int_int : FuncId := 70
abbrev F.i_sortedLists : FuncId := 71
abbrev F.l_markIntS : FuncId := 72
abbrev F.l_heldIntS : FuncId := 73
abbrev F.s_neIds : FuncId := 74
abbrev F.s_prHas : FuncId := 75
abbrev F.s_l1Least : FuncId := 76
abbrev F.s_l1Most : FuncId := 77
abbrev F.l_toEnd : FuncId := 78
abbrev F.slices_IsSorted_sl_int_int : FuncId := 79
abbrev F.slices_Compare_sl_int_int : FuncId := 80
abbrev F.slices_Clone_sl_int_int : FuncId := 81
abbrev F.i_increasing : FuncId := 82
abbrev F.i_Network_hasNode : FuncId := 83
abbrev F.slices_IndexFunc_sl_sl_int_sl_int : FuncId := 84
abbrev F.i_hasConfiguration : FuncId := 85
abbrev F.l_eqEnd : FuncId := 86
abbrev F.s_prOrder : FuncId := 87
abbrev F.s_l1Own : FuncId := 88
abbrev F.s_l1Same : FuncId := 89
abbrev F.slices_ContainsFunc_sl_int_int : FuncId := 90
abbrev F.i_allWithin_1 : FuncId := 91
abbrev F.slices_Index_sl_int_int : FuncId := 92
abbrev F.slices_pdqsortOrdered_int : FuncId := 93
abbrev F.math_bits_Len : FuncId := 94
abbrev F.slices_SortFunc_sl_sl_int_sl_int : FuncId := 95
abbrev F.slices_CompactFunc_sl_sl_int_sl_int : FuncId := 96
abbrev F.slices_Equal_sl_int_int : FuncId := 97
abbrev F.s_l1Has : FuncId := 98
abbrev F.cmp_Less_int : FuncId := 99
abbrev F.cmp_Compare_int : FuncId := 100
abbrev F.slices_BinarySearchFunc_sl_sl_int_sl_int_sl_int : FuncId := 101
abbrev F.slices_Sorted_int : FuncId := 102
abbrev F.slices_Values_sl_int_int : FuncId := 103
abbrev F.s_l1Sign : FuncId := 104
abbrev F.slices_IndexFunc_sl_int_int : FuncId := 105
abbrev F.slices_insertionSortOrdered_int : FuncId := 106
abbrev F.slices_heapSortOrdered_int : FuncId := 107
abbrev F.slices_breakPatternsOrdered_int : FuncId := 108
abbrev F.slices_choosePivotOrdered_int : FuncId := 109
abbrev F.slices_reverseRangeOrdered_int : FuncId := 110
abbrev F.slices_partialInsertionSortOrdered_int : FuncId := 111
abbrev F.slices_partitionEqualOrdered_int : FuncId := 112
abbrev F.slices_partitionOrdered_int : FuncId := 113
abbrev F.math_bits_Len32 : FuncId := 114
abbrev F.math_bits_Len64 : FuncId := 115
abbrev F.slices_pdqsortCmpFunc_sl_int : FuncId := 116
abbrev F.cmp_isNaN_int : FuncId := 117
abbrev F.slices_Collect_int : FuncId := 118
abbrev F.slices_Values_sl_int_int_1 : FuncId := 119
abbrev F.slices_siftDownOrdered_int : FuncId := 120
abbrev F.slices_nextPowerOfTwo : FuncId := 121
abbrev F.ptr_slices_xorshift_Next : FuncId := 122
abbrev F.slices_medianAdjacentOrdered_int : FuncId := 123
abbrev F.slices_medianOrdered_int : FuncId := 124
abbrev F.slices_insertionSortCmpFunc_sl_int : FuncId := 125
abbrev F.slices_heapSortCmpFunc_sl_int : FuncId := 126
abbrev F.slices_breakPatternsCmpFunc_sl_int : FuncId := 127
abbrev F.slices_choosePivotCmpFunc_sl_int : FuncId := 128
abbrev F.slices_reverseRangeCmpFunc_sl_int : FuncId := 129
abbrev F.slices_partialInsertionSortCmpFunc_sl_int : FuncId := 130
abbrev F.slices_partitionEqualCmpFunc_sl_int : FuncId := 131
abbrev F.slices_partitionCmpFunc_sl_int : FuncId := 132
abbrev F.slices_AppendSeq_sl_int_int : FuncId := 133
abbrev F.slices_order2Ordered_int : FuncId := 134
abbrev F.slices_siftDownCmpFunc_sl_int : FuncId := 135
abbrev F.slices_medianAdjacentCmpFunc_sl_int : FuncId := 136
abbrev F.slices_medianCmpFunc_sl_int : FuncId := 137
abbrev F.slices_order2CmpFunc_sl_int : FuncId := 138
abbrev F.runtime_boundsError_Error : FuncId := 139
abbrev F.runtime_boundsError_RuntimeError : FuncId := 140
abbrev F.runtime_errorString_Error : FuncId := 141
abbrev F.runtime_errorString_RuntimeError : FuncId := 142
abbrev F.runtime_plainError_Error : FuncId := 143
abbrev F.runtime_plainError_RuntimeError : FuncId := 144
abbrev F.runtime_errorAddressString_Error : FuncId := 145
abbrev F.runtime_errorAddressString_RuntimeError : FuncId := 146
abbrev F.ptr_runtime_TypeAssertionError_Error : FuncId := 147
abbrev F.ptr_runtime_TypeAssertionError_RuntimeError : FuncId := 148
abbrev F.ptr_runtime_PanicNilError_Error : FuncId := 149
abbrev F.ptr_runtime_PanicNilError_RuntimeError : FuncId := 150
abbrev F.ptr_internal_abi_Type_Align : FuncId := 151
abbrev F.internal_runtime_maps_unhashableTypeError_Error : FuncId := 152
abbrev F.internal_runtime_maps_unhashableTypeError_RuntimeError : FuncId := 153
abbrev F.i_Network_isSimple : FuncId := 154
abbrev F.internal_abi_Kind_String : FuncId := 155
abbrev T.t_unit : TypeId := 0
abbrev T.t_func : TypeId := 1
abbrev T.t_int64 : TypeId := 2
abbrev T.t_int : TypeId := 3
abbrev T.t_bool : TypeId := 4
abbrev T.t_uint8 : TypeId := 5
abbrev T.t_abi_BoundsErrorCode : TypeId := 6
abbrev T.t_struct_x_int64_y_int_signed_bool_code_abi_BoundsErrorCode : TypeId := 7
abbrev T.t_runtime_boundsError : TypeId := 8
abbrev T.t_string : TypeId := 9
abbrev T.t_runtime_errorString : TypeId := 10
abbrev T.t_runtime_plainError : TypeId := 11
abbrev T.t_uintptr : TypeId := 12
abbrev T.t_struct_msg_string_addr_uintptr : TypeId := 13
abbrev T.t_runtime_errorAddressString : TypeId := 14
abbrev T.t_ptr_runtime_TypeAssertionError : TypeId := 15
abbrev T.t_ptr_runtime_PanicNilError : TypeId := 16
abbrev T.t_ptr_abi_Type : TypeId := 17
abbrev T.t_struct_typ_ptr_abi_Type : TypeId := 18
abbrev T.t_maps_unhashableTypeError : TypeId := 19
abbrev T.t_interface : TypeId := 20
abbrev T.t_int32 : TypeId := 21
abbrev T.t_sl_sl_int : TypeId := 22
abbrev T.t_struct_Labels_int_Degree_int_Nodes_sl_sl_int_Edges_sl_sl_int : TypeId := 23
abbrev T.t_l_Problem : TypeId := 24
abbrev T.t_sl_sl_l_End : TypeId := 25
abbrev T.t_sl_int : TypeId := 26
abbrev T.t_struct_Ends_sl_sl_l_End_Ids_sl_int_Inputs_sl_int : TypeId := 27
abbrev T.t_l_Network : TypeId := 28
abbrev T.t_func_l_Problem_int_int : TypeId := 29
abbrev T.t_func_l_Network_int_int : TypeId := 30
abbrev T.t_func_sl_sl_int_int_int : TypeId := 31
abbrev T.t_int_int_bool : TypeId := 32
abbrev T.t_func_i_Problem_i_Network_sl_sl_int_int_int_bool : TypeId := 33
abbrev T.t_i_Problem : TypeId := 34
abbrev T.t_func_l_Problem_i_Problem : TypeId := 35
abbrev T.t_sl_sl_i_End : TypeId := 36
abbrev T.t_struct_Ends_sl_sl_i_End_Ids_sl_int_Inputs_sl_int : TypeId := 37
abbrev T.t_i_Network : TypeId := 38
abbrev T.t_func_l_Network_i_Network : TypeId := 39
abbrev T.t_func_sl_sl_int_sl_sl_int : TypeId := 40
abbrev T.t_func_i_Problem_i_Problem_bool : TypeId := 41
abbrev T.t_func_i_Network_i_Network_bool : TypeId := 42
abbrev T.t_func_sl_sl_int_sl_sl_int_bool : TypeId := 43
abbrev T.t_func_l_Problem_l_Network_sl_sl_int_bool : TypeId := 44
abbrev T.t_bool_bool : TypeId := 45
abbrev T.t_func_i_Problem_i_Network_sl_sl_int_bool_bool : TypeId := 46
abbrev T.t_i_Problem_bool : TypeId := 47
abbrev T.t_func_i_Problem_int_int_i_Problem_bool : TypeId := 48
abbrev T.t_func_i_Problem_int_int : TypeId := 49
abbrev T.t_func_l_Problem_int_int_bool : TypeId := 50
abbrev T.t_func_sl_sl_l_End_int_int : TypeId := 51
abbrev T.t_func_sl_int_int_int : TypeId := 52
abbrev T.t_func_i_Problem_i_Network_sl_sl_int_bool : TypeId := 53
abbrev T.t_int_int : TypeId := 54
abbrev T.t_func_i_Problem_i_Network_sl_sl_int_int_int : TypeId := 55
abbrev T.t_func_sl_sl_l_End_sl_sl_i_End : TypeId := 56
abbrev T.t_func_sl_int_sl_int : TypeId := 57
abbrev T.t_func_i_Problem_bool : TypeId := 58
abbrev T.t_func_i_Network_bool : TypeId := 59
abbrev T.t_func_sl_sl_i_End_sl_sl_i_End_bool : TypeId := 60
abbrev T.t_func_sl_int_sl_int_bool : TypeId := 61
abbrev T.t_func_sl_int_int_int_bool : TypeId := 62
abbrev T.t_func_int_int_int_sl_int : TypeId := 63
abbrev T.t_func_sl_sl_int_sl_int_sl_sl_int : TypeId := 64
abbrev T.t_func_int_bool : TypeId := 65
abbrev T.t_func_int_sl_int : TypeId := 66
abbrev T.t_func_sl_l_End_int_int : TypeId := 67
abbrev T.t_sl_l_End : TypeId := 68
abbrev T.t_sl_i_End : TypeId := 69
abbrev T.t_func_i_Problem_sl_int_bool : TypeId := 70
abbrev T.t_struct_Node_int_Port_int : TypeId := 71
abbrev T.t_i_End : TypeId := 72
abbrev T.t_func_i_Network_int_int_bool : TypeId := 73
abbrev T.t_func_i_Problem_int_int_bool : TypeId := 74
abbrev T.t_func_sl_l_End_sl_i_End : TypeId := 75
abbrev T.t_func_int_int_int_bool : TypeId := 76
abbrev T.t_func_sl_sl_int_int_int_bool : TypeId := 77
abbrev T.t_func_sl_int_int_bool : TypeId := 78
abbrev T.t_func_int_int_bool : TypeId := 79
abbrev T.t_func_i_Network_sl_sl_int_bool : TypeId := 80
abbrev T.t_func_sl_sl_int_func_sl_int_bool_bool : TypeId := 81
abbrev T.t_func_sl_int_bool : TypeId := 82
abbrev T.t_func_sl_i_End_sl_i_End_bool : TypeId := 83
abbrev T.t_func_sl_int_sl_int_sl_int : TypeId := 84
abbrev T.t_func_sl_int : TypeId := 85
abbrev T.t_func_sl_sl_int_sl_int_bool : TypeId := 86
abbrev T.t_func_int_int_int : TypeId := 87
abbrev T.t_func_l_End_i_End : TypeId := 88
abbrev T.t_l_End : TypeId := 89
abbrev T.t_func_sl_int_sl_int_int : TypeId := 90
abbrev T.t_func_int_bool_1 : TypeId := 91
abbrev T.t_func_sl_sl_int_func_sl_int_bool_int : TypeId := 92
abbrev T.t_func_sl_sl_int_int_bool : TypeId := 93
abbrev T.t_func_i_End_i_End_bool : TypeId := 94
abbrev T.t_func_sl_int_func_int_bool_bool : TypeId := 95
abbrev T.t_func_sl_int_int_int_int : TypeId := 96
abbrev T.t_func_uint_int : TypeId := 97
abbrev T.t_uint : TypeId := 98
abbrev T.t_func_sl_sl_int_func_sl_int_sl_int_int : TypeId := 99
abbrev T.t_func_sl_sl_int_func_sl_int_sl_int_bool_sl_sl_int : TypeId := 100
abbrev T.t_int_bool : TypeId := 101
abbrev T.t_func_sl_sl_int_sl_int_func_sl_int_sl_int_int_int_bool : TypeId := 102
abbrev T.t_func_iter_Seq_int_sl_int : TypeId := 103
abbrev T.t_func_func_int_bool : TypeId := 104
abbrev T.t_iter_Seq_int : TypeId := 105
abbrev T.t_func_sl_int_iter_Seq_int : TypeId := 106
abbrev T.t_func_int_int : TypeId := 107
abbrev T.t_func_sl_int_func_int_bool_int : TypeId := 108
abbrev T.t_func_sl_int_int_int_1 : TypeId := 109
abbrev T.t_slices_sortedHint : TypeId := 110
abbrev T.t_int_slices_sortedHint : TypeId := 111
abbrev T.t_func_sl_int_int_int_int_slices_sortedHint : TypeId := 112
abbrev T.t_func_sl_int_int_int_int_int : TypeId := 113
abbrev T.t_func_sl_int_int_int_int_int_bool : TypeId := 114
abbrev T.t_func_uint32_int : TypeId := 115
abbrev T.t_uint32 : TypeId := 116
abbrev T.t_func_uint64_int : TypeId := 117
abbrev T.t_uint64 : TypeId := 118
abbrev T.t_func_sl_sl_int_int_int_int_func_sl_int_sl_int_int : TypeId := 119
abbrev T.t_slices_xorshift : TypeId := 120
abbrev T.t_func_int_uint : TypeId := 121
abbrev T.t_func_uint64 : TypeId := 122
abbrev T.t_func_sl_int_int_ptr_int_int : TypeId := 123
abbrev T.t_ptr_int : TypeId := 124
abbrev T.t_func_sl_int_int_int_int_ptr_int_int : TypeId := 125
abbrev T.t_func_sl_sl_int_int_int_func_sl_int_sl_int_int : TypeId := 126
abbrev T.t_func_sl_sl_int_int_int_func_sl_int_sl_int_int_int_slices_sortedHint : TypeId := 127
abbrev T.t_func_sl_sl_int_int_int_func_sl_int_sl_int_int_bool : TypeId := 128
abbrev T.t_func_sl_sl_int_int_int_int_func_sl_int_sl_int_int_int : TypeId := 129
abbrev T.t_func_sl_sl_int_int_int_int_func_sl_int_sl_int_int_int_bool : TypeId := 130
abbrev T.t_func_sl_int_iter_Seq_int_sl_int : TypeId := 131
abbrev T.t_ptr_slices_xorshift : TypeId := 132
abbrev T.t_func_sl_int_int_int_ptr_int_int_int : TypeId := 133
abbrev T.t_func_sl_sl_int_int_ptr_int_func_sl_int_sl_int_int_int : TypeId := 134
abbrev T.t_func_sl_sl_int_int_int_int_ptr_int_func_sl_int_sl_int_int_int : TypeId := 135
abbrev T.t_func_sl_sl_int_int_int_ptr_int_func_sl_int_sl_int_int_int_int : TypeId := 136
abbrev T.t_func_string : TypeId := 137
abbrev T.t_struct__interface_ptr_abi_Type_concrete_ptr_abi_Type_asserted_ptr_abi_Type_missingMethod_string : TypeId := 138
abbrev T.t_runtime_TypeAssertionError : TypeId := 139
abbrev T.t_0_ptr_runtime_PanicNilError : TypeId := 140
abbrev T.t_struct___0_ptr_runtime_PanicNilError : TypeId := 141
abbrev T.t_runtime_PanicNilError : TypeId := 142
abbrev T.t_func_int : TypeId := 143
abbrev T.t_abi_TFlag : TypeId := 144
abbrev T.t_abi_Kind : TypeId := 145
abbrev T.t_func_unsafe_Pointer_unsafe_Pointer_bool : TypeId := 146
abbrev T.t_ptr_uint8 : TypeId := 147
abbrev T.t_abi_NameOff : TypeId := 148
abbrev T.t_abi_TypeOff : TypeId := 149
abbrev T.t_struct_Size__uintptr_PtrBytes_uintptr_Hash_uint32_TFlag_abi_TFlag_Align__uint8_FieldAlign__uint8_Kind__abi_Kind_Equal_func_unsafe_Pointer_unsafe_Pointer_bool_GCData_ptr_uint8_Str_abi_NameOff_PtrToThis_abi_TypeOff : TypeId := 150
abbrev T.t_abi_Type : TypeId := 151
abbrev T.t_func_bool : TypeId := 152
abbrev T.t_unsafe_Pointer : TypeId := 153
def hints0 : List (List Sh) := [
  [],
  [.at .val],
  [.at (.int .i64)],
  [.at (.int .i64)],
  [.at .bool],
  [.at (.int .u8)],
  [.at (.int .u8)],
  [.agg [.int .i64, .int .i64, .bool, .int .u8]],
  [.agg [.int .i64, .int .i64, .bool, .int .u8]],
  [.at .str],
  [.at .str],
  [.at .str],
  [.at (.int .u64)],
  [.agg [.str, .int .u64]],
  [.agg [.str, .int .u64]],
  [.at .ptr]]
def hints1 : List (List Sh) := [
  [.at .ptr],
  [.at .ptr],
  [.agg [.ptr]],
  [.agg [.ptr]],
  [.at .val],
  [.at (.int .i32)],
  [.at .sl],
  [.agg [.int .i64, .int .i64, .sl, .sl]],
  [.agg [.int .i64, .int .i64, .sl, .sl]],
  [.at .sl],
  [.at .sl],
  [.agg [.sl, .sl, .sl]],
  [.agg [.sl, .sl, .sl]],
  [.at .val],
  [.at .val],
  [.at .val]]
def hints2 : List (List Sh) := [
  [.at (.int .i64), .at (.int .i64), .at .bool],
  [.at .val],
  [.agg [.int .i64, .int .i64, .sl, .sl]],
  [.at .val],
  [.at .sl],
  [.agg [.sl, .sl, .sl]],
  [.agg [.sl, .sl, .sl]],
  [.at .val],
  [.at .val],
  [.at .val],
  [.at .val],
  [.at .val],
  [.at .val],
  [.at .bool, .at .bool],
  [.at .val],
  [.agg [.int .i64, .int .i64, .sl, .sl], .at .bool]]
def hints3 : List (List Sh) := [
  [.at .val],
  [.at .val],
  [.at .val],
  [.at .val],
  [.at .val],
  [.at .val],
  [.at (.int .i64), .at (.int .i64)],
  [.at .val],
  [.at .val],
  [.at .val],
  [.at .val],
  [.at .val],
  [.at .val],
  [.at .val],
  [.at .val],
  [.at .val]]
def hints4 : List (List Sh) := [
  [.at .val],
  [.at .val],
  [.at .val],
  [.at .val],
  [.at .sl],
  [.at .sl],
  [.at .val],
  [.agg [.int .i64, .int .i64]],
  [.agg [.int .i64, .int .i64]],
  [.at .val],
  [.at .val],
  [.at .val],
  [.at .val],
  [.at .val],
  [.at .val],
  [.at .val]]
def hints5 : List (List Sh) := [
  [.at .val],
  [.at .val],
  [.at .val],
  [.at .val],
  [.at .val],
  [.at .val],
  [.at .val],
  [.at .val],
  [.at .val],
  [.agg [.int .i64, .int .i64]],
  [.at .val],
  [.at .val],
  [.at .val],
  [.at .val],
  [.at .val],
  [.at .val]]
def hints6 : List (List Sh) := [
  [.at .val],
  [.at .val],
  [.at (.int .u64)],
  [.at .val],
  [.at .val],
  [.at (.int .i64), .at .bool],
  [.at .val],
  [.at .val],
  [.at .val],
  [.at .val],
  [.at .val],
  [.at .val],
  [.at .val],
  [.at .val],
  [.at (.int .i64)],
  [.at (.int .i64), .at (.int .i64)]]
def hints7 : List (List Sh) := [
  [.at .val],
  [.at .val],
  [.at .val],
  [.at .val],
  [.at (.int .u32)],
  [.at .val],
  [.at (.int .u64)],
  [.at .val],
  [.at (.int .u64)],
  [.at .val],
  [.at .val],
  [.at .val],
  [.at .ptr],
  [.at .val],
  [.at .val],
  [.at .val]]
def hints8 : List (List Sh) := [
  [.at .val],
  [.at .val],
  [.at .val],
  [.at .val],
  [.at .ptr],
  [.at .val],
  [.at .val],
  [.at .val],
  [.at .val],
  [.at .val],
  [.agg [.ptr, .ptr, .ptr, .str]],
  [.agg [.ptr, .ptr, .ptr, .str]],
  [.agg []],
  [.agg []],
  [.agg []],
  [.at .val]]
def hints9 : List (List Sh) := [
  [.at (.int .u8)],
  [.at (.int .u8)],
  [.at .val],
  [.at .ptr],
  [.at (.int .i32)],
  [.at (.int .i32)],
  [.agg [.int .u64, .int .u64, .int .u32, .int .u8, .int .u8, .int .u8, .int .u8, .val, .ptr, .int .i32, .int .i32]],
  [.agg [.int .u64, .int .u64, .int .u32, .int .u8, .int .u8, .int .u8, .int .u8, .val, .ptr, .int .i32, .int .i32]],
  [.at .val],
  [.at .ptr]]
def hint : Hint := hintOf [hints0, hints1, hints2, hints3, hints4, hints5, hints6, hints7, hints8, hints9]
end Go.Proofs.Ytjfodknpphhajaa
