/- The numbers of functions and types of this seat by their names, and of which kind a type's values are. Printed by a program. -/
import Derived.Test.YtjfodknpphhajaaGreatProg
import Derived.Test.YtjfodknpphhajaaGreatBase
namespace Go.Proofs.YtjfodknpphhajaaGreat
open Go.GX Go.RowKit

abbrev F.main_main : FuncId := 0
abbrev F.gosem_cut : FuncId := 1
abbrev F.gosem_cut_init : FuncId := 2
abbrev F.l_FnExactMapLabels : FuncId := 3
abbrev F.l_szProblem : FuncId := 4
abbrev F.l_szNetwork : FuncId := 5
abbrev F.l_szIntSS : FuncId := 6
abbrev F.s_MapLabels : FuncId := 7
abbrev F.l_toProblem : FuncId := 8
abbrev F.l_toIntS : FuncId := 9
abbrev F.l_toNetwork : FuncId := 10
abbrev F.l_toIntSS : FuncId := 11
abbrev F.i_MapLabels : FuncId := 12
abbrev F.l_eqIntSS : FuncId := 13
abbrev F.l_eqProblem : FuncId := 14
abbrev F.l_eqIntS : FuncId := 15
abbrev F.l_eqNetwork : FuncId := 16
abbrev F.l_markProblem : FuncId := 17
abbrev F.l_markIntS : FuncId := 18
abbrev F.l_markNetwork : FuncId := 19
abbrev F.l_markIntSS : FuncId := 20
abbrev F.l_heldIntSS : FuncId := 21
abbrev F.l_szEndSS : FuncId := 22
abbrev F.l_szIntS : FuncId := 23
abbrev F.s_reTwo : FuncId := 24
abbrev F.s_reMap : FuncId := 25
abbrev F.s_prAsked : FuncId := 26
abbrev F.s_reApply : FuncId := 27
abbrev F.l_toEndSS : FuncId := 28
abbrev F.i_areProblems : FuncId := 29
abbrev F.i_isLabelMap : FuncId := 30
abbrev F.i_IsNetwork : FuncId := 31
abbrev F.i_isLabeling : FuncId := 32
abbrev F.i_images : FuncId := 33
abbrev F.l_eqEndSS : FuncId := 34
abbrev F.l_markEndSS : FuncId := 35
abbrev F.l_heldIntS : FuncId := 36
abbrev F.l_szEndS : FuncId := 37
abbrev F.s_prGood : FuncId := 38
abbrev F.s_l1All : FuncId := 39
abbrev F.s_reInto : FuncId := 40
abbrev F.s_neGood : FuncId := 41
abbrev F.s_prShape : FuncId := 42
abbrev F.s_coThrough : FuncId := 43
abbrev F.l_toEndS : FuncId := 44
abbrev F.i_IsProblem : FuncId := 45
abbrev F.i_Problem_hasLabels : FuncId := 46
abbrev F.i_Problem_node : FuncId := 47
abbrev F.slices_ContainsFunc_sl_sl_int_sl_int : FuncId := 48
abbrev F.i_isLabelMap_1 : FuncId := 49
abbrev F.i_Problem_edge : FuncId := 50
abbrev F.i_within : FuncId := 51
abbrev F.i_idsOk : FuncId := 52
abbrev F.i_inputsOk : FuncId := 53
abbrev F.i_Network_hasPort : FuncId := 54
abbrev F.i_portsOk : FuncId := 55
abbrev F.i_isLabeling_1 : FuncId := 56
abbrev F.l_eqEndS : FuncId := 57
abbrev F.l_markEndS : FuncId := 58
abbrev F.s_l1In : FuncId := 59
abbrev F.s_prLists : FuncId := 60
abbrev F.s_prHas : FuncId := 61
abbrev F.s_prSorted : FuncId := 62
abbrev F.s_neIds : FuncId := 63
abbrev F.l_toEnd : FuncId := 64
abbrev F.i_configurationsOk : FuncId := 65
abbrev F.i_allWithin : FuncId := 66
abbrev F.i_hasConfiguration : FuncId := 67
abbrev F.slices_IndexFunc_sl_sl_int_sl_int : FuncId := 68
abbrev F.slices_Clone_sl_int_int : FuncId := 69
abbrev F.slices_Sort_sl_int_int : FuncId := 70
abbrev F.i_increasing : FuncId := 71
abbrev F.i_Network_hasNode : FuncId := 72
abbrev F.l_eqEnd : FuncId := 73
abbrev F.s_prOrder : FuncId := 74
abbrev F.s_l1Same : FuncId := 75
abbrev F.s_l1Own : FuncId := 76
abbrev F.s_l1Has : FuncId := 77
abbrev F.slices_IsSorted_sl_int_int : FuncId := 78
abbrev F.slices_Compare_sl_int_int : FuncId := 79
abbrev F.slices_ContainsFunc_sl_int_int : FuncId := 80
abbrev F.i_allWithin_1 : FuncId := 81
abbrev F.slices_BinarySearchFunc_sl_sl_int_sl_int_sl_int : FuncId := 82
abbrev F.slices_Sorted_int : FuncId := 83
abbrev F.slices_Values_sl_int_int : FuncId := 84
abbrev F.slices_pdqsortOrdered_int : FuncId := 85
abbrev F.math_bits_Len : FuncId := 86
abbrev F.s_l1Sign : FuncId := 87
abbrev F.cmp_Less_int : FuncId := 88
abbrev F.cmp_Compare_int : FuncId := 89
abbrev F.slices_IndexFunc_sl_int_int : FuncId := 90
abbrev F.slices_Collect_int : FuncId := 91
abbrev F.slices_Values_sl_int_int_1 : FuncId := 92
abbrev F.slices_insertionSortOrdered_int : FuncId := 93
abbrev F.slices_heapSortOrdered_int : FuncId := 94
abbrev F.slices_breakPatternsOrdered_int : FuncId := 95
abbrev F.slices_choosePivotOrdered_int : FuncId := 96
abbrev F.slices_reverseRangeOrdered_int : FuncId := 97
abbrev F.slices_partialInsertionSortOrdered_int : FuncId := 98
abbrev F.slices_partitionEqualOrdered_int : FuncId := 99
abbrev F.slices_partitionOrdered_int : FuncId := 100
abbrev F.math_bits_Len32 : FuncId := 101
abbrev F.math_bits_Len64 : FuncId := 102
abbrev F.cmp_isNaN_int : FuncId := 103
abbrev F.slices_AppendSeq_sl_int_int : FuncId := 104
abbrev F.slices_siftDownOrdered_int : FuncId := 105
abbrev F.slices_nextPowerOfTwo : FuncId := 106
abbrev F.ptr_slices_xorshift_Next : FuncId := 107
abbrev F.slices_medianAdjacentOrdered_int : FuncId := 108
abbrev F.slices_medianOrdered_int : FuncId := 109
abbrev F.slices_order2Ordered_int : FuncId := 110
abbrev F.runtime_boundsError_Error : FuncId := 111
abbrev F.runtime_boundsError_RuntimeError : FuncId := 112
abbrev F.runtime_errorString_Error : FuncId := 113
abbrev F.runtime_errorString_RuntimeError : FuncId := 114
abbrev F.runtime_plainError_Error : FuncId := 115
abbrev F.runtime_plainError_RuntimeError : FuncId := 116
abbrev F.runtime_errorAddressString_Error : FuncId := 117
abbrev F.runtime_errorAddressString_RuntimeError : FuncId := 118
abbrev F.ptr_runtime_TypeAssertionError_Error : FuncId := 119
abbrev F.ptr_runtime_TypeAssertionError_RuntimeError : FuncId := 120
abbrev F.ptr_runtime_PanicNilError_Error : FuncId := 121
abbrev F.ptr_runtime_PanicNilError_RuntimeError : FuncId := 122
abbrev F.ptr_internal_abi_Type_Align : FuncId := 123
abbrev F.internal_runtime_maps_unhashableTypeError_Error : FuncId := 124
abbrev F.internal_runtime_maps_unhashableTypeError_RuntimeError : FuncId := 125
abbrev F.i_Network_isSimple : FuncId := 126
abbrev F.internal_abi_Kind_String : FuncId := 127
abbrev T.t_unit : TypeId := 0
abbrev T.t_func : TypeId := 1
abbrev T.t_int64 : TypeId := 2
abbrev T.t_int : TypeId := 3
abbrev T.t_bool : TypeId := 4
abbrev T.t_uint8 : TypeId := 5
abbrev T.t_abi_BoundsErrorCode : TypeId := 6
abbrev T.t_struct_x_int64_y_int_signed_bool_code_abi_BoundsErrorCode : TypeId := 7
abbrev T.t_runtime_boundsError : TypeId := 8
abbrev T.t_string : TypeId := 9
abbrev T.t_runtime_errorString : TypeId := 10
abbrev T.t_runtime_plainError : TypeId := 11
abbrev T.t_uintptr : TypeId := 12
abbrev T.t_struct_msg_string_addr_uintptr : TypeId := 13
abbrev T.t_runtime_errorAddressString : TypeId := 14
abbrev T.t_ptr_runtime_TypeAssertionError : TypeId := 15
abbrev T.t_ptr_runtime_PanicNilError : TypeId := 16
abbrev T.t_ptr_abi_Type : TypeId := 17
abbrev T.t_struct_typ_ptr_abi_Type : TypeId := 18
abbrev T.t_maps_unhashableTypeError : TypeId := 19
abbrev T.t_interface : TypeId := 20
abbrev T.t_int32 : TypeId := 21
abbrev T.t_sl_sl_int : TypeId := 22
abbrev T.t_struct_Labels_int_Degree_int_Nodes_sl_sl_int_Edges_sl_sl_int : TypeId := 23
abbrev T.t_l_Problem : TypeId := 24
abbrev T.t_sl_int : TypeId := 25
abbrev T.t_sl_sl_l_End : TypeId := 26
abbrev T.t_struct_Ends_sl_sl_l_End_Ids_sl_int_Inputs_sl_int : TypeId := 27
abbrev T.t_l_Network : TypeId := 28
abbrev T.t_func_l_Problem_int_int : TypeId := 29
abbrev T.t_func_l_Network_int_int : TypeId := 30
abbrev T.t_func_sl_sl_int_int_int : TypeId := 31
abbrev T.t_sl_sl_int_bool : TypeId := 32
abbrev T.t_func_i_Problem_i_Problem_sl_int_i_Network_sl_sl_int_sl_sl_int_bool : TypeId := 33
abbrev T.t_i_Problem : TypeId := 34
abbrev T.t_func_l_Problem_i_Problem : TypeId := 35
abbrev T.t_func_sl_int_sl_int : TypeId := 36
abbrev T.t_sl_sl_i_End : TypeId := 37
abbrev T.t_struct_Ends_sl_sl_i_End_Ids_sl_int_Inputs_sl_int : TypeId := 38
abbrev T.t_i_Network : TypeId := 39
abbrev T.t_func_l_Network_i_Network : TypeId := 40
abbrev T.t_func_sl_sl_int_sl_sl_int : TypeId := 41
abbrev T.t_func_sl_sl_int_sl_sl_int_bool : TypeId := 42
abbrev T.t_func_i_Problem_i_Problem_bool : TypeId := 43
abbrev T.t_func_sl_int_sl_int_bool : TypeId := 44
abbrev T.t_func_i_Network_i_Network_bool : TypeId := 45
abbrev T.t_func_i_Problem_int_int : TypeId := 46
abbrev T.t_func_sl_int_int_int : TypeId := 47
abbrev T.t_func_i_Network_int_int : TypeId := 48
abbrev T.t_func_l_Problem_l_Problem_sl_int_l_Network_sl_sl_int_bool : TypeId := 49
abbrev T.t_func_sl_sl_l_End_int_int : TypeId := 50
abbrev T.t_func_i_Problem_i_Problem_sl_int_bool : TypeId := 51
abbrev T.t_func_i_Problem_i_Network_sl_sl_int_bool : TypeId := 52
abbrev T.t_func_sl_int_sl_sl_int_sl_sl_int : TypeId := 53
abbrev T.t_func_sl_sl_l_End_sl_sl_i_End : TypeId := 54
abbrev T.t_func_i_Network_bool : TypeId := 55
abbrev T.t_func_sl_int_sl_int_sl_int : TypeId := 56
abbrev T.t_func_sl_sl_i_End_sl_sl_i_End_bool : TypeId := 57
abbrev T.t_func_sl_sl_i_End_int_int : TypeId := 58
abbrev T.t_func_sl_l_End_int_int : TypeId := 59
abbrev T.t_sl_l_End : TypeId := 60
abbrev T.t_func_i_Problem_bool : TypeId := 61
abbrev T.t_func_sl_int_int_int_bool : TypeId := 62
abbrev T.t_func_sl_sl_int_sl_sl_int_sl_int_bool : TypeId := 63
abbrev T.t_sl_i_End : TypeId := 64
abbrev T.t_func_sl_l_End_sl_i_End : TypeId := 65
abbrev T.t_func_int_bool : TypeId := 66
abbrev T.t_func_sl_sl_int_func_sl_int_bool_bool : TypeId := 67
abbrev T.t_func_int_int_bool : TypeId := 68
abbrev T.t_func_sl_int_bool : TypeId := 69
abbrev T.t_func_int_int_int_bool : TypeId := 70
abbrev T.t_func_sl_int_int_bool : TypeId := 71
abbrev T.t_struct_Node_int_Port_int : TypeId := 72
abbrev T.t_i_End : TypeId := 73
abbrev T.t_func_i_Network_sl_sl_int_bool : TypeId := 74
abbrev T.t_func_sl_i_End_sl_i_End_bool : TypeId := 75
abbrev T.t_func_sl_i_End_int_int : TypeId := 76
abbrev T.t_func_sl_sl_int_int_int_bool : TypeId := 77
abbrev T.t_func_sl_sl_int_sl_int_bool : TypeId := 78
abbrev T.t_func_l_End_i_End : TypeId := 79
abbrev T.t_l_End : TypeId := 80
abbrev T.t_func_sl_sl_int_int_bool : TypeId := 81
abbrev T.t_func_sl_sl_int_func_sl_int_bool_int : TypeId := 82
abbrev T.t_func_sl_int : TypeId := 83
abbrev T.t_func_int_bool_1 : TypeId := 84
abbrev T.t_func_i_End_i_End_bool : TypeId := 85
abbrev T.t_func_sl_int_sl_int_int : TypeId := 86
abbrev T.t_func_sl_int_func_int_bool_bool : TypeId := 87
abbrev T.t_int_bool : TypeId := 88
abbrev T.t_func_sl_sl_int_sl_int_func_sl_int_sl_int_int_int_bool : TypeId := 89
abbrev T.t_func_iter_Seq_int_sl_int : TypeId := 90
abbrev T.t_func_func_int_bool : TypeId := 91
abbrev T.t_iter_Seq_int : TypeId := 92
abbrev T.t_func_sl_int_iter_Seq_int : TypeId := 93
abbrev T.t_func_sl_int_int_int_int : TypeId := 94
abbrev T.t_func_uint_int : TypeId := 95
abbrev T.t_uint : TypeId := 96
abbrev T.t_func_int_int : TypeId := 97
abbrev T.t_func_int_int_int : TypeId := 98
abbrev T.t_func_sl_int_func_int_bool_int : TypeId := 99
abbrev T.t_func_sl_int_int_int_1 : TypeId := 100
abbrev T.t_slices_sortedHint : TypeId := 101
abbrev T.t_int_slices_sortedHint : TypeId := 102
abbrev T.t_func_sl_int_int_int_int_slices_sortedHint : TypeId := 103
abbrev T.t_func_sl_int_int_int_int_int : TypeId := 104
abbrev T.t_func_sl_int_int_int_int_int_bool : TypeId := 105
abbrev T.t_func_uint32_int : TypeId := 106
abbrev T.t_uint32 : TypeId := 107
abbrev T.t_func_uint64_int : TypeId := 108
abbrev T.t_uint64 : TypeId := 109
abbrev T.t_func_sl_int_iter_Seq_int_sl_int : TypeId := 110
abbrev T.t_slices_xorshift : TypeId := 111
abbrev T.t_func_int_uint : TypeId := 112
abbrev T.t_func_uint64 : TypeId := 113
abbrev T.t_func_sl_int_int_ptr_int_int : TypeId := 114
abbrev T.t_ptr_int : TypeId := 115
abbrev T.t_func_sl_int_int_int_int_ptr_int_int : TypeId := 116
abbrev T.t_ptr_slices_xorshift : TypeId := 117
abbrev T.t_int_int : TypeId := 118
abbrev T.t_func_sl_int_int_int_ptr_int_int_int : TypeId := 119
abbrev T.t_func_string : TypeId := 120
abbrev T.t_struct__interface_ptr_abi_Type_concrete_ptr_abi_Type_asserted_ptr_abi_Type_missingMethod_string : TypeId := 121
abbrev T.t_runtime_TypeAssertionError : TypeId := 122
abbrev T.t_0_ptr_runtime_PanicNilError : TypeId := 123
abbrev T.t_struct___0_ptr_runtime_PanicNilError : TypeId := 124
abbrev T.t_runtime_PanicNilError : TypeId := 125
abbrev T.t_func_int : TypeId := 126
abbrev T.t_abi_TFlag : TypeId := 127
abbrev T.t_abi_Kind : TypeId := 128
abbrev T.t_func_unsafe_Pointer_unsafe_Pointer_bool : TypeId := 129
abbrev T.t_ptr_uint8 : TypeId := 130
abbrev T.t_abi_NameOff : TypeId := 131
abbrev T.t_abi_TypeOff : TypeId := 132
abbrev T.t_struct_Size__uintptr_PtrBytes_uintptr_Hash_uint32_TFlag_abi_TFlag_Align__uint8_FieldAlign__uint8_Kind__abi_Kind_Equal_func_unsafe_Pointer_unsafe_Pointer_bool_GCData_ptr_uint8_Str_abi_NameOff_PtrToThis_abi_TypeOff : TypeId := 133
abbrev T.t_abi_Type : TypeId := 134
abbrev T.t_func_bool : TypeId := 135
abbrev T.t_unsafe_Pointer : TypeId := 136
def hints0 : List (List Sh) := [
  [],
  [.at .val],
  [.at (.int .i64)],
  [.at (.int .i64)],
  [.at .bool],
  [.at (.int .u8)],
  [.at (.int .u8)],
  [.agg [.int .i64, .int .i64, .bool, .int .u8]],
  [.agg [.int .i64, .int .i64, .bool, .int .u8]],
  [.at .str],
  [.at .str],
  [.at .str],
  [.at (.int .u64)],
  [.agg [.str, .int .u64]],
  [.agg [.str, .int .u64]],
  [.at .ptr]]
def hints1 : List (List Sh) := [
  [.at .ptr],
  [.at .ptr],
  [.agg [.ptr]],
  [.agg [.ptr]],
  [.at .val],
  [.at (.int .i32)],
  [.at .sl],
  [.agg [.int .i64, .int .i64, .sl, .sl]],
  [.agg [.int .i64, .int .i64, .sl, .sl]],
  [.at .sl],
  [.at .sl],
  [.agg [.sl, .sl, .sl]],
  [.agg [.sl, .sl, .sl]],
  [.at .val],
  [.at .val],
  [.at .val]]
def hints2 : List (List Sh) := [
  [.at .sl, .at .bool],
  [.at .val],
  [.agg [.int .i64, .int .i64, .sl, .sl]],
  [.at .val],
  [.at .val],
  [.at .sl],
  [.agg [.sl, .sl, .sl]],
  [.agg [.sl, .sl, .sl]],
  [.at .val],
  [.at .val],
  [.at .val],
  [.at .val],
  [.at .val],
  [.at .val],
  [.at .val],
  [.at .val]]
def hints3 : List (List Sh) := [
  [.at .val],
  [.at .val],
  [.at .val],
  [.at .val],
  [.at .val],
  [.at .val],
  [.at .val],
  [.at .val],
  [.at .val],
  [.at .val],
  [.at .val],
  [.at .val],
  [.at .sl],
  [.at .val],
  [.at .val],
  [.at .val]]
def hints4 : List (List Sh) := [
  [.at .sl],
  [.at .val],
  [.at .val],
  [.at .val],
  [.at .val],
  [.at .val],
  [.at .val],
  [.at .val],
  [.agg [.int .i64, .int .i64]],
  [.agg [.int .i64, .int .i64]],
  [.at .val],
  [.at .val],
  [.at .val],
  [.at .val],
  [.at .val],
  [.at .val]]
def hints5 : List (List Sh) := [
  [.agg [.int .i64, .int .i64]],
  [.at .val],
  [.at .val],
  [.at .val],
  [.at .val],
  [.at .val],
  [.at .val],
  [.at .val],
  [.at (.int .i64), .at .bool],
  [.at .val],
  [.at .val],
  [.at .val],
  [.at .val],
  [.at .val],
  [.at .val],
  [.at .val]]
def hints6 : List (List Sh) := [
  [.at (.int .u64)],
  [.at .val],
  [.at .val],
  [.at .val],
  [.at .val],
  [.at (.int .i64)],
  [.at (.int .i64), .at (.int .i64)],
  [.at .val],
  [.at .val],
  [.at .val],
  [.at .val],
  [.at (.int .u32)],
  [.at .val],
  [.at (.int .u64)],
  [.at .val],
  [.at (.int .u64)]]
def hints7 : List (List Sh) := [
  [.at .val],
  [.at .val],
  [.at .val],
  [.at .ptr],
  [.at .val],
  [.at .ptr],
  [.at (.int .i64), .at (.int .i64)],
  [.at .val],
  [.at .val],
  [.agg [.ptr, .ptr, .ptr, .str]],
  [.agg [.ptr, .ptr, .ptr, .str]],
  [.agg []],
  [.agg []],
  [.agg []],
  [.at .val],
  [.at (.int .u8)]]
def hints8 : List (List Sh) := [
  [.at (.int .u8)],
  [.at .val],
  [.at .ptr],
  [.at (.int .i32)],
  [.at (.int .i32)],
  [.agg [.int .u64, .int .u64, .int .u32, .int .u8, .int .u8, .int .u8, .int .u8, .val, .ptr, .int .i32, .int .i32]],
  [.agg [.int .u64, .int .u64, .int .u32, .int .u8, .int .u8, .int .u8, .int .u8, .val, .ptr, .int .i32, .int .i32]],
  [.at .val],
  [.at .ptr]]
def hint : Hint := hintOf [hints0, hints1, hints2, hints3, hints4, hints5, hints6, hints7, hints8]
end Go.Proofs.YtjfodknpphhajaaGreat
