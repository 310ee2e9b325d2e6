/- Own texts, merged: Names, V0, V1, VCmp, AllV, Rules, Leaf. -/
import Derived.Test.YtaeledhbkdakcaaDoorM0
import Derived.Test.YtaeledhbkdakcaaDoorProg
import Derived.Laws.OwnMore
import Derived.Great.BuildSlice
import Derived.Laws.StructEq
set_option linter.unusedVariables false
section
/- The numbers of functions and types of this seat by their names, and of which kind a type's values are. Printed by a program. -/
namespace Go.Proofs.YtaeledhbkdakcaaDoor
open Go.GX Go.RowKit

abbrev F.l_FnExactGreatestMatching : FuncId := 3
abbrev F.l_szNetwork : FuncId := 6
abbrev F.s_GreatestMatching : FuncId := 7
abbrev F.l_toNetwork : FuncId := 8
abbrev F.i_GreatestMatching : FuncId := 9
abbrev F.l_eqIntS : FuncId := 10
abbrev F.l_eqNetwork : FuncId := 11
abbrev F.l_markNetwork : FuncId := 12
abbrev F.l_markIntS : FuncId := 13
abbrev F.l_heldIntS : FuncId := 14
abbrev F.l_szEndSS : FuncId := 20
abbrev F.l_szIntS : FuncId := 21
abbrev F.s_neGood : FuncId := 22
abbrev F.ptr_s_mtSearch_try : FuncId := 23
abbrev F.s_mtFree : FuncId := 24
abbrev F.l_toEndSS : FuncId := 25
abbrev F.l_toIntS : FuncId := 26
abbrev F.i_IsNetwork : FuncId := 27
abbrev F.i_noMatching : FuncId := 28
abbrev F.i_matcher_size : FuncId := 29
abbrev F.slices_IndexFunc_sl_i_End_i_End : FuncId := 30
abbrev F.i_GreatestMatching_1 : FuncId := 31
abbrev F.l_eqEndSS : FuncId := 32
abbrev F.l_markEndSS : FuncId := 33
abbrev F.l_szEndS : FuncId := 39
abbrev F.s_l1In : FuncId := 40
abbrev F.s_neIds : FuncId := 41
abbrev F.s_l1All : FuncId := 42
abbrev F.s_mtSize : FuncId := 43
abbrev F.s_mtTake : FuncId := 44
abbrev F.s_roFree : FuncId := 45
abbrev F.l_toEndS : FuncId := 46
abbrev F.i_within : FuncId := 47
abbrev F.i_idsOk : FuncId := 48
abbrev F.i_inputsOk : FuncId := 49
abbrev F.i_Network_hasPort : FuncId := 50
abbrev F.slices_Repeat_sl_int_int : FuncId := 51
abbrev F.math_bits_TrailingZeros : FuncId := 52
abbrev F.l_eqEndS : FuncId := 53
abbrev F.l_markEndS : FuncId := 54
abbrev F.s_l1Has : FuncId := 71
abbrev F.s_l1Own : FuncId := 72
abbrev F.l_toEnd : FuncId := 73
abbrev F.slices_Clone_sl_int_int : FuncId := 74
abbrev F.slices_Sort_sl_int_int : FuncId := 75
abbrev F.i_increasing : FuncId := 76
abbrev F.i_allWithin : FuncId := 77
abbrev F.i_Network_hasNode : FuncId := 78
abbrev F.math_bits_Mul : FuncId := 79
abbrev F.l_eqEnd : FuncId := 82
abbrev F.slices_ContainsFunc_sl_int_int : FuncId := 94
abbrev F.i_allWithin_1 : FuncId := 95
abbrev F.math_bits_Mul64 : FuncId := 97
abbrev F.slices_IndexFunc_sl_int_int : FuncId := 119
abbrev T.t_int : TypeId := 3
abbrev T.t_sl_sl_l_End : TypeId := 22
abbrev T.t_sl_int : TypeId := 23
abbrev T.t_l_Network : TypeId := 25
abbrev T.t_sl_sl_i_End : TypeId := 29
abbrev T.t_i_Network : TypeId := 31
abbrev T.t_s_mtSearch : TypeId := 47
abbrev T.t_map_uint_int : TypeId := 52
abbrev T.t_i_matcher : TypeId := 54
abbrev T.t_uint : TypeId := 55
abbrev T.t_sl_i_End : TypeId := 56
abbrev T.t_i_End : TypeId := 60
abbrev T.t_sl_l_End : TypeId := 77
abbrev T.t_l_End : TypeId := 112
def hints0 : List (List Sh) := [
  [],
  [.at .val],
  [.at (.int .i64)],
  [.at (.int .i64)],
  [.at .bool],
  [.at (.int .u8)],
  [.at (.int .u8)],
  [.agg [.int .i64, .int .i64, .bool, .int .u8]],
  [.agg [.int .i64, .int .i64, .bool, .int .u8]],
  [.at .str],
  [.at .str],
  [.at .str],
  [.at (.int .u64)],
  [.agg [.str, .int .u64]],
  [.agg [.str, .int .u64]],
  [.at .ptr]]
def hints1 : List (List Sh) := [
  [.at .ptr],
  [.at .ptr],
  [.agg [.ptr]],
  [.agg [.ptr]],
  [.at .val],
  [.at (.int .i32)],
  [.at .sl],
  [.at .sl],
  [.agg [.sl, .sl, .sl]],
  [.agg [.sl, .sl, .sl]],
  [.at .val],
  [.at .sl, .at .bool],
  [.at .val],
  [.at .sl],
  [.agg [.sl, .sl, .sl]],
  [.agg [.sl, .sl, .sl]]]
def hints2 : List (List Sh) := [
  [.at .val],
  [.at .val],
  [.at .val],
  [.at .val],
  [.at .val],
  [.at .val],
  [.at .str, .at .bool],
  [.at .val],
  [.at .val],
  [.agg [.sl, .sl, .sl], .at (.int .i64), .at (.int .i64)],
  [.at .val],
  [.at .val],
  [.at .val],
  [.at .ptr],
  [.agg [.sl, .sl, .sl, .sl, .int .i64]],
  [.agg [.sl, .sl, .sl, .sl, .int .i64]]]
def hints3 : List (List Sh) := [
  [.at .val],
  [.at .val],
  [.at .val],
  [.at .val],
  [.at .mp],
  [.agg [.sl, .sl, .sl, .mp]],
  [.agg [.sl, .sl, .sl, .mp]],
  [.at (.int .u64)],
  [.at .sl],
  [.at .val],
  [.at .val],
  [.agg [.int .i64, .int .i64]],
  [.agg [.int .i64, .int .i64]],
  [.at .val],
  [.at .val],
  [.at .val]]
def hints4 : List (List Sh) := [
  [.at .val],
  [.at .ptr],
  [.at .sl],
  [.agg [.sl, .sl, .sl, .sl, .sl, .sl, .int .i64, .int .i64]],
  [.agg [.sl, .sl, .sl, .sl, .sl, .sl, .int .i64, .int .i64]],
  [.at .ptr],
  [.at .sl],
  [.agg [.sl, .sl, .sl, .sl, .sl, .sl, .bool]],
  [.agg [.sl, .sl, .sl, .sl, .sl, .sl, .bool]],
  [.agg [.int .i64, .int .i64]],
  [.agg [.int .i64, .int .i64]],
  [.at .val],
  [.at .val],
  [.at .sl],
  [.at .val],
  [.at .val]]
def hints5 : List (List Sh) := [
  [.at .val],
  [.at .val],
  [.at .val],
  [.at .val],
  [.at .val],
  [.at .val],
  [.at .val],
  [.at (.int .i64), .at .bool],
  [.at .val],
  [.at .val],
  [.at .sl],
  [.at .val],
  [.at .val],
  [.at .ptr],
  [.at .sl],
  [.agg [.ptr, .sl]]]
def hints6 : List (List Sh) := [
  [.agg [.ptr, .sl]],
  [.at .val],
  [.at .val],
  [.at .val],
  [.at (.int .i64), .at .val],
  [.at .val],
  [.at .val],
  [.at .val],
  [.at .val],
  [.at .val],
  [.at .val],
  [.agg [.str, .int .i64]],
  [.agg [.str, .int .i64]],
  [.at .val],
  [.at .val],
  [.at .val]]
def hints7 : List (List Sh) := [
  [.agg [.int .i64, .int .i64]],
  [.at .val],
  [.at .val],
  [.at (.int .u64), .at (.int .u64)],
  [.at .val],
  [.at .val],
  [.at (.int .u32)],
  [.at .val],
  [.at (.int .u64)],
  [.at .val],
  [.at .val],
  [.at .ptr],
  [.at .val],
  [.at .val],
  [.at .sl],
  [.at .val]]
def hints8 : List (List Sh) := [
  [.at .val],
  [.agg [.str, .int .i64]],
  [.agg [.int .i64, .int .i64], .at .bool],
  [.at .val],
  [.at .val],
  [.at .val],
  [.at (.int .u32), .at (.int .u32)],
  [.at .val],
  [.at (.int .u64), .at (.int .u64)],
  [.at .val],
  [.agg [.int .u8, .int .u8, .int .u8, .int .u8, .int .u8, .int .u8, .int .u8, .int .u8, .int .u8, .int .u8, .int .u8, .int .u8, .int .u8, .int .u8, .int .u8, .int .u8, .int .u8, .int .u8, .int .u8, .int .u8, .int .u8, .int .u8, .int .u8, .int .u8, .int .u8, .int .u8, .int .u8, .int .u8, .int .u8, .int .u8, .int .u8, .int .u8]],
  [.agg [.int .u8, .int .u8, .int .u8, .int .u8, .int .u8, .int .u8, .int .u8, .int .u8, .int .u8, .int .u8, .int .u8, .int .u8, .int .u8, .int .u8, .int .u8, .int .u8, .int .u8, .int .u8, .int .u8, .int .u8, .int .u8, .int .u8, .int .u8, .int .u8, .int .u8, .int .u8, .int .u8, .int .u8, .int .u8, .int .u8, .int .u8, .int .u8, .int .u8, .int .u8, .int .u8, .int .u8, .int .u8, .int .u8, .int .u8, .int .u8, .int .u8, .int .u8, .int .u8, .int .u8, .int .u8, .int .u8, .int .u8, .int .u8, .int .u8, .int .u8, .int .u8, .int .u8, .int .u8, .int .u8, .int .u8, .int .u8, .int .u8, .int .u8, .int .u8, .int .u8, .int .u8, .int .u8, .int .u8, .int .u8]],
  [.at .val],
  [.at .ptr],
  [.at .val],
  [.at .val]]
def hints9 : List (List Sh) := [
  [.at .val],
  [.at .val],
  [.at .str, .at .str, .at .bool],
  [.at .val],
  [.at .val],
  [.at (.int .i64)],
  [.at (.int .i64), .at (.int .i64)],
  [.at .val],
  [.at .val],
  [.at .val],
  [.at .val],
  [.agg [.int .u8, .int .u8, .int .u8, .int .u8, .int .u8, .int .u8, .int .u8, .int .u8, .int .u8, .int .u8, .int .u8, .int .u8, .int .u8, .int .u8, .int .u8, .int .u8, .int .u8, .int .u8, .int .u8, .int .u8, .int .u8, .int .u8, .int .u8, .int .u8]],
  [.at .val],
  [.at .sl, .at .str],
  [.at .val],
  [.at .val]]
def hints10 : List (List Sh) := [
  [.at .val],
  [.at (.int .u64)],
  [.at .val],
  [.at .val],
  [.at .val],
  [.at .ptr],
  [.at .val],
  [.at .val],
  [.at .val],
  [.agg [.int .u64, .int .u64, .int .u64, .int .u64, .int .u64, .int .u64, .int .u64, .int .u64, .int .u64, .int .u64, .int .u64, .int .u64, .int .u64, .int .u64, .int .u64, .int .u64, .int .u64, .int .u64, .int .u64, .int .u64]],
  [.agg [.int .u8, .int .u8, .int .u8, .int .u8, .int .u8, .int .u8, .int .u8, .int .u8, .int .u8, .int .u8, .int .u8, .int .u8, .int .u8, .int .u8, .int .u8, .int .u8, .int .u8, .int .u8, .int .u8, .int .u8, .int .u8, .int .u8, .int .u8, .int .u8, .int .u8, .int .u8, .int .u8, .int .u8, .int .u8, .int .u8, .int .u8, .int .u8, .int .u8, .int .u8, .int .u8, .int .u8, .int .u8, .int .u8, .int .u8, .int .u8, .int .u8, .int .u8, .int .u8, .int .u8, .int .u8, .int .u8, .int .u8, .int .u8, .int .u8, .int .u8, .int .u8, .int .u8, .int .u8, .int .u8, .int .u8, .int .u8, .int .u8, .int .u8, .int .u8, .int .u8, .int .u8, .int .u8, .int .u8, .int .u8, .int .u8]],
  [.at .val],
  [.at .val],
  [.at .val],
  [.at .ptr],
  [.at (.int .i64), .at (.int .i64)]]
def hints11 : List (List Sh) := [
  [.at .val],
  [.at (.int .i64)],
  [.at (.int .i64), .at .val],
  [.at .val],
  [.at .ptr],
  [.at .val],
  [.at .val],
  [.at (.int .u64), .at .val],
  [.at .val],
  [.at .val],
  [.agg [.str, .str, .val]],
  [.agg [.str, .str, .val]],
  [.at .val],
  [.at .val],
  [.at .val],
  [.at .ptr]]
def hints12 : List (List Sh) := [
  [.agg [.str]],
  [.agg [.str]],
  [.agg [.ptr, .ptr, .ptr, .str]],
  [.agg [.ptr, .ptr, .ptr, .str]],
  [.agg []],
  [.agg []],
  [.agg []],
  [.at .val],
  [.at (.int .u8)],
  [.at (.int .u8)],
  [.at .val],
  [.at (.int .i32)],
  [.at (.int .i32)],
  [.agg [.int .u64, .int .u64, .int .u32, .int .u8, .int .u8, .int .u8, .int .u8, .val, .ptr, .int .i32, .int .i32]],
  [.agg [.int .u64, .int .u64, .int .u32, .int .u8, .int .u8, .int .u8, .int .u8, .val, .ptr, .int .i32, .int .i32]]]
def hint : Hint := hintOf [hints0, hints1, hints2, hints3, hints4, hints5, hints6, hints7, hints8, hints9, hints10, hints11, hints12]
end Go.Proofs.YtaeledhbkdakcaaDoor
end

section
/- What each function's code computes to. Printed by a program. -/
namespace Go.Proofs.YtaeledhbkdakcaaDoor
open Go.GX Go.RowKit
set_option linter.unusedVariables false
set_option maxRecDepth 100000

def V_l_FnExactGreatestMatching_k5 (Q : Bool → World → Prop) (px1 : Addr) (x22_0 : Sl) (x22_1 : Bool) (x29_0 : Sl) (w16 : World) : Prop :=
  Calls Tryd.prog F.l_markIntS #[x29_0.v, .int .i64 1] w16 (Ret [.at (.int .i64)] fun (x64 : Int) w17 =>
  Calls Tryd.prog F.l_heldIntS #[x29_0.v, .int .i64 1] w17 (Ret [.at (.int .i64)] fun (x67 : Int) w18 =>
  cond (decide ((x67 : Int) < 0)) (
  Q false w18) (
  cond ((x67 : Int) != x64) (
  Q false w18) (
  LD [.sl, .sl, .sl] px1 w18 fun (x74_0 : Sl) (x74_1 : Sl) (x74_2 : Sl) =>
  Calls Tryd.prog F.l_toNetwork #[.agg #[x74_0.v, x74_1.v, x74_2.v]] w18 (Ret [.agg [.sl, .sl, .sl]] fun (x75_0 : Sl) (x75_1 : Sl) (x75_2 : Sl) w19 =>
  Calls Tryd.prog F.i_GreatestMatching #[.agg #[x75_0.v, x75_1.v, x75_2.v]] w19 (Ret [.at .sl, .at .bool] fun (x76_0 : Sl) (x76_1 : Bool) w20 =>
  Calls Tryd.prog F.l_eqIntS #[x76_0.v, x22_0.v] w20 (Ret [.at .bool] fun (x81 : Bool) w21 =>
  cond (!x81) (
  Q false w21) (
  cond (!(x76_1 == x22_1)) (
  Q false w21) (
  Calls Tryd.prog F.l_heldIntS #[x29_0.v, .int .i64 1] w21 (Ret [.at (.int .i64)] fun (x90_2 : Int) w23 =>
  cond (decide ((x90_2 : Int) < 0)) (
  Q false w23) (
  cond ((x90_2 : Int) != x64) (
  Q false w23) (
  Q true w23))))))))))))

def V_l_FnExactGreatestMatching_k2 (Q : Bool → World → Prop) (px1 : Addr) (x22_0 : Sl) (x22_1 : Bool) (px6 : Addr) (x29_0 : Sl) (x29_1 : Bool) (w10 : World) : Prop :=
  ∀ w11, Ext w10 w11 → w11.heap = w10.heap →
  LD [.sl, .sl, .sl] px6 w11 fun (x41_0 : Sl) (x41_1 : Sl) (x41_2 : Sl) =>
  LD [.sl, .sl, .sl] px1 w11 fun (x42_0 : Sl) (x42_1 : Sl) (x42_2 : Sl) =>
  Ext w11 w11 ∧ (
  Calls Tryd.prog F.l_toNetwork #[.agg #[x42_0.v, x42_1.v, x42_2.v]] w11 (Ret [.agg [.sl, .sl, .sl]] fun (x43_0 : Sl) (x43_1 : Sl) (x43_2 : Sl) w12 =>
  Ext w11 w12 ∧ (
  Calls Tryd.prog F.l_eqNetwork #[.agg #[x41_0.v, x41_1.v, x41_2.v], .agg #[x43_0.v, x43_1.v, x43_2.v]] w12 (Ret [.at .bool] fun (x44 : Bool) w13 =>
  Ext w11 w13 ∧ (
  cond (!x44) (
  Q false w13) (
  LD [.sl, .sl, .sl] px6 w13 fun (x46_0 : Sl) (x46_1 : Sl) (x46_2 : Sl) =>
  Calls Tryd.prog F.l_markNetwork #[.agg #[x46_0.v, x46_1.v, x46_2.v], .int .i64 1] w13 (Ret [.at (.int .i64)] fun (x48 : Int) w14 =>
  cond (decide ((x48 : Int) < 0)) (
  Q false w14) (
  Calls Tryd.prog F.l_eqIntS #[x29_0.v, x22_0.v] w14 (Ret [.at .bool] fun (x54 : Bool) w15 =>
  cond (!x54) (
  Q false w15) (
  cond (!(x29_1 == x22_1)) (
  Q false w15) (
  V_l_FnExactGreatestMatching_k5 Q px1 x22_0 x22_1 x29_0 w15)))))))))))

def V_l_FnExactGreatestMatching (Q : Bool → World → Prop) (x0_0 : Sl) (x0_1 : Sl) (x0_2 : Sl) (w : World) : Prop :=
  NEW T.t_l_Network #[x0_0.v, x0_1.v, x0_2.v] w fun (px1 : Addr) w1 =>
  LD [.sl, .sl, .sl] px1 w1 fun (x14_0 : Sl) (x14_1 : Sl) (x14_2 : Sl) =>
  Calls Tryd.prog F.l_szNetwork #[.agg #[x14_0.v, x14_1.v, x14_2.v], .int .i64 1048576] w1 (Ret [.at (.int .i64)] fun (x16 : Int) w2 =>
  cond (decide ((x16 : Int) < 0)) (
  Q true w2) (
  LD [.sl, .sl, .sl] px1 w2 fun (x20_0 : Sl) (x20_1 : Sl) (x20_2 : Sl) =>
  Calls Tryd.prog F.l_toNetwork #[.agg #[x20_0.v, x20_1.v, x20_2.v]] w2 (Ret [.agg [.sl, .sl, .sl]] fun (x21_0 : Sl) (x21_1 : Sl) (x21_2 : Sl) w3 =>
  Calls Tryd.prog F.s_GreatestMatching #[.agg #[x21_0.v, x21_1.v, x21_2.v]] w3 (Ret [.at .sl, .at .bool] fun (x22_0 : Sl) (x22_1 : Bool) w4 =>
  LD [.sl, .sl, .sl] px1 w4 fun (x25_0 : Sl) (x25_1 : Sl) (x25_2 : Sl) =>
  Calls Tryd.prog F.l_toNetwork #[.agg #[x25_0.v, x25_1.v, x25_2.v]] w4 (Ret [.agg [.sl, .sl, .sl]] fun (x26_0 : Sl) (x26_1 : Sl) (x26_2 : Sl) w5 =>
  NEW T.t_i_Network #[.slice none 0 0, .slice none 0 0, .slice none 0 0] w5 fun (px6 : Addr) w6 =>
  ST px6 0 [x26_0.v, x26_1.v, x26_2.v] w6 fun w7 =>
  LD [.sl, .sl, .sl] px6 w7 fun (x28_0 : Sl) (x28_1 : Sl) (x28_2 : Sl) =>
  Calls Tryd.prog F.i_GreatestMatching #[.agg #[x28_0.v, x28_1.v, x28_2.v]] w7 (Ret [.at .sl, .at .bool] fun (x29_0 : Sl) (x29_1 : Bool) w8 =>
  Calls Tryd.prog F.l_eqIntS #[x29_0.v, x22_0.v] w8 (Ret [.at .bool] fun (x34 : Bool) w9 =>
  cond (!x34) (
  Q false w9) (
  cond (!(x29_1 == x22_1)) (
  Q false w9) (
  V_l_FnExactGreatestMatching_k2 Q px1 x22_0 x22_1 px6 x29_0 x29_1 w9)))))))))

theorem C_l_FnExactGreatestMatching {Q : Bool → World → Prop} {x0_0 : Sl} {x0_1 : Sl} {x0_2 : Sl} {w : World} (h : V_l_FnExactGreatestMatching Q x0_0 x0_1 x0_2 w) : Calls Tryd.prog F.l_FnExactGreatestMatching #[.agg #[x0_0.v, x0_1.v, x0_2.v]] w (Ret [.at .bool] Q) :=
  mkC (hint := hint) (ann := annOf []) (args := [.agg #[x0_0.v, x0_1.v, x0_2.v]]) (rs := [.at .bool]) Tryd.func3 (by kernel_rfl) (by kernel_rfl) h

def V_l_szNetwork (Q : Int → World → Prop) (a_0 : Sl) (a_1 : Sl) (a_2 : Sl) (left : Int) (w : World) : Prop :=
  NEW T.t_l_Network #[a_0.v, a_1.v, a_2.v] w fun (p_a : Addr) w1 =>
  LD [.sl] (p_a.add 0) w1 fun (x6 : Sl) =>
  Calls Tryd.prog F.l_szEndSS #[x6.v, .int .i64 left] w1 (Ret [.at (.int .i64)] fun (x8 : Int) w2 =>
  cond (decide ((x8 : Int) < 0)) (
  Q (-1) w2) (
  LD [.sl] (p_a.add 1) w2 fun (x12 : Sl) =>
  Calls Tryd.prog F.l_szIntS #[x12.v, .int .i64 x8] w2 (Ret [.at (.int .i64)] fun (x14 : Int) w3 =>
  cond (decide ((x14 : Int) < 0)) (
  Q (-1) w3) (
  LD [.sl] (p_a.add 2) w3 fun (x18 : Sl) =>
  Calls Tryd.prog F.l_szIntS #[x18.v, .int .i64 x14] w3 (Ret [.at (.int .i64)] fun (x20 : Int) w4 =>
  cond (decide ((x20 : Int) < 0)) (
  Q (-1) w4) (
  Q x20 w4))))))

theorem C_l_szNetwork {Q : Int → World → Prop} {a_0 : Sl} {a_1 : Sl} {a_2 : Sl} {left : Int} {w : World} (h : V_l_szNetwork Q a_0 a_1 a_2 left w) : Calls Tryd.prog F.l_szNetwork #[.agg #[a_0.v, a_1.v, a_2.v], .int .i64 left] w (Ret [.at (.int .i64)] Q) :=
  mkC (hint := hint) (ann := annOf []) (args := [.agg #[a_0.v, a_1.v, a_2.v], .int .i64 left]) (rs := [.at (.int .i64)]) Tryd.func6 (by kernel_rfl) (by kernel_rfl) h

def V_s_GreatestMatching (Q : Sl → Bool → World → Prop) (n_0 : Sl) (n_1 : Sl) (n_2 : Sl) (w : World) : Prop :=
  NEW T.t_i_Network #[n_0.v, n_1.v, n_2.v] w fun (p_n : Addr) w1 =>
  LD [.sl, .sl, .sl] p_n w1 fun (x5_0 : Sl) (x5_1 : Sl) (x5_2 : Sl) =>
  Calls Tryd.prog F.s_neGood #[.agg #[x5_0.v, x5_1.v, x5_2.v]] w1 (Ret [.at .bool] fun (x6 : Bool) w2 =>
  cond (!x6) (
  Q (⟨none, 0, 0⟩) false w2) (
  LD [.sl] (p_n.add 0) w2 fun (x10 : Sl) =>
  cond (decide ((x10.len : Int) > 14)) (
  Q (⟨none, 0, 0⟩) false w2) (
  LD [.sl, .sl, .sl] p_n w2 fun (x14_0_2 : Sl) (x14_1_2 : Sl) (x14_2_2 : Sl) =>
  NEW T.t_s_mtSearch #[x14_0_2.v, x14_1_2.v, x14_2_2.v, .slice none 0 0, .int .i64 0] w2 fun (px16_2 : Addr) w6 =>
  LD [.sl, .sl, .sl] p_n w6 fun (x18_0_2 : Sl) (x18_1_2 : Sl) (x18_2_2 : Sl) =>
  Calls Tryd.prog F.s_mtFree #[.agg #[x18_0_2.v, x18_1_2.v, x18_2_2.v]] w6 (Ret [.at .sl] fun (x19_2 : Sl) w7 =>
  Calls Tryd.prog F.ptr_s_mtSearch_try #[.pointer (some px16_2), .int .i64 0, x19_2.v] w7 (Ret [] fun w8 =>
  LD [.sl] (px16_2.add 3) w8 fun (x24_2 : Sl) =>
  Q x24_2 true w8)))))

theorem C_s_GreatestMatching {Q : Sl → Bool → World → Prop} {n_0 : Sl} {n_1 : Sl} {n_2 : Sl} {w : World} (h : V_s_GreatestMatching Q n_0 n_1 n_2 w) : Calls Tryd.prog F.s_GreatestMatching #[.agg #[n_0.v, n_1.v, n_2.v]] w (Ret [.at .sl, .at .bool] Q) :=
  mkC (hint := hint) (ann := annOf []) (args := [.agg #[n_0.v, n_1.v, n_2.v]]) (rs := [.at .sl, .at .bool]) Tryd.func7 (by kernel_rfl) (by kernel_rfl) h

def V_l_toNetwork (Q : Sl → Sl → Sl → World → Prop) (a_0 : Sl) (a_1 : Sl) (a_2 : Sl) (w : World) : Prop :=
  NEW T.t_l_Network #[a_0.v, a_1.v, a_2.v] w fun (p_a : Addr) w1 =>
  NEW T.t_i_Network #[.slice none 0 0, .slice none 0 0, .slice none 0 0] w1 fun (px2 : Addr) w2 =>
  NEW T.t_i_Network #[.slice none 0 0, .slice none 0 0, .slice none 0 0] w2 fun (p_out : Addr) w3 =>
  LD [.sl] (p_a.add 0) w3 fun (x5 : Sl) =>
  Calls Tryd.prog F.l_toEndSS #[x5.v] w3 (Ret [.at .sl] fun (x6 : Sl) w4 =>
  ST (p_out.add 0) 0 [x6.v] w4 fun w5 =>
  LD [.sl] (p_a.add 1) w5 fun (x9 : Sl) =>
  Calls Tryd.prog F.l_toIntS #[x9.v] w5 (Ret [.at .sl] fun (x10 : Sl) w6 =>
  ST (p_out.add 1) 0 [x10.v] w6 fun w7 =>
  LD [.sl] (p_a.add 2) w7 fun (x13 : Sl) =>
  Calls Tryd.prog F.l_toIntS #[x13.v] w7 (Ret [.at .sl] fun (x14 : Sl) w8 =>
  ST (p_out.add 2) 0 [x14.v] w8 fun w9 =>
  LD [.sl, .sl, .sl] p_out w9 fun (x16_0 : Sl) (x16_1 : Sl) (x16_2 : Sl) =>
  ST px2 0 [x16_0.v, x16_1.v, x16_2.v] w9 fun w10 =>
  LD [.sl, .sl, .sl] px2 w10 fun (r0_0 : Sl) (r0_1 : Sl) (r0_2 : Sl) =>
  Q r0_0 r0_1 r0_2 w10)))

theorem C_l_toNetwork {Q : Sl → Sl → Sl → World → Prop} {a_0 : Sl} {a_1 : Sl} {a_2 : Sl} {w : World} (h : V_l_toNetwork Q a_0 a_1 a_2 w) : Calls Tryd.prog F.l_toNetwork #[.agg #[a_0.v, a_1.v, a_2.v]] w (Ret [.agg [.sl, .sl, .sl]] Q) :=
  mkC (hint := hint) (ann := annOf []) (args := [.agg #[a_0.v, a_1.v, a_2.v]]) (rs := [.agg [.sl, .sl, .sl]]) Tryd.func8 (by kernel_rfl) (by kernel_rfl) h

def V_i_GreatestMatching_k5 (I7 : Int → World → Prop) (m7 : Int → World → Nat) (x34 : Int) (w10 : World) (w34 : World) : Prop :=
  I7 (IntKind.i64.wrap (x34 + 1)) w34 ∧ m7 (IntKind.i64.wrap (x34 + 1)) w34 < m7 x34 w10

def V_i_GreatestMatching_k7 (I7 : Int → World → Prop) (m7 : Int → World → Nat) (w10 : World) (px4 : Addr) (x25 : Sl) (px6 : Addr) (x34 : Int) (x38 : Sl) (px9 : Addr) (w25 : World) : Prop :=
  Calls Tryd.prog F.slices_IndexFunc_sl_i_End_i_End #[x38.v, .func (.func F.i_GreatestMatching_1) #[] #[.pointer (some px6), .pointer (some px4), .pointer (some px9)]] w25 (Ret [.at (.int .i64)] fun (x58 : Int) w26 =>
  IX x38 x58 2 fun (px61 : Addr) =>
  LD [.int .i64, .int .i64] px61 w26 fun (x62_0 : Int) (x62_1 : Int) =>
  NEW T.t_i_End #[.int .i64 0, .int .i64 0] w26 fun (px11 : Addr) w27 =>
  ST px11 0 [.int .i64 x62_0, .int .i64 x62_1] w27 fun w28 =>
  ∀ w29, Ext w28 w29 → w29.heap = w28.heap → ∃ (D29 : Nat → Prop),
  ¬ D29 (px11.add 0).block ∧ (
  LD [.int .i64] (px11.add 0) w29 fun (x67 : Int) =>
  ¬ D29 (px11.add 1).block ∧ (
  LD [.int .i64] (px11.add 1) w29 fun (x70 : Int) =>
  IX x25 x34 1 fun (px71 : Addr) =>
  Chg w29 w29 D29 ∧ (
  ST px71 0 [.int .i64 x58] w29 fun w30 =>
  Chg w29 w30 D29 ∧ (
  IX x25 x67 1 fun (px72 : Addr) =>
  ST px72 0 [.int .i64 x70] w30 fun w31 =>
  ∀ w32, Ext w31 w32 → w32.heap = w31.heap → ∃ (D32 : Nat → Prop),
  ¬ D32 px6.block ∧ (
  LD [.int .u64] px6 w32 fun (x73 : Int) =>
  Chg w32 w32 D32 ∧ (
  LD [.int .i64] (px11.add 0) w32 fun (x75 : Int) =>
  Chg w32 w32 D32 ∧ (
  (0 : Int) ≤ x75 ∧ (
  Chg w32 w32 D32 ∧ (
  ST px6 0 [.int .u64 (bitAndNot .u64 x73 (shlI .u64 1 x75))] w32 fun w33 =>
  V_i_GreatestMatching_k5 I7 m7 x34 w10 w33))))))))))

def V_i_GreatestMatching_k1 (Q : Sl → Bool → World → Prop) (px1 : Addr) (w3 : World) : Prop :=
  LD [.sl, .sl, .sl] px1 w3 fun (x21_0 : Sl) (x21_1 : Sl) (x21_2 : Sl) =>
  RUN Tryd.prog (.at .mp) (Instr.makeMap T.t_map_uint_int none) w3 fun (x22 : Nat) w4 =>
  NEW T.t_i_matcher #[.slice none 0 0, .slice none 0 0, .slice none 0 0, .map none] w4 fun (px4 : Addr) w5 =>
  ST px4 0 [x21_0.v, x21_1.v, x21_2.v, .map (some x22)] w5 fun w6 =>
  LD [.sl, .sl, .sl] px1 w6 fun (x24_0 : Sl) (x24_1 : Sl) (x24_2 : Sl) =>
  Calls Tryd.prog F.i_noMatching #[.agg #[x24_0.v, x24_1.v, x24_2.v]] w6 (Ret [.at .sl] fun (x25 : Sl) w7 =>
  LD [.sl] (px1.add 0) w7 fun (x27 : Sl) =>
  (0 : Int) ≤ x27.len ∧ (
  NEW T.t_uint #[.int .u64 0] w7 fun (px6 : Addr) w8 =>
  ST px6 0 [.int .u64 (IntKind.u64.wrap ((shlI .u64 1 x27.len) - 1))] w8 fun w9 =>
  LD [.sl] (px1.add 0) w9 fun (x32 : Sl) =>
  ∃ (I7 : Int → World → Prop) (m7 : Int → World → Nat), I7 0 w9 ∧ ∀ (x34 : Int) w10, I7 x34 w10 → ∀ _ _ _ _ _ _ _ _ _ _ _ _ _ _ _ _ _ _ _ _ _ _ _ _ _ _ _ _ _ _ _ _ _ _ _ _ _ _ _ _ _ _ _ _ _ _ _ _ _ : Value,
  cond (decide ((x34 : Int) < x32.len)) (
  IX x32 x34 1 fun (px37 : Addr) =>
  LD [.sl] px37 w10 fun (x38 : Sl) =>
  LD [.int .u64] px6 w10 fun (x39 : Int) =>
  (0 : Int) ≤ x34 ∧ (
  cond (((bitAnd .u64 (shrI .u64 x39 x34) 1) : Int) == 0) (
  V_i_GreatestMatching_k5 I7 m7 x34 w10 w10) (
  LD [.sl, .sl, .sl, .mp] px4 w10 fun (x44_0 : Sl) (x44_1 : Sl) (x44_2 : Sl) (x44_3 : Nat) =>
  LD [.int .u64] px6 w10 fun (x45 : Int) =>
  Calls Tryd.prog F.i_matcher_size #[.agg #[x44_0.v, x44_1.v, x44_2.v, .map (some x44_3)], .int .u64 x45] w10 (Ret [.at (.int .i64)] fun (x46 : Int) w11 =>
  NEW T.t_int #[.int .i64 0] w11 fun (px9 : Addr) w12 =>
  ST px9 0 [.int .i64 x46] w12 fun w13 =>
  ∀ w14, Ext w13 w14 → w14.heap = w13.heap → ∃ (D14 : Nat → Prop),
  ¬ D14 px6.block ∧ (
  LD [.int .u64] px6 w14 fun (x47 : Int) =>
  Chg w14 w14 D14 ∧ (
  (0 : Int) ≤ x34 ∧ (
  Chg w14 w14 D14 ∧ (
  ST px6 0 [.int .u64 (bitAndNot .u64 x47 (shlI .u64 1 x34))] w14 fun w15 =>
  ∀ w16, Ext w15 w16 → w16.heap = w15.heap →
  (
  LD [.sl, .sl, .sl, .mp] px4 w16 fun (x51_0 : Sl) (x51_1 : Sl) (x51_2 : Sl) (x51_3 : Nat) =>
  (
  LD [.int .u64] px6 w16 fun (x52 : Int) =>
  (
  Calls Tryd.prog F.i_matcher_size #[.agg #[x51_0.v, x51_1.v, x51_2.v, .map (some x51_3)], .int .u64 x52] w16 (Ret [.at (.int .i64)] fun (x53 : Int) w17 =>
  LD [.int .i64] px9 w17 fun (x54 : Int) =>
  cond ((x53 : Int) == x54) (
  V_i_GreatestMatching_k5 I7 m7 x34 w10 w17) (
  V_i_GreatestMatching_k7 I7 m7 w10 px4 x25 px6 x34 x38 px9 w17))) ∧ (
  LD [.int .i64] px9 w16 fun (x54_2 : Int) =>
  Calls Tryd.prog F.i_matcher_size #[.agg #[x51_0.v, x51_1.v, x51_2.v, .map (some x51_3)], .int .u64 x52] w16 (Ret [.at (.int .i64)] fun (x53_2 : Int) w18 =>
  cond ((x53_2 : Int) == x54_2) (
  V_i_GreatestMatching_k5 I7 m7 x34 w10 w18) (
  V_i_GreatestMatching_k7 I7 m7 w10 px4 x25 px6 x34 x38 px9 w18)))) ∧ (
  LD [.int .i64] px9 w16 fun (x54_3 : Int) =>
  LD [.int .u64] px6 w16 fun (x52_2 : Int) =>
  Calls Tryd.prog F.i_matcher_size #[.agg #[x51_0.v, x51_1.v, x51_2.v, .map (some x51_3)], .int .u64 x52_2] w16 (Ret [.at (.int .i64)] fun (x53_3 : Int) w19 =>
  cond ((x53_3 : Int) == x54_3) (
  V_i_GreatestMatching_k5 I7 m7 x34 w10 w19) (
  V_i_GreatestMatching_k7 I7 m7 w10 px4 x25 px6 x34 x38 px9 w19)))) ∧ (
  LD [.int .u64] px6 w16 fun (x52_3 : Int) =>
  (
  LD [.sl, .sl, .sl, .mp] px4 w16 fun (x51_0_2 : Sl) (x51_1_2 : Sl) (x51_2_2 : Sl) (x51_3_2 : Nat) =>
  (
  Calls Tryd.prog F.i_matcher_size #[.agg #[x51_0_2.v, x51_1_2.v, x51_2_2.v, .map (some x51_3_2)], .int .u64 x52_3] w16 (Ret [.at (.int .i64)] fun (x53_4 : Int) w20 =>
  LD [.int .i64] px9 w20 fun (x54_4 : Int) =>
  cond ((x53_4 : Int) == x54_4) (
  V_i_GreatestMatching_k5 I7 m7 x34 w10 w20) (
  V_i_GreatestMatching_k7 I7 m7 w10 px4 x25 px6 x34 x38 px9 w20))) ∧ (
  LD [.int .i64] px9 w16 fun (x54_5 : Int) =>
  Calls Tryd.prog F.i_matcher_size #[.agg #[x51_0_2.v, x51_1_2.v, x51_2_2.v, .map (some x51_3_2)], .int .u64 x52_3] w16 (Ret [.at (.int .i64)] fun (x53_5 : Int) w21 =>
  cond ((x53_5 : Int) == x54_5) (
  V_i_GreatestMatching_k5 I7 m7 x34 w10 w21) (
  V_i_GreatestMatching_k7 I7 m7 w10 px4 x25 px6 x34 x38 px9 w21)))) ∧ (
  LD [.int .i64] px9 w16 fun (x54_6 : Int) =>
  LD [.sl, .sl, .sl, .mp] px4 w16 fun (x51_0_3 : Sl) (x51_1_3 : Sl) (x51_2_3 : Sl) (x51_3_3 : Nat) =>
  Calls Tryd.prog F.i_matcher_size #[.agg #[x51_0_3.v, x51_1_3.v, x51_2_3.v, .map (some x51_3_3)], .int .u64 x52_3] w16 (Ret [.at (.int .i64)] fun (x53_6 : Int) w22 =>
  cond ((x53_6 : Int) == x54_6) (
  V_i_GreatestMatching_k5 I7 m7 x34 w10 w22) (
  V_i_GreatestMatching_k7 I7 m7 w10 px4 x25 px6 x34 x38 px9 w22)))) ∧ (
  LD [.int .i64] px9 w16 fun (x54_7 : Int) =>
  (
  LD [.sl, .sl, .sl, .mp] px4 w16 fun (x51_0_4 : Sl) (x51_1_4 : Sl) (x51_2_4 : Sl) (x51_3_4 : Nat) =>
  LD [.int .u64] px6 w16 fun (x52_4 : Int) =>
  Calls Tryd.prog F.i_matcher_size #[.agg #[x51_0_4.v, x51_1_4.v, x51_2_4.v, .map (some x51_3_4)], .int .u64 x52_4] w16 (Ret [.at (.int .i64)] fun (x53_7 : Int) w23 =>
  cond ((x53_7 : Int) == x54_7) (
  V_i_GreatestMatching_k5 I7 m7 x34 w10 w23) (
  V_i_GreatestMatching_k7 I7 m7 w10 px4 x25 px6 x34 x38 px9 w23))) ∧ (
  LD [.int .u64] px6 w16 fun (x52_5 : Int) =>
  LD [.sl, .sl, .sl, .mp] px4 w16 fun (x51_0_5 : Sl) (x51_1_5 : Sl) (x51_2_5 : Sl) (x51_3_5 : Nat) =>
  Calls Tryd.prog F.i_matcher_size #[.agg #[x51_0_5.v, x51_1_5.v, x51_2_5.v, .map (some x51_3_5)], .int .u64 x52_5] w16 (Ret [.at (.int .i64)] fun (x53_8 : Int) w24 =>
  cond ((x53_8 : Int) == x54_7) (
  V_i_GreatestMatching_k5 I7 m7 x34 w10 w24) (
  V_i_GreatestMatching_k7 I7 m7 w10 px4 x25 px6 x34 x38 px9 w24)))))))))))) (
  Q x25 true w10)))

def V_i_GreatestMatching (Q : Sl → Bool → World → Prop) (x0_0 : Sl) (x0_1 : Sl) (x0_2 : Sl) (w : World) : Prop :=
  NEW T.t_i_Network #[x0_0.v, x0_1.v, x0_2.v] w fun (px1 : Addr) w1 =>
  LD [.sl, .sl, .sl] px1 w1 fun (x12_0 : Sl) (x12_1 : Sl) (x12_2 : Sl) =>
  Calls Tryd.prog F.i_IsNetwork #[.agg #[x12_0.v, x12_1.v, x12_2.v]] w1 (Ret [.at .bool] fun (x13 : Bool) w2 =>
  cond (!x13) (
  Q (⟨none, 0, 0⟩) false w2) (
  LD [.sl] (px1.add 0) w2 fun (x17 : Sl) =>
  cond (decide ((x17.len : Int) > 14)) (
  Q (⟨none, 0, 0⟩) false w2) (
  V_i_GreatestMatching_k1 Q px1 w2)))

theorem C_i_GreatestMatching {Q : Sl → Bool → World → Prop} {x0_0 : Sl} {x0_1 : Sl} {x0_2 : Sl} {w : World} (h : V_i_GreatestMatching Q x0_0 x0_1 x0_2 w) : Calls Tryd.prog F.i_GreatestMatching #[.agg #[x0_0.v, x0_1.v, x0_2.v]] w (Ret [.at .sl, .at .bool] Q) :=
  mkC (hint := hint) (ann := annOf [(7, ⟨[(34, .int .i64)], [7, 8, 9, 10, 11, 35, 36, 37, 38, 39, 40, 41, 42, 43, 44, 45, 46, 47, 48, 49, 50, 51, 52, 53, 54, 55, 56, 57, 58, 59, 60, 61, 62, 63, 64, 65, 66, 67, 68, 69, 70, 71, 72, 73, 74, 75, 76, 77, 78]⟩), (600012, ⟨[], [1]⟩)]) (args := [.agg #[x0_0.v, x0_1.v, x0_2.v]]) (rs := [.at .sl, .at .bool]) Tryd.func9 (by kernel_rfl) (by kernel_rfl) h

def V_l_eqIntS (Q : Bool → World → Prop) (a : Sl) (b : Sl) (w : World) : Prop :=
  cond ((a.len : Int) != b.len) (
  Q false w) (
  ∃ (I4 : Int → World → Prop) (m4 : Int → World → Nat), I4 0 w ∧ ∀ (i : Int) w1, I4 i w1 → ∀ _ _ _ _ _ _ _ _ _ _ _ _ _ _ _ _ : Value,
  cond (decide ((i : Int) < a.len)) (
  IX a i 1 fun (px19 : Addr) =>
  LD [.int .i64] px19 w1 fun (x20 : Int) =>
  IX b i 1 fun (px23 : Addr) =>
  LD [.int .i64] px23 w1 fun (x24 : Int) =>
  ∀ w2, Ext w1 w2 →
  cond ((x20 : Int) != x24) (
  Q false w2) (
  I4 (IntKind.i64.wrap (i + 1)) w2 ∧ m4 (IntKind.i64.wrap (i + 1)) w2 < m4 i w1)) (
  Q true w1))

theorem C_l_eqIntS {Q : Bool → World → Prop} {a : Sl} {b : Sl} {w : World} (h : V_l_eqIntS Q a b w) : Calls Tryd.prog F.l_eqIntS #[a.v, b.v] w (Ret [.at .bool] Q) :=
  mkC (hint := hint) (ann := annOf [(4, ⟨[(5, .int .i64)], [4, 11, 12, 13, 14, 15, 16, 17, 18, 19, 20, 21, 22, 23, 24, 25]⟩)]) (args := [a.v, b.v]) (rs := [.at .bool]) Tryd.func10 (by kernel_rfl) (by kernel_rfl) h

def V_l_eqNetwork (Q : Bool → World → Prop) (a_0 : Sl) (a_1 : Sl) (a_2 : Sl) (b_0 : Sl) (b_1 : Sl) (b_2 : Sl) (w : World) : Prop :=
  NEW T.t_i_Network #[a_0.v, a_1.v, a_2.v] w fun (p_a : Addr) w1 =>
  NEW T.t_i_Network #[b_0.v, b_1.v, b_2.v] w1 fun (p_b : Addr) w2 =>
  LD [.sl] (p_a.add 0) w2 fun (x6 : Sl) =>
  LD [.sl] (p_b.add 0) w2 fun (x8 : Sl) =>
  Calls Tryd.prog F.l_eqEndSS #[x6.v, x8.v] w2 (Ret [.at .bool] fun (x9 : Bool) w3 =>
  cond (!x9) (
  Q false w3) (
  LD [.sl] (p_a.add 1) w3 fun (x12 : Sl) =>
  LD [.sl] (p_b.add 1) w3 fun (x14 : Sl) =>
  Calls Tryd.prog F.l_eqIntS #[x12.v, x14.v] w3 (Ret [.at .bool] fun (x15 : Bool) w4 =>
  cond (!x15) (
  Q false w4) (
  LD [.sl] (p_a.add 2) w4 fun (x18 : Sl) =>
  LD [.sl] (p_b.add 2) w4 fun (x20 : Sl) =>
  Calls Tryd.prog F.l_eqIntS #[x18.v, x20.v] w4 (Ret [.at .bool] fun (x21 : Bool) w5 =>
  cond (!x21) (
  Q false w5) (
  Q true w5))))))

theorem C_l_eqNetwork {Q : Bool → World → Prop} {a_0 : Sl} {a_1 : Sl} {a_2 : Sl} {b_0 : Sl} {b_1 : Sl} {b_2 : Sl} {w : World} (h : V_l_eqNetwork Q a_0 a_1 a_2 b_0 b_1 b_2 w) : Calls Tryd.prog F.l_eqNetwork #[.agg #[a_0.v, a_1.v, a_2.v], .agg #[b_0.v, b_1.v, b_2.v]] w (Ret [.at .bool] Q) :=
  mkC (hint := hint) (ann := annOf []) (args := [.agg #[a_0.v, a_1.v, a_2.v], .agg #[b_0.v, b_1.v, b_2.v]]) (rs := [.at .bool]) Tryd.func11 (by kernel_rfl) (by kernel_rfl) h

def V_l_markNetwork (Q : Int → World → Prop) (a_0 : Sl) (a_1 : Sl) (a_2 : Sl) (k : Int) (w : World) : Prop :=
  NEW T.t_i_Network #[a_0.v, a_1.v, a_2.v] w fun (p_a : Addr) w1 =>
  LD [.sl] (p_a.add 0) w1 fun (x6 : Sl) =>
  Calls Tryd.prog F.l_markEndSS #[x6.v, .int .i64 k] w1 (Ret [.at (.int .i64)] fun (x8 : Int) w2 =>
  LD [.sl] (p_a.add 1) w2 fun (x10 : Sl) =>
  Calls Tryd.prog F.l_markIntS #[x10.v, .int .i64 x8] w2 (Ret [.at (.int .i64)] fun (x12 : Int) w3 =>
  LD [.sl] (p_a.add 2) w3 fun (x14 : Sl) =>
  Calls Tryd.prog F.l_markIntS #[x14.v, .int .i64 x12] w3 (Ret [.at (.int .i64)] fun (x16 : Int) w4 =>
  Q x16 w4)))

theorem C_l_markNetwork {Q : Int → World → Prop} {a_0 : Sl} {a_1 : Sl} {a_2 : Sl} {k : Int} {w : World} (h : V_l_markNetwork Q a_0 a_1 a_2 k w) : Calls Tryd.prog F.l_markNetwork #[.agg #[a_0.v, a_1.v, a_2.v], .int .i64 k] w (Ret [.at (.int .i64)] Q) :=
  mkC (hint := hint) (ann := annOf []) (args := [.agg #[a_0.v, a_1.v, a_2.v], .int .i64 k]) (rs := [.at (.int .i64)]) Tryd.func12 (by kernel_rfl) (by kernel_rfl) h

def V_l_markIntS (Q : Int → World → Prop) (a : Sl) (k : Int) (w : World) : Prop :=
  ∃ (I2 : Int → Int → World → Prop) (m2 : Int → Int → World → Nat), I2 k 0 w ∧ ∀ (k_2 : Int) (i : Int) w1, I2 k_2 i w1 → ∀ _ _ _ _ _ _ _ _ _ _ _ _ : Value,
  cond (decide ((i : Int) < a.len)) (
  IX a i 1 fun (px15 : Addr) =>
  ST px15 0 [.int .i64 k_2] w1 fun w2 =>
  I2 (IntKind.i64.wrap (k_2 + 1)) (IntKind.i64.wrap (i + 1)) w2 ∧ m2 (IntKind.i64.wrap (k_2 + 1)) (IntKind.i64.wrap (i + 1)) w2 < m2 k_2 i w1) (
  Q k_2 w1)

theorem C_l_markIntS {Q : Int → World → Prop} {a : Sl} {k : Int} {w : World} (h : V_l_markIntS Q a k w) : Calls Tryd.prog F.l_markIntS #[a.v, .int .i64 k] w (Ret [.at (.int .i64)] Q) :=
  mkC (hint := hint) (ann := annOf [(2, ⟨[(1, .int .i64), (5, .int .i64)], [6, 7, 8, 9, 10, 11, 12, 13, 14, 15, 16, 17]⟩)]) (args := [a.v, .int .i64 k]) (rs := [.at (.int .i64)]) Tryd.func13 (by kernel_rfl) (by kernel_rfl) h

def V_l_heldIntS (Q : Int → World → Prop) (a : Sl) (k : Int) (w : World) : Prop :=
  ∃ (I2 : Int → Int → World → Prop) (m2 : Int → Int → World → Nat), I2 k 0 w ∧ ∀ (k_2 : Int) (i : Int) w1, I2 k_2 i w1 → ∀ _ _ _ _ _ _ _ _ _ _ _ _ _ _ _ : Value,
  cond (decide ((i : Int) < a.len)) (
  IX a i 1 fun (px14 : Addr) =>
  LD [.int .i64] px14 w1 fun (x15 : Int) =>
  cond ((x15 : Int) != k_2) (
  Q (-1) w1) (
  I2 (IntKind.i64.wrap (k_2 + 1)) (IntKind.i64.wrap (i + 1)) w1 ∧ m2 (IntKind.i64.wrap (k_2 + 1)) (IntKind.i64.wrap (i + 1)) w1 < m2 k_2 i w1)) (
  Q k_2 w1)

theorem C_l_heldIntS {Q : Int → World → Prop} {a : Sl} {k : Int} {w : World} (h : V_l_heldIntS Q a k w) : Calls Tryd.prog F.l_heldIntS #[a.v, .int .i64 k] w (Ret [.at (.int .i64)] Q) :=
  mkC (hint := hint) (ann := annOf [(2, ⟨[(1, .int .i64), (5, .int .i64)], [4, 6, 7, 8, 9, 10, 11, 12, 13, 14, 15, 16, 17, 18, 19]⟩)]) (args := [a.v, .int .i64 k]) (rs := [.at (.int .i64)]) Tryd.func14 (by kernel_rfl) (by kernel_rfl) h

def V_l_szEndSS (Q : Int → World → Prop) (a : Sl) (left : Int) (w : World) : Prop :=
  cond (decide (((IntKind.i64.wrap (left - a.len)) : Int) < 0)) (
  Q (-1) w) (
  ∃ (I5 : Int → Int → World → Prop) (m5 : Int → Int → World → Nat), I5 (IntKind.i64.wrap (left - a.len)) 0 w ∧ ∀ (left_2 : Int) (i : Int) w1, I5 left_2 i w1 → ∀ _ _ _ _ _ _ _ _ _ _ _ _ _ _ _ : Value,
  cond (decide ((i : Int) < a.len)) (
  IX a i 1 fun (px20 : Addr) =>
  LD [.sl] px20 w1 fun (x21 : Sl) =>
  Calls Tryd.prog F.l_szEndS #[x21.v, .int .i64 left_2] w1 (Ret [.at (.int .i64)] fun (x23 : Int) w2 =>
  cond (decide ((x23 : Int) < 0)) (
  Q (-1) w2) (
  I5 x23 (IntKind.i64.wrap (i + 1)) w2 ∧ m5 x23 (IntKind.i64.wrap (i + 1)) w2 < m5 left_2 i w1))) (
  Q left_2 w1))

theorem C_l_szEndSS {Q : Int → World → Prop} {a : Sl} {left : Int} {w : World} (h : V_l_szEndSS Q a left w) : Calls Tryd.prog F.l_szEndSS #[a.v, .int .i64 left] w (Ret [.at (.int .i64)] Q) :=
  mkC (hint := hint) (ann := annOf [(5, ⟨[(1, .int .i64), (5, .int .i64)], [4, 12, 13, 14, 15, 16, 17, 18, 19, 20, 21, 22, 23, 24, 25]⟩)]) (args := [a.v, .int .i64 left]) (rs := [.at (.int .i64)]) Tryd.func20 (by kernel_rfl) (by kernel_rfl) h

def V_l_szIntS (Q : Int → World → Prop) (a : Sl) (left : Int) (w : World) : Prop :=
  cond (decide (((IntKind.i64.wrap (left - a.len)) : Int) < 0)) (
  Q (-1) w) (
  Q (IntKind.i64.wrap (left - a.len)) w)

theorem C_l_szIntS {Q : Int → World → Prop} {a : Sl} {left : Int} {w : World} (h : V_l_szIntS Q a left w) : Calls Tryd.prog F.l_szIntS #[a.v, .int .i64 left] w (Ret [.at (.int .i64)] Q) :=
  mkC (hint := hint) (ann := annOf []) (args := [a.v, .int .i64 left]) (rs := [.at (.int .i64)]) Tryd.func21 (by kernel_rfl) (by kernel_rfl) h

def V_s_neGood_k1 (Q : Bool → World → Prop) (px1 : Addr) (w5 : World) : Prop :=
  LD [.sl] (px1.add 0) w5 fun (x37 : Sl) =>
  ∃ (I4 : Int → World → Prop) (m4 : Int → World → Nat), I4 0 w5 ∧ ∀ (x39 : Int) w6, I4 x39 w6 → ∀ _ _ _ _ _ _ _ _ _ _ _ _ _ _ _ _ _ _ _ _ _ _ _ _ _ _ _ _ _ _ _ _ _ _ _ _ _ _ _ _ _ _ _ _ _ _ _ _ _ _ _ _ _ _ _ _ _ _ _ : Value,
  cond (decide ((x39 : Int) < x37.len)) (
  IX x37 x39 1 fun (px42 : Addr) =>
  LD [.sl] px42 w6 fun (x43 : Sl) =>
  cond (decide ((x43.len : Int) > 6)) (
  Q false w6) (
  ∃ (I9 : Int → World → Prop) (m9 : Int → World → Nat), I9 0 w6 ∧ ∀ (x49 : Int) w7, I9 x49 w7 → ∀ _ _ _ _ _ _ _ _ _ _ _ _ _ _ _ _ _ _ _ _ _ _ _ _ _ _ _ _ _ _ _ _ _ _ _ _ _ _ _ _ _ _ _ _ _ _ : Value,
  cond (decide ((x49 : Int) < x43.len)) (
  IX x43 x49 2 fun (px52 : Addr) =>
  LD [.int .i64, .int .i64] px52 w7 fun (x53_0 : Int) (x53_1 : Int) =>
  NEW T.t_i_End #[.int .i64 0, .int .i64 0] w7 fun (px6 : Addr) w8 =>
  ST px6 0 [.int .i64 x53_0, .int .i64 x53_1] w8 fun w9 =>
  LD [.int .i64] (px6.add 0) w9 fun (x55 : Int) =>
  LD [.sl] (px1.add 0) w9 fun (x57 : Sl) =>
  QCALL Tryd.prog F.s_l1In #[.int .i64 x55, .int .i64 0, .int .i64 (IntKind.i64.wrap (x57.len - 1))] w9 [.at .bool] fun (x60 : Bool) =>
  cond (!x60) (
  ∀ w10, Ext w9 w10 →
  Q false w10) (
  LD [.int .i64] (px6.add 1) w9 fun (x64 : Int) =>
  LD [.sl] (px1.add 0) w9 fun (x66 : Sl) =>
  LD [.int .i64] (px6.add 0) w9 fun (x68 : Int) =>
  IX x66 x68 1 fun (px69 : Addr) =>
  LD [.sl] px69 w9 fun (x70 : Sl) =>
  QCALL Tryd.prog F.s_l1In #[.int .i64 x64, .int .i64 0, .int .i64 (IntKind.i64.wrap (x70.len - 1))] w9 [.at .bool] fun (x73 : Bool) =>
  cond (!x73) (
  ∀ w11, Ext w9 w11 →
  Q false w11) (
  LD [.sl] (px1.add 0) w9 fun (x78 : Sl) =>
  LD [.int .i64] (px6.add 0) w9 fun (x80 : Int) =>
  IX x78 x80 1 fun (px81 : Addr) =>
  LD [.sl] px81 w9 fun (x82 : Sl) =>
  LD [.int .i64] (px6.add 1) w9 fun (x84 : Int) =>
  IX x82 x84 2 fun (px85 : Addr) =>
  LD [.int .i64, .int .i64] px85 w9 fun (x86_0 : Int) (x86_1 : Int) =>
  AEQ Tryd.prog (do eqGuard .neq T.t_i_End (.tmp 86) (.tmp 89) (.agg #[.int .i64 x86_0, .int .i64 x86_1]) (.agg #[.int .i64 x39, .int .i64 x49]); binOp .neq T.t_i_End (.agg #[.int .i64 x86_0, .int .i64 x86_1]) (.agg #[.int .i64 x39, .int .i64 x49])) fun (x90 : Bool) =>
  ∀ w12, Ext w9 w12 →
  cond x90 (
  Q false w12) (
  I9 (IntKind.i64.wrap (x49 + 1)) w12 ∧ m9 (IntKind.i64.wrap (x49 + 1)) w12 < m9 x49 w7)))) (
  I4 (IntKind.i64.wrap (x39 + 1)) w7 ∧ m4 (IntKind.i64.wrap (x39 + 1)) w7 < m4 x39 w6))) (
  Q true w6)

def V_s_neGood (Q : Bool → World → Prop) (x0_0 : Sl) (x0_1 : Sl) (x0_2 : Sl) (w : World) : Prop :=
  NEW T.t_i_Network #[x0_0.v, x0_1.v, x0_2.v] w fun (px1 : Addr) w1 =>
  LD [.sl] (px1.add 0) w1 fun (x8 : Sl) =>
  Calls Tryd.prog F.s_l1In #[.int .i64 x8.len, .int .i64 1, .int .i64 40] w1 (Ret [.at .bool] fun (x10 : Bool) w2 =>
  cond (!x10) (
  Q false w2) (
  LD [.sl] (px1.add 1) w2 fun (x14 : Sl) =>
  LD [.sl] (px1.add 0) w2 fun (x16 : Sl) =>
  Calls Tryd.prog F.s_neIds #[x14.v, .int .i64 x16.len] w2 (Ret [.at .bool] fun (x18 : Bool) w3 =>
  cond (!x18) (
  Q false w3) (
  LD [.sl] (px1.add 2) w3 fun (x23 : Sl) =>
  LD [.sl] (px1.add 0) w3 fun (x26 : Sl) =>
  cond ((x23.len : Int) != x26.len) (
  Q false w3) (
  LD [.sl] (px1.add 2) w3 fun (x32 : Sl) =>
  Calls Tryd.prog F.s_l1All #[x32.v, .int .i64 0, .int .i64 9] w3 (Ret [.at .bool] fun (x33 : Bool) w4 =>
  cond (!x33) (
  Q false w4) (
  V_s_neGood_k1 Q px1 w4)))))))

theorem C_s_neGood {Q : Bool → World → Prop} {x0_0 : Sl} {x0_1 : Sl} {x0_2 : Sl} {w : World} (h : V_s_neGood Q x0_0 x0_1 x0_2 w) : Calls Tryd.prog F.s_neGood #[.agg #[x0_0.v, x0_1.v, x0_2.v]] w (Ret [.at .bool] Q) :=
  mkC (hint := hint) (ann := annOf [(4, ⟨[(39, .int .i64)], [2, 3, 4, 5, 6, 40, 41, 42, 43, 44, 45, 46, 47, 48, 49, 50, 51, 52, 53, 54, 55, 56, 57, 58, 59, 60, 61, 62, 63, 64, 65, 66, 67, 68, 69, 70, 71, 72, 73, 74, 75, 76, 77, 78, 79, 80, 81, 82, 83, 84, 85, 86, 87, 88, 89, 90, 91, 92, 93]⟩), (9, ⟨[(49, .int .i64)], [2, 5, 6, 50, 51, 52, 53, 54, 55, 56, 57, 58, 59, 60, 61, 62, 63, 64, 65, 66, 67, 68, 69, 70, 71, 72, 73, 74, 75, 76, 77, 78, 79, 80, 81, 82, 83, 84, 85, 86, 87, 88, 89, 90, 91, 92]⟩)]) (args := [.agg #[x0_0.v, x0_1.v, x0_2.v]]) (rs := [.at .bool]) Tryd.func22 (by kernel_rfl) (by kernel_rfl) h

def V_ptr_s_mtSearch_try (Q : World → Prop) (x0 : Addr) (x1 : Int) (x2 : Sl) (w : World) : Prop :=
  cond ((x1 : Int) == x2.len) (
  Calls Tryd.prog F.s_mtSize #[x2.v] w (Ret [.at (.int .i64)] fun (x14 : Int) w1 =>
  LD [.sl] (x0.add 3) w1 fun (x18 : Sl) =>
  cond ((x18.len : Int) == 0) (
  ST (x0.add 3) 0 [x2.v] w1 fun w2 =>
  ST (x0.add 4) 0 [.int .i64 x14] w2 fun w3 =>
  Q w3) (
  LD [.int .i64] (x0.add 4) w1 fun (x26 : Int) =>
  cond (decide ((x14 : Int) > x26)) (
  ST (x0.add 3) 0 [x2.v] w1 fun w4 =>
  ST (x0.add 4) 0 [.int .i64 x14] w4 fun w5 =>
  Q w5) (
  Q w1)))) (
  IX x2 x1 1 fun (px39 : Addr) =>
  LD [.int .i64] px39 w fun (x40 : Int) =>
  cond (decide ((x40 : Int) ≥ 0)) (
  Calls Tryd.prog F.ptr_s_mtSearch_try #[.pointer (some x0), .int .i64 (IntKind.i64.wrap (x1 + 1)), x2.v] w (Ret [] fun w6 =>
  Q w6)) (
  Calls Tryd.prog F.ptr_s_mtSearch_try #[.pointer (some x0), .int .i64 (IntKind.i64.wrap (x1 + 1)), x2.v] w (Ret [] fun w7 =>
  LD [.sl] ((x0.add 0).add 0) w7 fun (x56 : Sl) =>
  IX x56 x1 1 fun (px58 : Addr) =>
  LD [.sl] px58 w7 fun (x59 : Sl) =>
  ∃ (I9 : Int → World → Prop) (m9 : Int → World → Nat), I9 0 w7 ∧ ∀ (x61 : Int) w8, I9 x61 w8 → ∀ _ _ _ _ _ _ _ _ _ _ _ _ _ _ _ _ _ _ _ _ _ _ _ _ _ _ _ _ _ _ _ : Value,
  cond (decide ((x61 : Int) < x59.len)) (
  IX x59 x61 2 fun (px64 : Addr) =>
  LD [.int .i64, .int .i64] px64 w8 fun (x65_0 : Int) (x65_1 : Int) =>
  NEW T.t_i_End #[.int .i64 0, .int .i64 0] w8 fun (px8 : Addr) w9 =>
  ST px8 0 [.int .i64 x65_0, .int .i64 x65_1] w9 fun w10 =>
  LD [.int .i64] (px8.add 0) w10 fun (x67 : Int) =>
  cond (decide ((x67 : Int) > x1)) (
  LD [.int .i64] (px8.add 0) w10 fun (x73 : Int) =>
  IX x2 x73 1 fun (px74 : Addr) =>
  LD [.int .i64] px74 w10 fun (x75 : Int) =>
  cond (decide ((x75 : Int) < 0)) (
  LD [.sl, .sl, .sl] (x0.add 0) w10 fun (x84_0 : Sl) (x84_1 : Sl) (x84_2 : Sl) =>
  Calls Tryd.prog F.s_mtTake #[.agg #[x84_0.v, x84_1.v, x84_2.v], x2.v, .int .i64 x1, .int .i64 x61] w10 (Ret [.at .sl] fun (x88 : Sl) w11 =>
  Calls Tryd.prog F.ptr_s_mtSearch_try #[.pointer (some x0), .int .i64 (IntKind.i64.wrap (x1 + 1)), x88.v] w11 (Ret [] fun w12 =>
  I9 (IntKind.i64.wrap (x61 + 1)) w12 ∧ m9 (IntKind.i64.wrap (x61 + 1)) w12 < m9 x61 w8))) (
  I9 (IntKind.i64.wrap (x61 + 1)) w10 ∧ m9 (IntKind.i64.wrap (x61 + 1)) w10 < m9 x61 w8)) (
  I9 (IntKind.i64.wrap (x61 + 1)) w10 ∧ m9 (IntKind.i64.wrap (x61 + 1)) w10 < m9 x61 w8)) (
  Q w8))))

theorem C_ptr_s_mtSearch_try {Q : World → Prop} {x0 : Addr} {x1 : Int} {x2 : Sl} {w : World} (h : V_ptr_s_mtSearch_try Q x0 x1 x2 w) : Calls Tryd.prog F.ptr_s_mtSearch_try #[.pointer (some x0), .int .i64 x1, x2.v] w (Ret [] Q) :=
  mkC (hint := hint) (ann := annOf [(9, ⟨[(61, .int .i64)], [7, 8, 62, 63, 64, 65, 66, 67, 68, 69, 70, 71, 72, 73, 74, 75, 76, 77, 78, 79, 80, 81, 82, 83, 84, 85, 86, 87, 88, 89, 90]⟩)]) (args := [.pointer (some x0), .int .i64 x1, x2.v]) (rs := []) Tryd.func23 (by kernel_rfl) (by kernel_rfl) h

def V_s_mtFree (Q : Sl → World → Prop) (n_0 : Sl) (n_1 : Sl) (n_2 : Sl) (w : World) : Prop :=
  NEW T.t_i_Network #[n_0.v, n_1.v, n_2.v] w fun (p_n : Addr) w1 =>
  LD [.sl] (p_n.add 0) w1 fun (x4 : Sl) =>
  Calls Tryd.prog F.s_roFree #[.int .i64 x4.len] w1 (Ret [.at .sl] fun (x6 : Sl) w2 =>
  Q x6 w2)

theorem C_s_mtFree {Q : Sl → World → Prop} {n_0 : Sl} {n_1 : Sl} {n_2 : Sl} {w : World} (h : V_s_mtFree Q n_0 n_1 n_2 w) : Calls Tryd.prog F.s_mtFree #[.agg #[n_0.v, n_1.v, n_2.v]] w (Ret [.at .sl] Q) :=
  mkC (hint := hint) (ann := annOf []) (args := [.agg #[n_0.v, n_1.v, n_2.v]]) (rs := [.at .sl]) Tryd.func24 (by kernel_rfl) (by kernel_rfl) h

def V_l_toEndSS (Q : Sl → World → Prop) (a : Sl) (w : World) : Prop :=
  RUN Tryd.prog (.at .sl) (Instr.makeSlice T.t_sl_sl_i_End (.int .i64 a.len) (.int .i64 a.len)) w fun (x7 : Sl) w1 =>
  ∃ (I3 : Int → World → Prop) (m3 : Int → World → Nat), I3 0 w1 ∧ ∀ (i : Int) w2, I3 i w2 → ∀ _ _ _ _ _ _ _ _ _ _ _ _ _ _ : Value,
  cond (decide ((i : Int) < a.len)) (
  IX a i 1 fun (px18 : Addr) =>
  LD [.sl] px18 w2 fun (x19 : Sl) =>
  Calls Tryd.prog F.l_toEndS #[x19.v] w2 (Ret [.at .sl] fun (x20 : Sl) w3 =>
  IX x7 i 1 fun (px21 : Addr) =>
  ST px21 0 [x20.v] w3 fun w4 =>
  I3 (IntKind.i64.wrap (i + 1)) w4 ∧ m3 (IntKind.i64.wrap (i + 1)) w4 < m3 i w2)) (
  Q x7 w2)

theorem C_l_toEndSS {Q : Sl → World → Prop} {a : Sl} {w : World} (h : V_l_toEndSS Q a w) : Calls Tryd.prog F.l_toEndSS #[a.v] w (Ret [.at .sl] Q) :=
  mkC (hint := hint) (ann := annOf [(3, ⟨[(4, .int .i64)], [8, 9, 10, 11, 12, 13, 14, 15, 16, 17, 18, 19, 20, 21]⟩)]) (args := [a.v]) (rs := [.at .sl]) Tryd.func25 (by kernel_rfl) (by kernel_rfl) h

def V_l_toIntS (Q : Sl → World → Prop) (a : Sl) (w : World) : Prop :=
  RUN Tryd.prog (.at .sl) (Instr.makeSlice T.t_sl_int (.int .i64 a.len) (.int .i64 a.len)) w fun (x7 : Sl) w1 =>
  ∃ (I3 : Int → World → Prop) (m3 : Int → World → Nat), I3 0 w1 ∧ ∀ (i : Int) w2, I3 i w2 → ∀ _ _ _ _ _ _ _ _ _ _ _ _ _ : Value,
  cond (decide ((i : Int) < a.len)) (
  IX a i 1 fun (px18 : Addr) =>
  LD [.int .i64] px18 w2 fun (x19 : Int) =>
  IX x7 i 1 fun (px20 : Addr) =>
  ST px20 0 [.int .i64 x19] w2 fun w3 =>
  I3 (IntKind.i64.wrap (i + 1)) w3 ∧ m3 (IntKind.i64.wrap (i + 1)) w3 < m3 i w2) (
  Q x7 w2)

theorem C_l_toIntS {Q : Sl → World → Prop} {a : Sl} {w : World} (h : V_l_toIntS Q a w) : Calls Tryd.prog F.l_toIntS #[a.v] w (Ret [.at .sl] Q) :=
  mkC (hint := hint) (ann := annOf [(3, ⟨[(4, .int .i64)], [8, 9, 10, 11, 12, 13, 14, 15, 16, 17, 18, 19, 20]⟩)]) (args := [a.v]) (rs := [.at .sl]) Tryd.func26 (by kernel_rfl) (by kernel_rfl) h

def V_i_IsNetwork_k1 (Q : Bool → World → Prop) (px1 : Addr) (w5 : World) : Prop :=
  LD [.sl] (px1.add 0) w5 fun (x31 : Sl) =>
  ∃ (I4 : Int → World → Prop) (m4 : Int → World → Nat), I4 0 w5 ∧ ∀ (x33 : Int) w6, I4 x33 w6 → ∀ _ _ _ _ _ _ _ _ _ _ _ _ _ _ _ _ _ _ _ _ _ _ _ _ _ _ _ _ _ _ _ _ _ _ _ _ _ _ _ _ _ _ _ _ : Value,
  cond (decide ((x33 : Int) < x31.len)) (
  IX x31 x33 1 fun (px36 : Addr) =>
  LD [.sl] px36 w6 fun (x37 : Sl) =>
  cond (decide ((x37.len : Int) > 6)) (
  Q false w6) (
  ∃ (I9 : Int → World → Prop) (m9 : Int → World → Nat), I9 0 w6 ∧ ∀ (x43 : Int) w7, I9 x43 w7 → ∀ _ _ _ _ _ _ _ _ _ _ _ _ _ _ _ _ _ _ _ _ _ _ _ _ _ _ _ _ _ _ _ : Value,
  cond (decide ((x43 : Int) < x37.len)) (
  IX x37 x43 2 fun (px46 : Addr) =>
  LD [.int .i64, .int .i64] px46 w7 fun (x47_0 : Int) (x47_1 : Int) =>
  NEW T.t_i_End #[.int .i64 0, .int .i64 0] w7 fun (px6 : Addr) w8 =>
  ST px6 0 [.int .i64 x47_0, .int .i64 x47_1] w8 fun w9 =>
  LD [.sl, .sl, .sl] px1 w9 fun (x48_0 : Sl) (x48_1 : Sl) (x48_2 : Sl) =>
  LD [.int .i64] (px6.add 0) w9 fun (x50 : Int) =>
  LD [.int .i64] (px6.add 1) w9 fun (x52 : Int) =>
  QCALL Tryd.prog F.i_Network_hasPort #[.agg #[x48_0.v, x48_1.v, x48_2.v], .int .i64 x50, .int .i64 x52] w9 [.at .bool] fun (x53 : Bool) =>
  cond (!x53) (
  ∀ w10, Ext w9 w10 →
  Q false w10) (
  LD [.sl] (px1.add 0) w9 fun (x57 : Sl) =>
  LD [.int .i64] (px6.add 0) w9 fun (x59 : Int) =>
  IX x57 x59 1 fun (px60 : Addr) =>
  LD [.sl] px60 w9 fun (x61 : Sl) =>
  LD [.int .i64] (px6.add 1) w9 fun (x63 : Int) =>
  IX x61 x63 2 fun (px64 : Addr) =>
  LD [.int .i64, .int .i64] px64 w9 fun (x65_0 : Int) (x65_1 : Int) =>
  AEQ Tryd.prog (do eqGuard .neq T.t_i_End (.tmp 65) (.tmp 68) (.agg #[.int .i64 x65_0, .int .i64 x65_1]) (.agg #[.int .i64 x33, .int .i64 x43]); binOp .neq T.t_i_End (.agg #[.int .i64 x65_0, .int .i64 x65_1]) (.agg #[.int .i64 x33, .int .i64 x43])) fun (x69 : Bool) =>
  ∀ w11, Ext w9 w11 →
  cond x69 (
  Q false w11) (
  I9 (IntKind.i64.wrap (x43 + 1)) w11 ∧ m9 (IntKind.i64.wrap (x43 + 1)) w11 < m9 x43 w7))) (
  I4 (IntKind.i64.wrap (x33 + 1)) w7 ∧ m4 (IntKind.i64.wrap (x33 + 1)) w7 < m4 x33 w6))) (
  Q true w6)

def V_i_IsNetwork (Q : Bool → World → Prop) (x0_0 : Sl) (x0_1 : Sl) (x0_2 : Sl) (w : World) : Prop :=
  NEW T.t_i_Network #[x0_0.v, x0_1.v, x0_2.v] w fun (px1 : Addr) w1 =>
  LD [.sl] (px1.add 0) w1 fun (x8 : Sl) =>
  Calls Tryd.prog F.i_within #[.int .i64 x8.len, .int .i64 1, .int .i64 40] w1 (Ret [.at .bool] fun (x10 : Bool) w2 =>
  cond (!x10) (
  Q false w2) (
  LD [.sl] (px1.add 1) w2 fun (x14 : Sl) =>
  LD [.sl] (px1.add 0) w2 fun (x16 : Sl) =>
  Calls Tryd.prog F.i_idsOk #[x14.v, .int .i64 x16.len] w2 (Ret [.at .bool] fun (x18 : Bool) w3 =>
  cond (!x18) (
  Q false w3) (
  LD [.sl] (px1.add 2) w3 fun (x23 : Sl) =>
  LD [.sl] (px1.add 0) w3 fun (x25 : Sl) =>
  Calls Tryd.prog F.i_inputsOk #[x23.v, .int .i64 x25.len] w3 (Ret [.at .bool] fun (x27 : Bool) w4 =>
  cond (!x27) (
  Q false w4) (
  V_i_IsNetwork_k1 Q px1 w4))))))

theorem C_i_IsNetwork {Q : Bool → World → Prop} {x0_0 : Sl} {x0_1 : Sl} {x0_2 : Sl} {w : World} (h : V_i_IsNetwork Q x0_0 x0_1 x0_2 w) : Calls Tryd.prog F.i_IsNetwork #[.agg #[x0_0.v, x0_1.v, x0_2.v]] w (Ret [.at .bool] Q) :=
  mkC (hint := hint) (ann := annOf [(4, ⟨[(33, .int .i64)], [2, 3, 4, 5, 6, 34, 35, 36, 37, 38, 39, 40, 41, 42, 43, 44, 45, 46, 47, 48, 49, 50, 51, 52, 53, 54, 55, 56, 57, 58, 59, 60, 61, 62, 63, 64, 65, 66, 67, 68, 69, 70, 71, 72]⟩), (9, ⟨[(43, .int .i64)], [2, 5, 6, 44, 45, 46, 47, 48, 49, 50, 51, 52, 53, 54, 55, 56, 57, 58, 59, 60, 61, 62, 63, 64, 65, 66, 67, 68, 69, 70, 71]⟩)]) (args := [.agg #[x0_0.v, x0_1.v, x0_2.v]]) (rs := [.at .bool]) Tryd.func27 (by kernel_rfl) (by kernel_rfl) h

def V_i_noMatching (Q : Sl → World → Prop) (n_0 : Sl) (n_1 : Sl) (n_2 : Sl) (w : World) : Prop :=
  NEW T.t_i_Network #[n_0.v, n_1.v, n_2.v] w fun (p_n : Addr) w1 =>
  RUN Tryd.prog (.at .sl) (Instr.buildSlice T.t_sl_int 1 #[(0, .int .i64 (-1))]) w1 fun (x3 : Sl) w2 =>
  LD [.sl] (p_n.add 0) w2 fun (x5 : Sl) =>
  Calls Tryd.prog F.slices_Repeat_sl_int_int #[x3.v, .int .i64 x5.len] w2 (Ret [.at .sl] fun (x7 : Sl) w3 =>
  Q x7 w3)

theorem C_i_noMatching {Q : Sl → World → Prop} {n_0 : Sl} {n_1 : Sl} {n_2 : Sl} {w : World} (h : V_i_noMatching Q n_0 n_1 n_2 w) : Calls Tryd.prog F.i_noMatching #[.agg #[n_0.v, n_1.v, n_2.v]] w (Ret [.at .sl] Q) :=
  mkC (hint := hint) (ann := annOf []) (args := [.agg #[n_0.v, n_1.v, n_2.v]]) (rs := [.at .sl]) Tryd.func28 (by kernel_rfl) (by kernel_rfl) h

def V_i_matcher_size (Q : Int → World → Prop) (x0_0 : Sl) (x0_1 : Sl) (x0_2 : Sl) (x0_3 : Nat) (x1 : Int) (w : World) : Prop :=
  NEW T.t_i_matcher #[x0_0.v, x0_1.v, x0_2.v, .map (some x0_3)] w fun (px2 : Addr) w1 =>
  cond ((x1 : Int) == 0) (
  Q 0 w1) (
  LD [.mp] (px2.add 3) w1 fun (x16 : Nat) =>
  RUNR Tryd.prog [.at (.int .i64), .at .bool] (Instr.lookup T.t_map_uint_int (.map (some x16)) (.int .u64 x1) true) w1 fun (x18_0 : Int) (x18_1 : Bool) w2 =>
  cond x18_1 (
  Q x18_0 w2) (
  Calls Tryd.prog F.math_bits_TrailingZeros #[.int .u64 x1] w2 (Ret [.at (.int .i64)] fun (x24 : Int) w3 =>
  (0 : Int) ≤ x24 ∧ (
  LD [.sl, .sl, .sl, .mp] px2 w3 fun (x29_0 : Sl) (x29_1 : Sl) (x29_2 : Sl) (x29_3 : Nat) =>
  Calls Tryd.prog F.i_matcher_size #[.agg #[x29_0.v, x29_1.v, x29_2.v, .map (some x29_3)], .int .u64 (bitAndNot .u64 x1 (shlI .u64 1 x24))] w3 (Ret [.at (.int .i64)] fun (x31 : Int) w4 =>
  LD [.sl] ((px2.add 0).add 0) w4 fun (x34 : Sl) =>
  IX x34 x24 1 fun (px36 : Addr) =>
  LD [.sl] px36 w4 fun (x37 : Sl) =>
  ∃ (I10 : Int → Int → World → Prop) (m10 : Int → Int → World → Nat), I10 x31 0 w4 ∧ ∀ (x9 : Int) (x39 : Int) w5, I10 x9 x39 w5 → ∀ _ _ _ _ _ _ _ _ _ _ _ _ _ _ _ _ _ _ _ _ _ : Value,
  cond (decide ((x39 : Int) < x37.len)) (
  IX x37 x39 2 fun (px41 : Addr) =>
  LD [.int .i64, .int .i64] px41 w5 fun (x42_0 : Int) (x42_1 : Int) =>
  NEW T.t_i_End #[.int .i64 0, .int .i64 0] w5 fun (px11 : Addr) w6 =>
  ST px11 0 [.int .i64 x42_0, .int .i64 x42_1] w6 fun w7 =>
  LD [.int .i64] (px11.add 0) w7 fun (x45 : Int) =>
  (0 : Int) ≤ x45 ∧ (
  cond (((bitAnd .u64 (shrI .u64 (bitAndNot .u64 x1 (shlI .u64 1 x24)) x45) 1) : Int) == 1) (
  ∀ w8, Ext w7 w8 → w8.heap = w7.heap →
  (
  LD [.sl, .sl, .sl, .mp] px2 w8 fun (x50_0 : Sl) (x50_1 : Sl) (x50_2 : Sl) (x50_3 : Nat) =>
  LD [.int .i64] (px11.add 0) w8 fun (x53 : Int) =>
  (0 : Int) ≤ x53 ∧ (
  Calls Tryd.prog F.i_matcher_size #[.agg #[x50_0.v, x50_1.v, x50_2.v, .map (some x50_3)], .int .u64 (bitAndNot .u64 (bitAndNot .u64 x1 (shlI .u64 1 x24)) (shlI .u64 1 x53))] w8 (Ret [.at (.int .i64)] fun (x56 : Int) w9 =>
  RUN Tryd.prog (.at (.int .i64)) (bsem .max #[T.t_int, T.t_int] T.t_int #[.int .i64 x9, .int .i64 (IntKind.i64.wrap (1 + x56))]) w9 fun (x58 : Int) w10 =>
  I10 x58 (IntKind.i64.wrap (x39 + 1)) w10 ∧ m10 x58 (IntKind.i64.wrap (x39 + 1)) w10 < m10 x9 x39 w5))) ∧ (
  LD [.int .i64] (px11.add 0) w8 fun (x53_2 : Int) =>
  (0 : Int) ≤ x53_2 ∧ (
  LD [.sl, .sl, .sl, .mp] px2 w8 fun (x50_0_2 : Sl) (x50_1_2 : Sl) (x50_2_2 : Sl) (x50_3_2 : Nat) =>
  Calls Tryd.prog F.i_matcher_size #[.agg #[x50_0_2.v, x50_1_2.v, x50_2_2.v, .map (some x50_3_2)], .int .u64 (bitAndNot .u64 (bitAndNot .u64 x1 (shlI .u64 1 x24)) (shlI .u64 1 x53_2))] w8 (Ret [.at (.int .i64)] fun (x56_2 : Int) w11 =>
  RUN Tryd.prog (.at (.int .i64)) (bsem .max #[T.t_int, T.t_int] T.t_int #[.int .i64 x9, .int .i64 (IntKind.i64.wrap (1 + x56_2))]) w11 fun (x58_2 : Int) w12 =>
  I10 x58_2 (IntKind.i64.wrap (x39 + 1)) w12 ∧ m10 x58_2 (IntKind.i64.wrap (x39 + 1)) w12 < m10 x9 x39 w5)))) (
  I10 x9 (IntKind.i64.wrap (x39 + 1)) w7 ∧ m10 x9 (IntKind.i64.wrap (x39 + 1)) w7 < m10 x9 x39 w5))) (
  LD [.mp] (px2.add 3) w5 fun (x61 : Nat) =>
  RUN Tryd.prog (.at .val) (do Instr.mapUpdate T.t_map_uint_int (.map (some x61)) (.int .u64 x1) (.int .i64 x9); pure undef) w5 fun (x : Value) w13 =>
  Q x9 w13))))))

theorem C_i_matcher_size {Q : Int → World → Prop} {x0_0 : Sl} {x0_1 : Sl} {x0_2 : Sl} {x0_3 : Nat} {x1 : Int} {w : World} (h : V_i_matcher_size Q x0_0 x0_1 x0_2 x0_3 x1 w) : Calls Tryd.prog F.i_matcher_size #[.agg #[x0_0.v, x0_1.v, x0_2.v, .map (some x0_3)], .int .u64 x1] w (Ret [.at (.int .i64)] Q) :=
  mkC (hint := hint) (ann := annOf [(10, ⟨[(9, .int .i64), (39, .int .i64)], [11, 40, 41, 42, 43, 44, 45, 46, 47, 48, 49, 50, 51, 52, 53, 54, 55, 56, 57, 58, 59]⟩), (600013, ⟨[], [1]⟩)]) (args := [.agg #[x0_0.v, x0_1.v, x0_2.v, .map (some x0_3)], .int .u64 x1]) (rs := [.at (.int .i64)]) Tryd.func29 (by kernel_rfl) (by kernel_rfl) h

def V_slices_IndexFunc_sl_i_End_i_End (Q : Int → World → Prop) (s : Sl) (f : Value) (w : World) : Prop :=
  ∃ (I2 : Int → World → Prop) (m2 : Int → World → Nat), I2 0 w ∧ ∀ (x8 : Int) w1, I2 x8 w1 → ∀ _ _ _ _ _ _ _ _ _ _ _ _ : Value,
  cond (decide ((x8 : Int) < s.len)) (
  IX s x8 2 fun (px14 : Addr) =>
  LD [.int .i64, .int .i64] px14 w1 fun (x15_0 : Int) (x15_1 : Int) =>
  CALLV Tryd.prog f #[.agg #[.int .i64 x15_0, .int .i64 x15_1]] w1 (Ret [.at .bool] fun (x16 : Bool) w2 =>
  cond x16 (
  Q x8 w2) (
  I2 (IntKind.i64.wrap (x8 + 1)) w2 ∧ m2 (IntKind.i64.wrap (x8 + 1)) w2 < m2 x8 w1))) (
  Q (-1) w1)

theorem C_slices_IndexFunc_sl_i_End_i_End {Q : Int → World → Prop} {s : Sl} {f : Value} {w : World} (h : V_slices_IndexFunc_sl_i_End_i_End Q s f w) : Calls Tryd.prog F.slices_IndexFunc_sl_i_End_i_End #[s.v, f] w (Ret [.at (.int .i64)] Q) :=
  mkC (hint := hint) (ann := annOf [(2, ⟨[(8, .int .i64)], [4, 5, 9, 10, 11, 12, 13, 14, 15, 16, 17, 18]⟩)]) (args := [s.v, f]) (rs := [.at (.int .i64)]) Tryd.func30 (by kernel_rfl) (by kernel_rfl) h

def V_i_GreatestMatching_1_k1 (Q : Bool → World → Prop) (x5 : Bool) (w63 : World) : Prop :=
  Q x5 w63

def V_i_GreatestMatching_1 (Q : Bool → World → Prop) (e_0 : Int) (e_1 : Int) (cap0 : Addr) (cap1 : Addr) (cap2 : Addr) (w : World) : Prop :=
  NEW T.t_i_End #[.int .i64 e_0, .int .i64 e_1] w fun (p_e : Addr) w1 =>
  ∀ w2, Ext w1 w2 → w2.heap = w1.heap →
  (
  LD [.int .u64] cap0 w2 fun (x6 : Int) =>
  LD [.int .i64] (p_e.add 0) w2 fun (x8 : Int) =>
  (0 : Int) ≤ x8 ∧ (
  cond (((bitAnd .u64 (shrI .u64 x6 x8) 1) : Int) == 1) (
  (
  LD [.sl, .sl, .sl, .mp] cap1 w2 fun (x13_0 : Sl) (x13_1 : Sl) (x13_2 : Sl) (x13_3 : Nat) =>
  (
  LD [.int .u64] cap0 w2 fun (x14 : Int) =>
  (
  LD [.int .i64] (p_e.add 0) w2 fun (x16 : Int) =>
  (0 : Int) ≤ x16 ∧ (
  (
  Calls Tryd.prog F.i_matcher_size #[.agg #[x13_0.v, x13_1.v, x13_2.v, .map (some x13_3)], .int .u64 (bitAndNot .u64 x14 (shlI .u64 1 x16))] w2 (Ret [.at (.int .i64)] fun (x19 : Int) w3 =>
  LD [.int .i64] cap2 w3 fun (x21 : Int) =>
  V_i_GreatestMatching_1_k1 Q (((IntKind.i64.wrap (1 + x19)) : Int) == x21) w3)) ∧ (
  LD [.int .i64] cap2 w2 fun (x21_2 : Int) =>
  Calls Tryd.prog F.i_matcher_size #[.agg #[x13_0.v, x13_1.v, x13_2.v, .map (some x13_3)], .int .u64 (bitAndNot .u64 x14 (shlI .u64 1 x16))] w2 (Ret [.at (.int .i64)] fun (x19_2 : Int) w4 =>
  V_i_GreatestMatching_1_k1 Q (((IntKind.i64.wrap (1 + x19_2)) : Int) == x21_2) w4)))) ∧ (
  LD [.int .i64] cap2 w2 fun (x21_3 : Int) =>
  LD [.int .i64] (p_e.add 0) w2 fun (x16_2 : Int) =>
  (0 : Int) ≤ x16_2 ∧ (
  Calls Tryd.prog F.i_matcher_size #[.agg #[x13_0.v, x13_1.v, x13_2.v, .map (some x13_3)], .int .u64 (bitAndNot .u64 x14 (shlI .u64 1 x16_2))] w2 (Ret [.at (.int .i64)] fun (x19_3 : Int) w5 =>
  V_i_GreatestMatching_1_k1 Q (((IntKind.i64.wrap (1 + x19_3)) : Int) == x21_3) w5)))) ∧ (
  LD [.int .i64] (p_e.add 0) w2 fun (x16_3 : Int) =>
  (0 : Int) ≤ x16_3 ∧ (
  (
  LD [.int .u64] cap0 w2 fun (x14_2 : Int) =>
  (
  Calls Tryd.prog F.i_matcher_size #[.agg #[x13_0.v, x13_1.v, x13_2.v, .map (some x13_3)], .int .u64 (bitAndNot .u64 x14_2 (shlI .u64 1 x16_3))] w2 (Ret [.at (.int .i64)] fun (x19_4 : Int) w6 =>
  LD [.int .i64] cap2 w6 fun (x21_4 : Int) =>
  V_i_GreatestMatching_1_k1 Q (((IntKind.i64.wrap (1 + x19_4)) : Int) == x21_4) w6)) ∧ (
  LD [.int .i64] cap2 w2 fun (x21_5 : Int) =>
  Calls Tryd.prog F.i_matcher_size #[.agg #[x13_0.v, x13_1.v, x13_2.v, .map (some x13_3)], .int .u64 (bitAndNot .u64 x14_2 (shlI .u64 1 x16_3))] w2 (Ret [.at (.int .i64)] fun (x19_5 : Int) w7 =>
  V_i_GreatestMatching_1_k1 Q (((IntKind.i64.wrap (1 + x19_5)) : Int) == x21_5) w7))) ∧ (
  LD [.int .i64] cap2 w2 fun (x21_6 : Int) =>
  LD [.int .u64] cap0 w2 fun (x14_3 : Int) =>
  Calls Tryd.prog F.i_matcher_size #[.agg #[x13_0.v, x13_1.v, x13_2.v, .map (some x13_3)], .int .u64 (bitAndNot .u64 x14_3 (shlI .u64 1 x16_3))] w2 (Ret [.at (.int .i64)] fun (x19_6 : Int) w8 =>
  V_i_GreatestMatching_1_k1 Q (((IntKind.i64.wrap (1 + x19_6)) : Int) == x21_6) w8)))) ∧ (
  LD [.int .i64] cap2 w2 fun (x21_7 : Int) =>
  (
  LD [.int .u64] cap0 w2 fun (x14_4 : Int) =>
  LD [.int .i64] (p_e.add 0) w2 fun (x16_4 : Int) =>
  (0 : Int) ≤ x16_4 ∧ (
  Calls Tryd.prog F.i_matcher_size #[.agg #[x13_0.v, x13_1.v, x13_2.v, .map (some x13_3)], .int .u64 (bitAndNot .u64 x14_4 (shlI .u64 1 x16_4))] w2 (Ret [.at (.int .i64)] fun (x19_7 : Int) w9 =>
  V_i_GreatestMatching_1_k1 Q (((IntKind.i64.wrap (1 + x19_7)) : Int) == x21_7) w9))) ∧ (
  LD [.int .i64] (p_e.add 0) w2 fun (x16_5 : Int) =>
  (0 : Int) ≤ x16_5 ∧ (
  LD [.int .u64] cap0 w2 fun (x14_5 : Int) =>
  Calls Tryd.prog F.i_matcher_size #[.agg #[x13_0.v, x13_1.v, x13_2.v, .map (some x13_3)], .int .u64 (bitAndNot .u64 x14_5 (shlI .u64 1 x16_5))] w2 (Ret [.at (.int .i64)] fun (x19_8 : Int) w10 =>
  V_i_GreatestMatching_1_k1 Q (((IntKind.i64.wrap (1 + x19_8)) : Int) == x21_7) w10))))) ∧ (
  LD [.int .u64] cap0 w2 fun (x14_6 : Int) =>
  (
  LD [.sl, .sl, .sl, .mp] cap1 w2 fun (x13_0_2 : Sl) (x13_1_2 : Sl) (x13_2_2 : Sl) (x13_3_2 : Nat) =>
  (
  LD [.int .i64] (p_e.add 0) w2 fun (x16_6 : Int) =>
  (0 : Int) ≤ x16_6 ∧ (
  (
  Calls Tryd.prog F.i_matcher_size #[.agg #[x13_0_2.v, x13_1_2.v, x13_2_2.v, .map (some x13_3_2)], .int .u64 (bitAndNot .u64 x14_6 (shlI .u64 1 x16_6))] w2 (Ret [.at (.int .i64)] fun (x19_9 : Int) w11 =>
  LD [.int .i64] cap2 w11 fun (x21_8 : Int) =>
  V_i_GreatestMatching_1_k1 Q (((IntKind.i64.wrap (1 + x19_9)) : Int) == x21_8) w11)) ∧ (
  LD [.int .i64] cap2 w2 fun (x21_9 : Int) =>
  Calls Tryd.prog F.i_matcher_size #[.agg #[x13_0_2.v, x13_1_2.v, x13_2_2.v, .map (some x13_3_2)], .int .u64 (bitAndNot .u64 x14_6 (shlI .u64 1 x16_6))] w2 (Ret [.at (.int .i64)] fun (x19_10 : Int) w12 =>
  V_i_GreatestMatching_1_k1 Q (((IntKind.i64.wrap (1 + x19_10)) : Int) == x21_9) w12)))) ∧ (
  LD [.int .i64] cap2 w2 fun (x21_10 : Int) =>
  LD [.int .i64] (p_e.add 0) w2 fun (x16_7 : Int) =>
  (0 : Int) ≤ x16_7 ∧ (
  Calls Tryd.prog F.i_matcher_size #[.agg #[x13_0_2.v, x13_1_2.v, x13_2_2.v, .map (some x13_3_2)], .int .u64 (bitAndNot .u64 x14_6 (shlI .u64 1 x16_7))] w2 (Ret [.at (.int .i64)] fun (x19_11 : Int) w13 =>
  V_i_GreatestMatching_1_k1 Q (((IntKind.i64.wrap (1 + x19_11)) : Int) == x21_10) w13)))) ∧ (
  LD [.int .i64] (p_e.add 0) w2 fun (x16_8 : Int) =>
  (0 : Int) ≤ x16_8 ∧ (
  (
  LD [.sl, .sl, .sl, .mp] cap1 w2 fun (x13_0_3 : Sl) (x13_1_3 : Sl) (x13_2_3 : Sl) (x13_3_3 : Nat) =>
  (
  Calls Tryd.prog F.i_matcher_size #[.agg #[x13_0_3.v, x13_1_3.v, x13_2_3.v, .map (some x13_3_3)], .int .u64 (bitAndNot .u64 x14_6 (shlI .u64 1 x16_8))] w2 (Ret [.at (.int .i64)] fun (x19_12 : Int) w14 =>
  LD [.int .i64] cap2 w14 fun (x21_11 : Int) =>
  V_i_GreatestMatching_1_k1 Q (((IntKind.i64.wrap (1 + x19_12)) : Int) == x21_11) w14)) ∧ (
  LD [.int .i64] cap2 w2 fun (x21_12 : Int) =>
  Calls Tryd.prog F.i_matcher_size #[.agg #[x13_0_3.v, x13_1_3.v, x13_2_3.v, .map (some x13_3_3)], .int .u64 (bitAndNot .u64 x14_6 (shlI .u64 1 x16_8))] w2 (Ret [.at (.int .i64)] fun (x19_13 : Int) w15 =>
  V_i_GreatestMatching_1_k1 Q (((IntKind.i64.wrap (1 + x19_13)) : Int) == x21_12) w15))) ∧ (
  LD [.int .i64] cap2 w2 fun (x21_13 : Int) =>
  LD [.sl, .sl, .sl, .mp] cap1 w2 fun (x13_0_4 : Sl) (x13_1_4 : Sl) (x13_2_4 : Sl) (x13_3_4 : Nat) =>
  Calls Tryd.prog F.i_matcher_size #[.agg #[x13_0_4.v, x13_1_4.v, x13_2_4.v, .map (some x13_3_4)], .int .u64 (bitAndNot .u64 x14_6 (shlI .u64 1 x16_8))] w2 (Ret [.at (.int .i64)] fun (x19_14 : Int) w16 =>
  V_i_GreatestMatching_1_k1 Q (((IntKind.i64.wrap (1 + x19_14)) : Int) == x21_13) w16)))) ∧ (
  LD [.int .i64] cap2 w2 fun (x21_14 : Int) =>
  (
  LD [.sl, .sl, .sl, .mp] cap1 w2 fun (x13_0_5 : Sl) (x13_1_5 : Sl) (x13_2_5 : Sl) (x13_3_5 : Nat) =>
  LD [.int .i64] (p_e.add 0) w2 fun (x16_9 : Int) =>
  (0 : Int) ≤ x16_9 ∧ (
  Calls Tryd.prog F.i_matcher_size #[.agg #[x13_0_5.v, x13_1_5.v, x13_2_5.v, .map (some x13_3_5)], .int .u64 (bitAndNot .u64 x14_6 (shlI .u64 1 x16_9))] w2 (Ret [.at (.int .i64)] fun (x19_15 : Int) w17 =>
  V_i_GreatestMatching_1_k1 Q (((IntKind.i64.wrap (1 + x19_15)) : Int) == x21_14) w17))) ∧ (
  LD [.int .i64] (p_e.add 0) w2 fun (x16_10 : Int) =>
  (0 : Int) ≤ x16_10 ∧ (
  LD [.sl, .sl, .sl, .mp] cap1 w2 fun (x13_0_6 : Sl) (x13_1_6 : Sl) (x13_2_6 : Sl) (x13_3_6 : Nat) =>
  Calls Tryd.prog F.i_matcher_size #[.agg #[x13_0_6.v, x13_1_6.v, x13_2_6.v, .map (some x13_3_6)], .int .u64 (bitAndNot .u64 x14_6 (shlI .u64 1 x16_10))] w2 (Ret [.at (.int .i64)] fun (x19_16 : Int) w18 =>
  V_i_GreatestMatching_1_k1 Q (((IntKind.i64.wrap (1 + x19_16)) : Int) == x21_14) w18))))) ∧ (
  LD [.int .i64] (p_e.add 0) w2 fun (x16_11 : Int) =>
  (0 : Int) ≤ x16_11 ∧ (
  (
  LD [.sl, .sl, .sl, .mp] cap1 w2 fun (x13_0_7 : Sl) (x13_1_7 : Sl) (x13_2_7 : Sl) (x13_3_7 : Nat) =>
  (
  LD [.int .u64] cap0 w2 fun (x14_7 : Int) =>
  (
  Calls Tryd.prog F.i_matcher_size #[.agg #[x13_0_7.v, x13_1_7.v, x13_2_7.v, .map (some x13_3_7)], .int .u64 (bitAndNot .u64 x14_7 (shlI .u64 1 x16_11))] w2 (Ret [.at (.int .i64)] fun (x19_17 : Int) w19 =>
  LD [.int .i64] cap2 w19 fun (x21_15 : Int) =>
  V_i_GreatestMatching_1_k1 Q (((IntKind.i64.wrap (1 + x19_17)) : Int) == x21_15) w19)) ∧ (
  LD [.int .i64] cap2 w2 fun (x21_16 : Int) =>
  Calls Tryd.prog F.i_matcher_size #[.agg #[x13_0_7.v, x13_1_7.v, x13_2_7.v, .map (some x13_3_7)], .int .u64 (bitAndNot .u64 x14_7 (shlI .u64 1 x16_11))] w2 (Ret [.at (.int .i64)] fun (x19_18 : Int) w20 =>
  V_i_GreatestMatching_1_k1 Q (((IntKind.i64.wrap (1 + x19_18)) : Int) == x21_16) w20))) ∧ (
  LD [.int .i64] cap2 w2 fun (x21_17 : Int) =>
  LD [.int .u64] cap0 w2 fun (x14_8 : Int) =>
  Calls Tryd.prog F.i_matcher_size #[.agg #[x13_0_7.v, x13_1_7.v, x13_2_7.v, .map (some x13_3_7)], .int .u64 (bitAndNot .u64 x14_8 (shlI .u64 1 x16_11))] w2 (Ret [.at (.int .i64)] fun (x19_19 : Int) w21 =>
  V_i_GreatestMatching_1_k1 Q (((IntKind.i64.wrap (1 + x19_19)) : Int) == x21_17) w21))) ∧ (
  LD [.int .u64] cap0 w2 fun (x14_9 : Int) =>
  (
  LD [.sl, .sl, .sl, .mp] cap1 w2 fun (x13_0_8 : Sl) (x13_1_8 : Sl) (x13_2_8 : Sl) (x13_3_8 : Nat) =>
  (
  Calls Tryd.prog F.i_matcher_size #[.agg #[x13_0_8.v, x13_1_8.v, x13_2_8.v, .map (some x13_3_8)], .int .u64 (bitAndNot .u64 x14_9 (shlI .u64 1 x16_11))] w2 (Ret [.at (.int .i64)] fun (x19_20 : Int) w22 =>
  LD [.int .i64] cap2 w22 fun (x21_18 : Int) =>
  V_i_GreatestMatching_1_k1 Q (((IntKind.i64.wrap (1 + x19_20)) : Int) == x21_18) w22)) ∧ (
  LD [.int .i64] cap2 w2 fun (x21_19 : Int) =>
  Calls Tryd.prog F.i_matcher_size #[.agg #[x13_0_8.v, x13_1_8.v, x13_2_8.v, .map (some x13_3_8)], .int .u64 (bitAndNot .u64 x14_9 (shlI .u64 1 x16_11))] w2 (Ret [.at (.int .i64)] fun (x19_21 : Int) w23 =>
  V_i_GreatestMatching_1_k1 Q (((IntKind.i64.wrap (1 + x19_21)) : Int) == x21_19) w23))) ∧ (
  LD [.int .i64] cap2 w2 fun (x21_20 : Int) =>
  LD [.sl, .sl, .sl, .mp] cap1 w2 fun (x13_0_9 : Sl) (x13_1_9 : Sl) (x13_2_9 : Sl) (x13_3_9 : Nat) =>
  Calls Tryd.prog F.i_matcher_size #[.agg #[x13_0_9.v, x13_1_9.v, x13_2_9.v, .map (some x13_3_9)], .int .u64 (bitAndNot .u64 x14_9 (shlI .u64 1 x16_11))] w2 (Ret [.at (.int .i64)] fun (x19_22 : Int) w24 =>
  V_i_GreatestMatching_1_k1 Q (((IntKind.i64.wrap (1 + x19_22)) : Int) == x21_20) w24))) ∧ (
  LD [.int .i64] cap2 w2 fun (x21_21 : Int) =>
  (
  LD [.sl, .sl, .sl, .mp] cap1 w2 fun (x13_0_10 : Sl) (x13_1_10 : Sl) (x13_2_10 : Sl) (x13_3_10 : Nat) =>
  LD [.int .u64] cap0 w2 fun (x14_10 : Int) =>
  Calls Tryd.prog F.i_matcher_size #[.agg #[x13_0_10.v, x13_1_10.v, x13_2_10.v, .map (some x13_3_10)], .int .u64 (bitAndNot .u64 x14_10 (shlI .u64 1 x16_11))] w2 (Ret [.at (.int .i64)] fun (x19_23 : Int) w25 =>
  V_i_GreatestMatching_1_k1 Q (((IntKind.i64.wrap (1 + x19_23)) : Int) == x21_21) w25)) ∧ (
  LD [.int .u64] cap0 w2 fun (x14_11 : Int) =>
  LD [.sl, .sl, .sl, .mp] cap1 w2 fun (x13_0_11 : Sl) (x13_1_11 : Sl) (x13_2_11 : Sl) (x13_3_11 : Nat) =>
  Calls Tryd.prog F.i_matcher_size #[.agg #[x13_0_11.v, x13_1_11.v, x13_2_11.v, .map (some x13_3_11)], .int .u64 (bitAndNot .u64 x14_11 (shlI .u64 1 x16_11))] w2 (Ret [.at (.int .i64)] fun (x19_24 : Int) w26 =>
  V_i_GreatestMatching_1_k1 Q (((IntKind.i64.wrap (1 + x19_24)) : Int) == x21_21) w26))))) ∧ (
  LD [.int .i64] cap2 w2 fun (x21_22 : Int) =>
  (
  LD [.sl, .sl, .sl, .mp] cap1 w2 fun (x13_0_12 : Sl) (x13_1_12 : Sl) (x13_2_12 : Sl) (x13_3_12 : Nat) =>
  (
  LD [.int .u64] cap0 w2 fun (x14_12 : Int) =>
  LD [.int .i64] (p_e.add 0) w2 fun (x16_12 : Int) =>
  (0 : Int) ≤ x16_12 ∧ (
  Calls Tryd.prog F.i_matcher_size #[.agg #[x13_0_12.v, x13_1_12.v, x13_2_12.v, .map (some x13_3_12)], .int .u64 (bitAndNot .u64 x14_12 (shlI .u64 1 x16_12))] w2 (Ret [.at (.int .i64)] fun (x19_25 : Int) w27 =>
  V_i_GreatestMatching_1_k1 Q (((IntKind.i64.wrap (1 + x19_25)) : Int) == x21_22) w27))) ∧ (
  LD [.int .i64] (p_e.add 0) w2 fun (x16_13 : Int) =>
  (0 : Int) ≤ x16_13 ∧ (
  LD [.int .u64] cap0 w2 fun (x14_13 : Int) =>
  Calls Tryd.prog F.i_matcher_size #[.agg #[x13_0_12.v, x13_1_12.v, x13_2_12.v, .map (some x13_3_12)], .int .u64 (bitAndNot .u64 x14_13 (shlI .u64 1 x16_13))] w2 (Ret [.at (.int .i64)] fun (x19_26 : Int) w28 =>
  V_i_GreatestMatching_1_k1 Q (((IntKind.i64.wrap (1 + x19_26)) : Int) == x21_22) w28)))) ∧ (
  LD [.int .u64] cap0 w2 fun (x14_14 : Int) =>
  (
  LD [.sl, .sl, .sl, .mp] cap1 w2 fun (x13_0_13 : Sl) (x13_1_13 : Sl) (x13_2_13 : Sl) (x13_3_13 : Nat) =>
  LD [.int .i64] (p_e.add 0) w2 fun (x16_14 : Int) =>
  (0 : Int) ≤ x16_14 ∧ (
  Calls Tryd.prog F.i_matcher_size #[.agg #[x13_0_13.v, x13_1_13.v, x13_2_13.v, .map (some x13_3_13)], .int .u64 (bitAndNot .u64 x14_14 (shlI .u64 1 x16_14))] w2 (Ret [.at (.int .i64)] fun (x19_27 : Int) w29 =>
  V_i_GreatestMatching_1_k1 Q (((IntKind.i64.wrap (1 + x19_27)) : Int) == x21_22) w29))) ∧ (
  LD [.int .i64] (p_e.add 0) w2 fun (x16_15 : Int) =>
  (0 : Int) ≤ x16_15 ∧ (
  LD [.sl, .sl, .sl, .mp] cap1 w2 fun (x13_0_14 : Sl) (x13_1_14 : Sl) (x13_2_14 : Sl) (x13_3_14 : Nat) =>
  Calls Tryd.prog F.i_matcher_size #[.agg #[x13_0_14.v, x13_1_14.v, x13_2_14.v, .map (some x13_3_14)], .int .u64 (bitAndNot .u64 x14_14 (shlI .u64 1 x16_15))] w2 (Ret [.at (.int .i64)] fun (x19_28 : Int) w30 =>
  V_i_GreatestMatching_1_k1 Q (((IntKind.i64.wrap (1 + x19_28)) : Int) == x21_22) w30)))) ∧ (
  LD [.int .i64] (p_e.add 0) w2 fun (x16_16 : Int) =>
  (0 : Int) ≤ x16_16 ∧ (
  (
  LD [.sl, .sl, .sl, .mp] cap1 w2 fun (x13_0_15 : Sl) (x13_1_15 : Sl) (x13_2_15 : Sl) (x13_3_15 : Nat) =>
  LD [.int .u64] cap0 w2 fun (x14_15 : Int) =>
  Calls Tryd.prog F.i_matcher_size #[.agg #[x13_0_15.v, x13_1_15.v, x13_2_15.v, .map (some x13_3_15)], .int .u64 (bitAndNot .u64 x14_15 (shlI .u64 1 x16_16))] w2 (Ret [.at (.int .i64)] fun (x19_29 : Int) w31 =>
  V_i_GreatestMatching_1_k1 Q (((IntKind.i64.wrap (1 + x19_29)) : Int) == x21_22) w31)) ∧ (
  LD [.int .u64] cap0 w2 fun (x14_16 : Int) =>
  LD [.sl, .sl, .sl, .mp] cap1 w2 fun (x13_0_16 : Sl) (x13_1_16 : Sl) (x13_2_16 : Sl) (x13_3_16 : Nat) =>
  Calls Tryd.prog F.i_matcher_size #[.agg #[x13_0_16.v, x13_1_16.v, x13_2_16.v, .map (some x13_3_16)], .int .u64 (bitAndNot .u64 x14_16 (shlI .u64 1 x16_16))] w2 (Ret [.at (.int .i64)] fun (x19_30 : Int) w32 =>
  V_i_GreatestMatching_1_k1 Q (((IntKind.i64.wrap (1 + x19_30)) : Int) == x21_22) w32)))))) (
  (
  (
  (
  (
  V_i_GreatestMatching_1_k1 Q false w2) ∧ (
  V_i_GreatestMatching_1_k1 Q false w2)) ∧ (
  V_i_GreatestMatching_1_k1 Q false w2)) ∧ (
  (
  (
  V_i_GreatestMatching_1_k1 Q false w2) ∧ (
  V_i_GreatestMatching_1_k1 Q false w2)) ∧ (
  V_i_GreatestMatching_1_k1 Q false w2)) ∧ (
  (
  V_i_GreatestMatching_1_k1 Q false w2) ∧ (
  V_i_GreatestMatching_1_k1 Q false w2))) ∧ (
  (
  (
  (
  V_i_GreatestMatching_1_k1 Q false w2) ∧ (
  V_i_GreatestMatching_1_k1 Q false w2)) ∧ (
  V_i_GreatestMatching_1_k1 Q false w2)) ∧ (
  (
  (
  V_i_GreatestMatching_1_k1 Q false w2) ∧ (
  V_i_GreatestMatching_1_k1 Q false w2)) ∧ (
  V_i_GreatestMatching_1_k1 Q false w2)) ∧ (
  (
  V_i_GreatestMatching_1_k1 Q false w2) ∧ (
  V_i_GreatestMatching_1_k1 Q false w2))) ∧ (
  (
  (
  (
  V_i_GreatestMatching_1_k1 Q false w2) ∧ (
  V_i_GreatestMatching_1_k1 Q false w2)) ∧ (
  V_i_GreatestMatching_1_k1 Q false w2)) ∧ (
  (
  (
  V_i_GreatestMatching_1_k1 Q false w2) ∧ (
  V_i_GreatestMatching_1_k1 Q false w2)) ∧ (
  V_i_GreatestMatching_1_k1 Q false w2)) ∧ (
  (
  V_i_GreatestMatching_1_k1 Q false w2) ∧ (
  V_i_GreatestMatching_1_k1 Q false w2))) ∧ (
  (
  (
  V_i_GreatestMatching_1_k1 Q false w2) ∧ (
  V_i_GreatestMatching_1_k1 Q false w2)) ∧ (
  (
  V_i_GreatestMatching_1_k1 Q false w2) ∧ (
  V_i_GreatestMatching_1_k1 Q false w2)) ∧ (
  (
  V_i_GreatestMatching_1_k1 Q false w2) ∧ (
  V_i_GreatestMatching_1_k1 Q false w2)))))) ∧ (
  LD [.int .i64] (p_e.add 0) w2 fun (x8_2 : Int) =>
  LD [.int .u64] cap0 w2 fun (x6_2 : Int) =>
  (0 : Int) ≤ x8_2 ∧ (
  cond (((bitAnd .u64 (shrI .u64 x6_2 x8_2) 1) : Int) == 1) (
  (
  LD [.sl, .sl, .sl, .mp] cap1 w2 fun (x13_0_17 : Sl) (x13_1_17 : Sl) (x13_2_17 : Sl) (x13_3_17 : Nat) =>
  (
  LD [.int .u64] cap0 w2 fun (x14_17 : Int) =>
  (
  LD [.int .i64] (p_e.add 0) w2 fun (x16_17 : Int) =>
  (0 : Int) ≤ x16_17 ∧ (
  (
  Calls Tryd.prog F.i_matcher_size #[.agg #[x13_0_17.v, x13_1_17.v, x13_2_17.v, .map (some x13_3_17)], .int .u64 (bitAndNot .u64 x14_17 (shlI .u64 1 x16_17))] w2 (Ret [.at (.int .i64)] fun (x19_31 : Int) w33 =>
  LD [.int .i64] cap2 w33 fun (x21_23 : Int) =>
  V_i_GreatestMatching_1_k1 Q (((IntKind.i64.wrap (1 + x19_31)) : Int) == x21_23) w33)) ∧ (
  LD [.int .i64] cap2 w2 fun (x21_24 : Int) =>
  Calls Tryd.prog F.i_matcher_size #[.agg #[x13_0_17.v, x13_1_17.v, x13_2_17.v, .map (some x13_3_17)], .int .u64 (bitAndNot .u64 x14_17 (shlI .u64 1 x16_17))] w2 (Ret [.at (.int .i64)] fun (x19_32 : Int) w34 =>
  V_i_GreatestMatching_1_k1 Q (((IntKind.i64.wrap (1 + x19_32)) : Int) == x21_24) w34)))) ∧ (
  LD [.int .i64] cap2 w2 fun (x21_25 : Int) =>
  LD [.int .i64] (p_e.add 0) w2 fun (x16_18 : Int) =>
  (0 : Int) ≤ x16_18 ∧ (
  Calls Tryd.prog F.i_matcher_size #[.agg #[x13_0_17.v, x13_1_17.v, x13_2_17.v, .map (some x13_3_17)], .int .u64 (bitAndNot .u64 x14_17 (shlI .u64 1 x16_18))] w2 (Ret [.at (.int .i64)] fun (x19_33 : Int) w35 =>
  V_i_GreatestMatching_1_k1 Q (((IntKind.i64.wrap (1 + x19_33)) : Int) == x21_25) w35)))) ∧ (
  LD [.int .i64] (p_e.add 0) w2 fun (x16_19 : Int) =>
  (0 : Int) ≤ x16_19 ∧ (
  (
  LD [.int .u64] cap0 w2 fun (x14_18 : Int) =>
  (
  Calls Tryd.prog F.i_matcher_size #[.agg #[x13_0_17.v, x13_1_17.v, x13_2_17.v, .map (some x13_3_17)], .int .u64 (bitAndNot .u64 x14_18 (shlI .u64 1 x16_19))] w2 (Ret [.at (.int .i64)] fun (x19_34 : Int) w36 =>
  LD [.int .i64] cap2 w36 fun (x21_26 : Int) =>
  V_i_GreatestMatching_1_k1 Q (((IntKind.i64.wrap (1 + x19_34)) : Int) == x21_26) w36)) ∧ (
  LD [.int .i64] cap2 w2 fun (x21_27 : Int) =>
  Calls Tryd.prog F.i_matcher_size #[.agg #[x13_0_17.v, x13_1_17.v, x13_2_17.v, .map (some x13_3_17)], .int .u64 (bitAndNot .u64 x14_18 (shlI .u64 1 x16_19))] w2 (Ret [.at (.int .i64)] fun (x19_35 : Int) w37 =>
  V_i_GreatestMatching_1_k1 Q (((IntKind.i64.wrap (1 + x19_35)) : Int) == x21_27) w37))) ∧ (
  LD [.int .i64] cap2 w2 fun (x21_28 : Int) =>
  LD [.int .u64] cap0 w2 fun (x14_19 : Int) =>
  Calls Tryd.prog F.i_matcher_size #[.agg #[x13_0_17.v, x13_1_17.v, x13_2_17.v, .map (some x13_3_17)], .int .u64 (bitAndNot .u64 x14_19 (shlI .u64 1 x16_19))] w2 (Ret [.at (.int .i64)] fun (x19_36 : Int) w38 =>
  V_i_GreatestMatching_1_k1 Q (((IntKind.i64.wrap (1 + x19_36)) : Int) == x21_28) w38)))) ∧ (
  LD [.int .i64] cap2 w2 fun (x21_29 : Int) =>
  (
  LD [.int .u64] cap0 w2 fun (x14_20 : Int) =>
  LD [.int .i64] (p_e.add 0) w2 fun (x16_20 : Int) =>
  (0 : Int) ≤ x16_20 ∧ (
  Calls Tryd.prog F.i_matcher_size #[.agg #[x13_0_17.v, x13_1_17.v, x13_2_17.v, .map (some x13_3_17)], .int .u64 (bitAndNot .u64 x14_20 (shlI .u64 1 x16_20))] w2 (Ret [.at (.int .i64)] fun (x19_37 : Int) w39 =>
  V_i_GreatestMatching_1_k1 Q (((IntKind.i64.wrap (1 + x19_37)) : Int) == x21_29) w39))) ∧ (
  LD [.int .i64] (p_e.add 0) w2 fun (x16_21 : Int) =>
  (0 : Int) ≤ x16_21 ∧ (
  LD [.int .u64] cap0 w2 fun (x14_21 : Int) =>
  Calls Tryd.prog F.i_matcher_size #[.agg #[x13_0_17.v, x13_1_17.v, x13_2_17.v, .map (some x13_3_17)], .int .u64 (bitAndNot .u64 x14_21 (shlI .u64 1 x16_21))] w2 (Ret [.at (.int .i64)] fun (x19_38 : Int) w40 =>
  V_i_GreatestMatching_1_k1 Q (((IntKind.i64.wrap (1 + x19_38)) : Int) == x21_29) w40))))) ∧ (
  LD [.int .u64] cap0 w2 fun (x14_22 : Int) =>
  (
  LD [.sl, .sl, .sl, .mp] cap1 w2 fun (x13_0_18 : Sl) (x13_1_18 : Sl) (x13_2_18 : Sl) (x13_3_18 : Nat) =>
  (
  LD [.int .i64] (p_e.add 0) w2 fun (x16_22 : Int) =>
  (0 : Int) ≤ x16_22 ∧ (
  (
  Calls Tryd.prog F.i_matcher_size #[.agg #[x13_0_18.v, x13_1_18.v, x13_2_18.v, .map (some x13_3_18)], .int .u64 (bitAndNot .u64 x14_22 (shlI .u64 1 x16_22))] w2 (Ret [.at (.int .i64)] fun (x19_39 : Int) w41 =>
  LD [.int .i64] cap2 w41 fun (x21_30 : Int) =>
  V_i_GreatestMatching_1_k1 Q (((IntKind.i64.wrap (1 + x19_39)) : Int) == x21_30) w41)) ∧ (
  LD [.int .i64] cap2 w2 fun (x21_31 : Int) =>
  Calls Tryd.prog F.i_matcher_size #[.agg #[x13_0_18.v, x13_1_18.v, x13_2_18.v, .map (some x13_3_18)], .int .u64 (bitAndNot .u64 x14_22 (shlI .u64 1 x16_22))] w2 (Ret [.at (.int .i64)] fun (x19_40 : Int) w42 =>
  V_i_GreatestMatching_1_k1 Q (((IntKind.i64.wrap (1 + x19_40)) : Int) == x21_31) w42)))) ∧ (
  LD [.int .i64] cap2 w2 fun (x21_32 : Int) =>
  LD [.int .i64] (p_e.add 0) w2 fun (x16_23 : Int) =>
  (0 : Int) ≤ x16_23 ∧ (
  Calls Tryd.prog F.i_matcher_size #[.agg #[x13_0_18.v, x13_1_18.v, x13_2_18.v, .map (some x13_3_18)], .int .u64 (bitAndNot .u64 x14_22 (shlI .u64 1 x16_23))] w2 (Ret [.at (.int .i64)] fun (x19_41 : Int) w43 =>
  V_i_GreatestMatching_1_k1 Q (((IntKind.i64.wrap (1 + x19_41)) : Int) == x21_32) w43)))) ∧ (
  LD [.int .i64] (p_e.add 0) w2 fun (x16_24 : Int) =>
  (0 : Int) ≤ x16_24 ∧ (
  (
  LD [.sl, .sl, .sl, .mp] cap1 w2 fun (x13_0_19 : Sl) (x13_1_19 : Sl) (x13_2_19 : Sl) (x13_3_19 : Nat) =>
  (
  Calls Tryd.prog F.i_matcher_size #[.agg #[x13_0_19.v, x13_1_19.v, x13_2_19.v, .map (some x13_3_19)], .int .u64 (bitAndNot .u64 x14_22 (shlI .u64 1 x16_24))] w2 (Ret [.at (.int .i64)] fun (x19_42 : Int) w44 =>
  LD [.int .i64] cap2 w44 fun (x21_33 : Int) =>
  V_i_GreatestMatching_1_k1 Q (((IntKind.i64.wrap (1 + x19_42)) : Int) == x21_33) w44)) ∧ (
  LD [.int .i64] cap2 w2 fun (x21_34 : Int) =>
  Calls Tryd.prog F.i_matcher_size #[.agg #[x13_0_19.v, x13_1_19.v, x13_2_19.v, .map (some x13_3_19)], .int .u64 (bitAndNot .u64 x14_22 (shlI .u64 1 x16_24))] w2 (Ret [.at (.int .i64)] fun (x19_43 : Int) w45 =>
  V_i_GreatestMatching_1_k1 Q (((IntKind.i64.wrap (1 + x19_43)) : Int) == x21_34) w45))) ∧ (
  LD [.int .i64] cap2 w2 fun (x21_35 : Int) =>
  LD [.sl, .sl, .sl, .mp] cap1 w2 fun (x13_0_20 : Sl) (x13_1_20 : Sl) (x13_2_20 : Sl) (x13_3_20 : Nat) =>
  Calls Tryd.prog F.i_matcher_size #[.agg #[x13_0_20.v, x13_1_20.v, x13_2_20.v, .map (some x13_3_20)], .int .u64 (bitAndNot .u64 x14_22 (shlI .u64 1 x16_24))] w2 (Ret [.at (.int .i64)] fun (x19_44 : Int) w46 =>
  V_i_GreatestMatching_1_k1 Q (((IntKind.i64.wrap (1 + x19_44)) : Int) == x21_35) w46)))) ∧ (
  LD [.int .i64] cap2 w2 fun (x21_36 : Int) =>
  (
  LD [.sl, .sl, .sl, .mp] cap1 w2 fun (x13_0_21 : Sl) (x13_1_21 : Sl) (x13_2_21 : Sl) (x13_3_21 : Nat) =>
  LD [.int .i64] (p_e.add 0) w2 fun (x16_25 : Int) =>
  (0 : Int) ≤ x16_25 ∧ (
  Calls Tryd.prog F.i_matcher_size #[.agg #[x13_0_21.v, x13_1_21.v, x13_2_21.v, .map (some x13_3_21)], .int .u64 (bitAndNot .u64 x14_22 (shlI .u64 1 x16_25))] w2 (Ret [.at (.int .i64)] fun (x19_45 : Int) w47 =>
  V_i_GreatestMatching_1_k1 Q (((IntKind.i64.wrap (1 + x19_45)) : Int) == x21_36) w47))) ∧ (
  LD [.int .i64] (p_e.add 0) w2 fun (x16_26 : Int) =>
  (0 : Int) ≤ x16_26 ∧ (
  LD [.sl, .sl, .sl, .mp] cap1 w2 fun (x13_0_22 : Sl) (x13_1_22 : Sl) (x13_2_22 : Sl) (x13_3_22 : Nat) =>
  Calls Tryd.prog F.i_matcher_size #[.agg #[x13_0_22.v, x13_1_22.v, x13_2_22.v, .map (some x13_3_22)], .int .u64 (bitAndNot .u64 x14_22 (shlI .u64 1 x16_26))] w2 (Ret [.at (.int .i64)] fun (x19_46 : Int) w48 =>
  V_i_GreatestMatching_1_k1 Q (((IntKind.i64.wrap (1 + x19_46)) : Int) == x21_36) w48))))) ∧ (
  LD [.int .i64] (p_e.add 0) w2 fun (x16_27 : Int) =>
  (0 : Int) ≤ x16_27 ∧ (
  (
  LD [.sl, .sl, .sl, .mp] cap1 w2 fun (x13_0_23 : Sl) (x13_1_23 : Sl) (x13_2_23 : Sl) (x13_3_23 : Nat) =>
  (
  LD [.int .u64] cap0 w2 fun (x14_23 : Int) =>
  (
  Calls Tryd.prog F.i_matcher_size #[.agg #[x13_0_23.v, x13_1_23.v, x13_2_23.v, .map (some x13_3_23)], .int .u64 (bitAndNot .u64 x14_23 (shlI .u64 1 x16_27))] w2 (Ret [.at (.int .i64)] fun (x19_47 : Int) w49 =>
  LD [.int .i64] cap2 w49 fun (x21_37 : Int) =>
  V_i_GreatestMatching_1_k1 Q (((IntKind.i64.wrap (1 + x19_47)) : Int) == x21_37) w49)) ∧ (
  LD [.int .i64] cap2 w2 fun (x21_38 : Int) =>
  Calls Tryd.prog F.i_matcher_size #[.agg #[x13_0_23.v, x13_1_23.v, x13_2_23.v, .map (some x13_3_23)], .int .u64 (bitAndNot .u64 x14_23 (shlI .u64 1 x16_27))] w2 (Ret [.at (.int .i64)] fun (x19_48 : Int) w50 =>
  V_i_GreatestMatching_1_k1 Q (((IntKind.i64.wrap (1 + x19_48)) : Int) == x21_38) w50))) ∧ (
  LD [.int .i64] cap2 w2 fun (x21_39 : Int) =>
  LD [.int .u64] cap0 w2 fun (x14_24 : Int) =>
  Calls Tryd.prog F.i_matcher_size #[.agg #[x13_0_23.v, x13_1_23.v, x13_2_23.v, .map (some x13_3_23)], .int .u64 (bitAndNot .u64 x14_24 (shlI .u64 1 x16_27))] w2 (Ret [.at (.int .i64)] fun (x19_49 : Int) w51 =>
  V_i_GreatestMatching_1_k1 Q (((IntKind.i64.wrap (1 + x19_49)) : Int) == x21_39) w51))) ∧ (
  LD [.int .u64] cap0 w2 fun (x14_25 : Int) =>
  (
  LD [.sl, .sl, .sl, .mp] cap1 w2 fun (x13_0_24 : Sl) (x13_1_24 : Sl) (x13_2_24 : Sl) (x13_3_24 : Nat) =>
  (
  Calls Tryd.prog F.i_matcher_size #[.agg #[x13_0_24.v, x13_1_24.v, x13_2_24.v, .map (some x13_3_24)], .int .u64 (bitAndNot .u64 x14_25 (shlI .u64 1 x16_27))] w2 (Ret [.at (.int .i64)] fun (x19_50 : Int) w52 =>
  LD [.int .i64] cap2 w52 fun (x21_40 : Int) =>
  V_i_GreatestMatching_1_k1 Q (((IntKind.i64.wrap (1 + x19_50)) : Int) == x21_40) w52)) ∧ (
  LD [.int .i64] cap2 w2 fun (x21_41 : Int) =>
  Calls Tryd.prog F.i_matcher_size #[.agg #[x13_0_24.v, x13_1_24.v, x13_2_24.v, .map (some x13_3_24)], .int .u64 (bitAndNot .u64 x14_25 (shlI .u64 1 x16_27))] w2 (Ret [.at (.int .i64)] fun (x19_51 : Int) w53 =>
  V_i_GreatestMatching_1_k1 Q (((IntKind.i64.wrap (1 + x19_51)) : Int) == x21_41) w53))) ∧ (
  LD [.int .i64] cap2 w2 fun (x21_42 : Int) =>
  LD [.sl, .sl, .sl, .mp] cap1 w2 fun (x13_0_25 : Sl) (x13_1_25 : Sl) (x13_2_25 : Sl) (x13_3_25 : Nat) =>
  Calls Tryd.prog F.i_matcher_size #[.agg #[x13_0_25.v, x13_1_25.v, x13_2_25.v, .map (some x13_3_25)], .int .u64 (bitAndNot .u64 x14_25 (shlI .u64 1 x16_27))] w2 (Ret [.at (.int .i64)] fun (x19_52 : Int) w54 =>
  V_i_GreatestMatching_1_k1 Q (((IntKind.i64.wrap (1 + x19_52)) : Int) == x21_42) w54))) ∧ (
  LD [.int .i64] cap2 w2 fun (x21_43 : Int) =>
  (
  LD [.sl, .sl, .sl, .mp] cap1 w2 fun (x13_0_26 : Sl) (x13_1_26 : Sl) (x13_2_26 : Sl) (x13_3_26 : Nat) =>
  LD [.int .u64] cap0 w2 fun (x14_26 : Int) =>
  Calls Tryd.prog F.i_matcher_size #[.agg #[x13_0_26.v, x13_1_26.v, x13_2_26.v, .map (some x13_3_26)], .int .u64 (bitAndNot .u64 x14_26 (shlI .u64 1 x16_27))] w2 (Ret [.at (.int .i64)] fun (x19_53 : Int) w55 =>
  V_i_GreatestMatching_1_k1 Q (((IntKind.i64.wrap (1 + x19_53)) : Int) == x21_43) w55)) ∧ (
  LD [.int .u64] cap0 w2 fun (x14_27 : Int) =>
  LD [.sl, .sl, .sl, .mp] cap1 w2 fun (x13_0_27 : Sl) (x13_1_27 : Sl) (x13_2_27 : Sl) (x13_3_27 : Nat) =>
  Calls Tryd.prog F.i_matcher_size #[.agg #[x13_0_27.v, x13_1_27.v, x13_2_27.v, .map (some x13_3_27)], .int .u64 (bitAndNot .u64 x14_27 (shlI .u64 1 x16_27))] w2 (Ret [.at (.int .i64)] fun (x19_54 : Int) w56 =>
  V_i_GreatestMatching_1_k1 Q (((IntKind.i64.wrap (1 + x19_54)) : Int) == x21_43) w56))))) ∧ (
  LD [.int .i64] cap2 w2 fun (x21_44 : Int) =>
  (
  LD [.sl, .sl, .sl, .mp] cap1 w2 fun (x13_0_28 : Sl) (x13_1_28 : Sl) (x13_2_28 : Sl) (x13_3_28 : Nat) =>
  (
  LD [.int .u64] cap0 w2 fun (x14_28 : Int) =>
  LD [.int .i64] (p_e.add 0) w2 fun (x16_28 : Int) =>
  (0 : Int) ≤ x16_28 ∧ (
  Calls Tryd.prog F.i_matcher_size #[.agg #[x13_0_28.v, x13_1_28.v, x13_2_28.v, .map (some x13_3_28)], .int .u64 (bitAndNot .u64 x14_28 (shlI .u64 1 x16_28))] w2 (Ret [.at (.int .i64)] fun (x19_55 : Int) w57 =>
  V_i_GreatestMatching_1_k1 Q (((IntKind.i64.wrap (1 + x19_55)) : Int) == x21_44) w57))) ∧ (
  LD [.int .i64] (p_e.add 0) w2 fun (x16_29 : Int) =>
  (0 : Int) ≤ x16_29 ∧ (
  LD [.int .u64] cap0 w2 fun (x14_29 : Int) =>
  Calls Tryd.prog F.i_matcher_size #[.agg #[x13_0_28.v, x13_1_28.v, x13_2_28.v, .map (some x13_3_28)], .int .u64 (bitAndNot .u64 x14_29 (shlI .u64 1 x16_29))] w2 (Ret [.at (.int .i64)] fun (x19_56 : Int) w58 =>
  V_i_GreatestMatching_1_k1 Q (((IntKind.i64.wrap (1 + x19_56)) : Int) == x21_44) w58)))) ∧ (
  LD [.int .u64] cap0 w2 fun (x14_30 : Int) =>
  (
  LD [.sl, .sl, .sl, .mp] cap1 w2 fun (x13_0_29 : Sl) (x13_1_29 : Sl) (x13_2_29 : Sl) (x13_3_29 : Nat) =>
  LD [.int .i64] (p_e.add 0) w2 fun (x16_30 : Int) =>
  (0 : Int) ≤ x16_30 ∧ (
  Calls Tryd.prog F.i_matcher_size #[.agg #[x13_0_29.v, x13_1_29.v, x13_2_29.v, .map (some x13_3_29)], .int .u64 (bitAndNot .u64 x14_30 (shlI .u64 1 x16_30))] w2 (Ret [.at (.int .i64)] fun (x19_57 : Int) w59 =>
  V_i_GreatestMatching_1_k1 Q (((IntKind.i64.wrap (1 + x19_57)) : Int) == x21_44) w59))) ∧ (
  LD [.int .i64] (p_e.add 0) w2 fun (x16_31 : Int) =>
  (0 : Int) ≤ x16_31 ∧ (
  LD [.sl, .sl, .sl, .mp] cap1 w2 fun (x13_0_30 : Sl) (x13_1_30 : Sl) (x13_2_30 : Sl) (x13_3_30 : Nat) =>
  Calls Tryd.prog F.i_matcher_size #[.agg #[x13_0_30.v, x13_1_30.v, x13_2_30.v, .map (some x13_3_30)], .int .u64 (bitAndNot .u64 x14_30 (shlI .u64 1 x16_31))] w2 (Ret [.at (.int .i64)] fun (x19_58 : Int) w60 =>
  V_i_GreatestMatching_1_k1 Q (((IntKind.i64.wrap (1 + x19_58)) : Int) == x21_44) w60)))) ∧ (
  LD [.int .i64] (p_e.add 0) w2 fun (x16_32 : Int) =>
  (0 : Int) ≤ x16_32 ∧ (
  (
  LD [.sl, .sl, .sl, .mp] cap1 w2 fun (x13_0_31 : Sl) (x13_1_31 : Sl) (x13_2_31 : Sl) (x13_3_31 : Nat) =>
  LD [.int .u64] cap0 w2 fun (x14_31 : Int) =>
  Calls Tryd.prog F.i_matcher_size #[.agg #[x13_0_31.v, x13_1_31.v, x13_2_31.v, .map (some x13_3_31)], .int .u64 (bitAndNot .u64 x14_31 (shlI .u64 1 x16_32))] w2 (Ret [.at (.int .i64)] fun (x19_59 : Int) w61 =>
  V_i_GreatestMatching_1_k1 Q (((IntKind.i64.wrap (1 + x19_59)) : Int) == x21_44) w61)) ∧ (
  LD [.int .u64] cap0 w2 fun (x14_32 : Int) =>
  LD [.sl, .sl, .sl, .mp] cap1 w2 fun (x13_0_32 : Sl) (x13_1_32 : Sl) (x13_2_32 : Sl) (x13_3_32 : Nat) =>
  Calls Tryd.prog F.i_matcher_size #[.agg #[x13_0_32.v, x13_1_32.v, x13_2_32.v, .map (some x13_3_32)], .int .u64 (bitAndNot .u64 x14_32 (shlI .u64 1 x16_32))] w2 (Ret [.at (.int .i64)] fun (x19_60 : Int) w62 =>
  V_i_GreatestMatching_1_k1 Q (((IntKind.i64.wrap (1 + x19_60)) : Int) == x21_44) w62)))))) (
  (
  (
  (
  (
  V_i_GreatestMatching_1_k1 Q false w2) ∧ (
  V_i_GreatestMatching_1_k1 Q false w2)) ∧ (
  V_i_GreatestMatching_1_k1 Q false w2)) ∧ (
  (
  (
  V_i_GreatestMatching_1_k1 Q false w2) ∧ (
  V_i_GreatestMatching_1_k1 Q false w2)) ∧ (
  V_i_GreatestMatching_1_k1 Q false w2)) ∧ (
  (
  V_i_GreatestMatching_1_k1 Q false w2) ∧ (
  V_i_GreatestMatching_1_k1 Q false w2))) ∧ (
  (
  (
  (
  V_i_GreatestMatching_1_k1 Q false w2) ∧ (
  V_i_GreatestMatching_1_k1 Q false w2)) ∧ (
  V_i_GreatestMatching_1_k1 Q false w2)) ∧ (
  (
  (
  V_i_GreatestMatching_1_k1 Q false w2) ∧ (
  V_i_GreatestMatching_1_k1 Q false w2)) ∧ (
  V_i_GreatestMatching_1_k1 Q false w2)) ∧ (
  (
  V_i_GreatestMatching_1_k1 Q false w2) ∧ (
  V_i_GreatestMatching_1_k1 Q false w2))) ∧ (
  (
  (
  (
  V_i_GreatestMatching_1_k1 Q false w2) ∧ (
  V_i_GreatestMatching_1_k1 Q false w2)) ∧ (
  V_i_GreatestMatching_1_k1 Q false w2)) ∧ (
  (
  (
  V_i_GreatestMatching_1_k1 Q false w2) ∧ (
  V_i_GreatestMatching_1_k1 Q false w2)) ∧ (
  V_i_GreatestMatching_1_k1 Q false w2)) ∧ (
  (
  V_i_GreatestMatching_1_k1 Q false w2) ∧ (
  V_i_GreatestMatching_1_k1 Q false w2))) ∧ (
  (
  (
  V_i_GreatestMatching_1_k1 Q false w2) ∧ (
  V_i_GreatestMatching_1_k1 Q false w2)) ∧ (
  (
  V_i_GreatestMatching_1_k1 Q false w2) ∧ (
  V_i_GreatestMatching_1_k1 Q false w2)) ∧ (
  (
  V_i_GreatestMatching_1_k1 Q false w2) ∧ (
  V_i_GreatestMatching_1_k1 Q false w2))))))

theorem C_i_GreatestMatching_1 {Q : Bool → World → Prop} {e_0 : Int} {e_1 : Int} {cap0 : Addr} {cap1 : Addr} {cap2 : Addr} {w : World} (h : V_i_GreatestMatching_1 Q e_0 e_1 cap0 cap1 cap2 w) : Calls Tryd.prog F.i_GreatestMatching_1 #[.agg #[.int .i64 e_0, .int .i64 e_1], .pointer (some cap0), .pointer (some cap1), .pointer (some cap2)] w (Ret [.at .bool] Q) :=
  mkC (hint := hint) (ann := annOf [(600001, ⟨[], [1]⟩)]) (args := [.agg #[.int .i64 e_0, .int .i64 e_1], .pointer (some cap0), .pointer (some cap1), .pointer (some cap2)]) (rs := [.at .bool]) Tryd.func31 (by kernel_rfl) (by kernel_rfl) h

def V_l_eqEndSS (Q : Bool → World → Prop) (a : Sl) (b : Sl) (w : World) : Prop :=
  cond ((a.len : Int) != b.len) (
  Q false w) (
  ∃ (I4 : Int → World → Prop) (m4 : Int → World → Nat), I4 0 w ∧ ∀ (i : Int) w1, I4 i w1 → ∀ _ _ _ _ _ _ _ _ _ _ _ _ _ _ _ _ _ : Value,
  cond (decide ((i : Int) < a.len)) (
  IX a i 1 fun (px19 : Addr) =>
  LD [.sl] px19 w1 fun (x20 : Sl) =>
  IX b i 1 fun (px23 : Addr) =>
  LD [.sl] px23 w1 fun (x24 : Sl) =>
  QCALL Tryd.prog F.l_eqEndS #[x20.v, x24.v] w1 [.at .bool] fun (x25 : Bool) =>
  ∀ w2, Ext w1 w2 →
  cond (!x25) (
  Q false w2) (
  I4 (IntKind.i64.wrap (i + 1)) w2 ∧ m4 (IntKind.i64.wrap (i + 1)) w2 < m4 i w1)) (
  Q true w1))

theorem C_l_eqEndSS {Q : Bool → World → Prop} {a : Sl} {b : Sl} {w : World} (h : V_l_eqEndSS Q a b w) : Calls Tryd.prog F.l_eqEndSS #[a.v, b.v] w (Ret [.at .bool] Q) :=
  mkC (hint := hint) (ann := annOf [(4, ⟨[(5, .int .i64)], [4, 11, 12, 13, 14, 15, 16, 17, 18, 19, 20, 21, 22, 23, 24, 25, 26]⟩)]) (args := [a.v, b.v]) (rs := [.at .bool]) Tryd.func32 (by kernel_rfl) (by kernel_rfl) h

def V_l_markEndSS (Q : Int → World → Prop) (a : Sl) (k : Int) (w : World) : Prop :=
  ∃ (I2 : Int → Int → World → Prop) (m2 : Int → Int → World → Nat), I2 k 0 w ∧ ∀ (k_2 : Int) (i : Int) w1, I2 k_2 i w1 → ∀ _ _ _ _ _ _ _ _ _ _ _ _ : Value,
  cond (decide ((i : Int) < a.len)) (
  IX a i 1 fun (px14 : Addr) =>
  LD [.sl] px14 w1 fun (x15 : Sl) =>
  Calls Tryd.prog F.l_markEndS #[x15.v, .int .i64 k_2] w1 (Ret [.at (.int .i64)] fun (x17 : Int) w2 =>
  I2 x17 (IntKind.i64.wrap (i + 1)) w2 ∧ m2 x17 (IntKind.i64.wrap (i + 1)) w2 < m2 k_2 i w1)) (
  Q k_2 w1)

theorem C_l_markEndSS {Q : Int → World → Prop} {a : Sl} {k : Int} {w : World} (h : V_l_markEndSS Q a k w) : Calls Tryd.prog F.l_markEndSS #[a.v, .int .i64 k] w (Ret [.at (.int .i64)] Q) :=
  mkC (hint := hint) (ann := annOf [(2, ⟨[(1, .int .i64), (5, .int .i64)], [6, 7, 8, 9, 10, 11, 12, 13, 14, 15, 16, 17]⟩)]) (args := [a.v, .int .i64 k]) (rs := [.at (.int .i64)]) Tryd.func33 (by kernel_rfl) (by kernel_rfl) h

def V_l_szEndS (Q : Int → World → Prop) (a : Sl) (left : Int) (w : World) : Prop :=
  cond (decide (((IntKind.i64.wrap (left - a.len)) : Int) < 0)) (
  Q (-1) w) (
  Q (IntKind.i64.wrap (left - a.len)) w)

theorem C_l_szEndS {Q : Int → World → Prop} {a : Sl} {left : Int} {w : World} (h : V_l_szEndS Q a left w) : Calls Tryd.prog F.l_szEndS #[a.v, .int .i64 left] w (Ret [.at (.int .i64)] Q) :=
  mkC (hint := hint) (ann := annOf []) (args := [a.v, .int .i64 left]) (rs := [.at (.int .i64)]) Tryd.func39 (by kernel_rfl) (by kernel_rfl) h

def V_s_l1In (Q : Bool → World → Prop) (n : Int) (lo : Int) (hi : Int) (w : World) : Prop :=
  cond (decide ((n : Int) ≥ lo)) (
  Q (decide ((n : Int) ≤ hi)) w) (
  Q false w)

theorem C_s_l1In {Q : Bool → World → Prop} {n : Int} {lo : Int} {hi : Int} {w : World} (h : V_s_l1In Q n lo hi w) : Calls Tryd.prog F.s_l1In #[.int .i64 n, .int .i64 lo, .int .i64 hi] w (Ret [.at .bool] Q) :=
  mkC (hint := hint) (ann := annOf []) (args := [.int .i64 n, .int .i64 lo, .int .i64 hi]) (rs := [.at .bool]) Tryd.func40 (by kernel_rfl) (by kernel_rfl) h

def V_s_neIds (Q : Bool → World → Prop) (ids : Sl) (nodes : Int) (w : World) : Prop :=
  ∃ (I2 : Int → World → Prop) (m2 : Int → World → Nat), I2 0 w ∧ ∀ (x9 : Int) w1, I2 x9 w1 → ∀ _ _ _ _ _ _ _ _ _ _ _ _ _ _ _ _ _ _ : Value,
  cond (decide ((x9 : Int) < ids.len)) (
  IX ids x9 1 fun (px12 : Addr) =>
  LD [.int .i64] px12 w1 fun (x13 : Int) =>
  Calls Tryd.prog F.s_l1In #[.int .i64 x13, .int .i64 1, .int .i64 999999] w1 (Ret [.at .bool] fun (x15 : Bool) w2 =>
  cond (!x15) (
  Q false w2) (
  SLC ids none (some x9) 1 fun (x20 : Sl) =>
  Calls Tryd.prog F.s_l1Has #[x20.v, .int .i64 x13] w2 (Ret [.at .bool] fun (x22 : Bool) w3 =>
  cond x22 (
  Q false w3) (
  I2 (IntKind.i64.wrap (x9 + 1)) w3 ∧ m2 (IntKind.i64.wrap (x9 + 1)) w3 < m2 x9 w1))))) (
  cond ((ids.len : Int) == 0) (
  Q true w1) (
  Q ((ids.len : Int) == nodes) w1))

theorem C_s_neIds {Q : Bool → World → Prop} {ids : Sl} {nodes : Int} {w : World} (h : V_s_neIds Q ids nodes w) : Calls Tryd.prog F.s_neIds #[ids.v, .int .i64 nodes] w (Ret [.at .bool] Q) :=
  mkC (hint := hint) (ann := annOf [(2, ⟨[(9, .int .i64)], [4, 5, 6, 10, 11, 12, 13, 14, 15, 16, 17, 18, 19, 20, 21, 22, 23, 24]⟩)]) (args := [ids.v, .int .i64 nodes]) (rs := [.at .bool]) Tryd.func41 (by kernel_rfl) (by kernel_rfl) h

def V_s_l1All (Q : Bool → World → Prop) (l : Sl) (lo : Int) (hi : Int) (w : World) : Prop :=
  ∃ (I2 : Int → World → Prop) (m2 : Int → World → Nat), I2 0 w ∧ ∀ (x11 : Int) w1, I2 x11 w1 → ∀ _ _ _ _ _ _ _ _ _ _ _ : Value,
  cond (decide ((x11 : Int) < l.len)) (
  IX l x11 1 fun (px13 : Addr) =>
  LD [.int .i64] px13 w1 fun (x14 : Int) =>
  Calls Tryd.prog F.s_l1In #[.int .i64 x14, .int .i64 lo, .int .i64 hi] w1 (Ret [.at .bool] fun (x18 : Bool) w2 =>
  cond (!x18) (
  Q false w2) (
  I2 (IntKind.i64.wrap (x11 + 1)) w2 ∧ m2 (IntKind.i64.wrap (x11 + 1)) w2 < m2 x11 w1))) (
  Q true w1)

theorem C_s_l1All {Q : Bool → World → Prop} {l : Sl} {lo : Int} {hi : Int} {w : World} (h : V_s_l1All Q l lo hi w) : Calls Tryd.prog F.s_l1All #[l.v, .int .i64 lo, .int .i64 hi] w (Ret [.at .bool] Q) :=
  mkC (hint := hint) (ann := annOf [(2, ⟨[(11, .int .i64)], [6, 8, 12, 13, 14, 15, 16, 17, 18, 19, 20]⟩)]) (args := [l.v, .int .i64 lo, .int .i64 hi]) (rs := [.at .bool]) Tryd.func42 (by kernel_rfl) (by kernel_rfl) h

def V_s_mtSize (Q : Int → World → Prop) (m : Sl) (w : World) : Prop :=
  ∃ (I3 : Int → Int → World → Prop) (m3 : Int → Int → World → Nat), I3 0 0 w ∧ ∀ (k : Int) (x8 : Int) w1, I3 k x8 w1 → ∀ _ _ _ _ _ _ _ _ _ : Value,
  cond (decide ((x8 : Int) < m.len)) (
  IX m x8 1 fun (px10 : Addr) =>
  LD [.int .i64] px10 w1 fun (x11 : Int) =>
  cond (decide ((x11 : Int) ≥ 0)) (
  I3 (IntKind.i64.wrap (k + 1)) (IntKind.i64.wrap (x8 + 1)) w1 ∧ m3 (IntKind.i64.wrap (k + 1)) (IntKind.i64.wrap (x8 + 1)) w1 < m3 k x8 w1) (
  I3 k (IntKind.i64.wrap (x8 + 1)) w1 ∧ m3 k (IntKind.i64.wrap (x8 + 1)) w1 < m3 k x8 w1)) (
  (2 : Int) ≠ 0 ∧ (
  Q (IntKind.i64.wrap (Int.tdiv k 2)) w1))

theorem C_s_mtSize {Q : Int → World → Prop} {m : Sl} {w : World} (h : V_s_mtSize Q m w) : Calls Tryd.prog F.s_mtSize #[m.v] w (Ret [.at (.int .i64)] Q) :=
  mkC (hint := hint) (ann := annOf [(3, ⟨[(3, .int .i64), (8, .int .i64)], [5, 9, 10, 11, 12, 13, 14, 15, 16]⟩)]) (args := [m.v]) (rs := [.at (.int .i64)]) Tryd.func43 (by kernel_rfl) (by kernel_rfl) h

def V_s_mtTake (Q : Sl → World → Prop) (n_0 : Sl) (n_1 : Sl) (n_2 : Sl) (m : Sl) (v : Int) (i : Int) (w : World) : Prop :=
  NEW T.t_i_Network #[n_0.v, n_1.v, n_2.v] w fun (p_n : Addr) w1 =>
  Calls Tryd.prog F.s_l1Own #[m.v] w1 (Ret [.at .sl] fun (x11 : Sl) w2 =>
  IX x11 v 1 fun (px15 : Addr) =>
  ST px15 0 [.int .i64 i] w2 fun w3 =>
  ∀ w4, Ext w3 w4 → w4.heap = w3.heap → ∃ (D4 : Nat → Prop),
  ¬ D4 (p_n.add 0).block ∧ (
  LD [.sl] (p_n.add 0) w4 fun (x18 : Sl) =>
  IX x18 v 1 fun (px20 : Addr) =>
  ¬ D4 px20.block ∧ (
  LD [.sl] px20 w4 fun (x21 : Sl) =>
  IX x21 i 2 fun (px23 : Addr) =>
  ¬ D4 (px23.add 0).block ∧ (
  LD [.int .i64] (px23.add 0) w4 fun (x25 : Int) =>
  ¬ D4 (p_n.add 0).block ∧ (
  LD [.sl] (p_n.add 0) w4 fun (x27 : Sl) =>
  IX x27 v 1 fun (px29 : Addr) =>
  ¬ D4 px29.block ∧ (
  LD [.sl] px29 w4 fun (x30 : Sl) =>
  Chg w4 w4 D4 ∧ (
  IX x30 i 2 fun (px32 : Addr) =>
  Chg w4 w4 D4 ∧ (
  Chg w4 w4 D4 ∧ (
  LD [.int .i64] (px32.add 1) w4 fun (x34 : Int) =>
  Chg w4 w4 D4 ∧ (
  IX x11 x25 1 fun (px35 : Addr) =>
  ST px35 0 [.int .i64 x34] w4 fun w5 =>
  Q x11 w5))))))))))

theorem C_s_mtTake {Q : Sl → World → Prop} {n_0 : Sl} {n_1 : Sl} {n_2 : Sl} {m : Sl} {v : Int} {i : Int} {w : World} (h : V_s_mtTake Q n_0 n_1 n_2 m v i w) : Calls Tryd.prog F.s_mtTake #[.agg #[n_0.v, n_1.v, n_2.v], m.v, .int .i64 v, .int .i64 i] w (Ret [.at .sl] Q) :=
  mkC (hint := hint) (ann := annOf []) (args := [.agg #[n_0.v, n_1.v, n_2.v], m.v, .int .i64 v, .int .i64 i]) (rs := [.at .sl]) Tryd.func44 (by kernel_rfl) (by kernel_rfl) h

def V_s_roFree (Q : Sl → World → Prop) (many : Int) (w : World) : Prop :=
  RUN Tryd.prog (.at .sl) (Instr.makeSlice T.t_sl_int (.int .i64 many) (.int .i64 many)) w fun (x6 : Sl) w1 =>
  ∃ (I3 : Int → World → Prop) (m3 : Int → World → Nat), I3 0 w1 ∧ ∀ (x9 : Int) w2, I3 x9 w2 → ∀ _ _ _ _ _ _ _ : Value,
  cond (decide ((x9 : Int) < x6.len)) (
  IX x6 x9 1 fun (px14 : Addr) =>
  ST px14 0 [.int .i64 (-1)] w2 fun w3 =>
  I3 (IntKind.i64.wrap (x9 + 1)) w3 ∧ m3 (IntKind.i64.wrap (x9 + 1)) w3 < m3 x9 w2) (
  Q x6 w2)

theorem C_s_roFree {Q : Sl → World → Prop} {many : Int} {w : World} (h : V_s_roFree Q many w) : Calls Tryd.prog F.s_roFree #[.int .i64 many] w (Ret [.at .sl] Q) :=
  mkC (hint := hint) (ann := annOf [(3, ⟨[(9, .int .i64)], [4, 10, 11, 12, 13, 14, 15]⟩)]) (args := [.int .i64 many]) (rs := [.at .sl]) Tryd.func45 (by kernel_rfl) (by kernel_rfl) h

def V_l_toEndS (Q : Sl → World → Prop) (a : Sl) (w : World) : Prop :=
  RUN Tryd.prog (.at .sl) (Instr.makeSlice T.t_sl_i_End (.int .i64 a.len) (.int .i64 a.len)) w fun (x7 : Sl) w1 =>
  ∃ (I3 : Int → World → Prop) (m3 : Int → World → Nat), I3 0 w1 ∧ ∀ (i : Int) w2, I3 i w2 → ∀ _ _ _ _ _ _ _ _ _ _ _ _ _ _ : Value,
  cond (decide ((i : Int) < a.len)) (
  IX a i 2 fun (px18 : Addr) =>
  LD [.int .i64, .int .i64] px18 w2 fun (x19_0 : Int) (x19_1 : Int) =>
  Calls Tryd.prog F.l_toEnd #[.agg #[.int .i64 x19_0, .int .i64 x19_1]] w2 (Ret [.agg [.int .i64, .int .i64]] fun (x20_0 : Int) (x20_1 : Int) w3 =>
  IX x7 i 2 fun (px21 : Addr) =>
  ST px21 0 [.int .i64 x20_0, .int .i64 x20_1] w3 fun w4 =>
  I3 (IntKind.i64.wrap (i + 1)) w4 ∧ m3 (IntKind.i64.wrap (i + 1)) w4 < m3 i w2)) (
  Q x7 w2)

theorem C_l_toEndS {Q : Sl → World → Prop} {a : Sl} {w : World} (h : V_l_toEndS Q a w) : Calls Tryd.prog F.l_toEndS #[a.v] w (Ret [.at .sl] Q) :=
  mkC (hint := hint) (ann := annOf [(3, ⟨[(4, .int .i64)], [8, 9, 10, 11, 12, 13, 14, 15, 16, 17, 18, 19, 20, 21]⟩)]) (args := [a.v]) (rs := [.at .sl]) Tryd.func46 (by kernel_rfl) (by kernel_rfl) h

def V_i_within (Q : Bool → World → Prop) (n : Int) (low : Int) (high : Int) (w : World) : Prop :=
  cond (decide ((low : Int) ≤ n)) (
  Q (decide ((n : Int) ≤ high)) w) (
  Q false w)

theorem C_i_within {Q : Bool → World → Prop} {n : Int} {low : Int} {high : Int} {w : World} (h : V_i_within Q n low high w) : Calls Tryd.prog F.i_within #[.int .i64 n, .int .i64 low, .int .i64 high] w (Ret [.at .bool] Q) :=
  mkC (hint := hint) (ann := annOf []) (args := [.int .i64 n, .int .i64 low, .int .i64 high]) (rs := [.at .bool]) Tryd.func47 (by kernel_rfl) (by kernel_rfl) h

def V_i_idsOk (Q : Bool → World → Prop) (ids : Sl) (nodes : Int) (w : World) : Prop :=
  cond ((ids.len : Int) == 0) (
  Q true w) (
  Calls Tryd.prog F.slices_Clone_sl_int_int #[ids.v] w (Ret [.at .sl] fun (x10 : Sl) w1 =>
  Calls Tryd.prog F.slices_Sort_sl_int_int #[x10.v] w1 (Ret [] fun w2 =>
  cond ((ids.len : Int) == nodes) (
  Calls Tryd.prog F.i_increasing #[x10.v, .int .i64 1, .int .i64 999999] w2 (Ret [.at .bool] fun (x19 : Bool) w3 =>
  Q x19 w3)) (
  Q false w2))))

theorem C_i_idsOk {Q : Bool → World → Prop} {ids : Sl} {nodes : Int} {w : World} (h : V_i_idsOk Q ids nodes w) : Calls Tryd.prog F.i_idsOk #[ids.v, .int .i64 nodes] w (Ret [.at .bool] Q) :=
  mkC (hint := hint) (ann := annOf []) (args := [ids.v, .int .i64 nodes]) (rs := [.at .bool]) Tryd.func48 (by kernel_rfl) (by kernel_rfl) h

def V_i_inputsOk (Q : Bool → World → Prop) (inputs : Sl) (nodes : Int) (w : World) : Prop :=
  cond ((inputs.len : Int) == nodes) (
  Calls Tryd.prog F.i_allWithin #[inputs.v, .int .i64 0, .int .i64 9] w (Ret [.at .bool] fun (x11 : Bool) w1 =>
  Q x11 w1)) (
  Q false w)

theorem C_i_inputsOk {Q : Bool → World → Prop} {inputs : Sl} {nodes : Int} {w : World} (h : V_i_inputsOk Q inputs nodes w) : Calls Tryd.prog F.i_inputsOk #[inputs.v, .int .i64 nodes] w (Ret [.at .bool] Q) :=
  mkC (hint := hint) (ann := annOf []) (args := [inputs.v, .int .i64 nodes]) (rs := [.at .bool]) Tryd.func49 (by kernel_rfl) (by kernel_rfl) h

def V_i_Network_hasPort (Q : Bool → World → Prop) (n_0 : Sl) (n_1 : Sl) (n_2 : Sl) (v : Int) (i : Int) (w : World) : Prop :=
  NEW T.t_i_Network #[n_0.v, n_1.v, n_2.v] w fun (p_n : Addr) w1 =>
  LD [.sl, .sl, .sl] p_n w1 fun (x7_0 : Sl) (x7_1 : Sl) (x7_2 : Sl) =>
  Calls Tryd.prog F.i_Network_hasNode #[.agg #[x7_0.v, x7_1.v, x7_2.v], .int .i64 v] w1 (Ret [.at .bool] fun (x9 : Bool) w2 =>
  cond x9 (
  LD [.sl] (p_n.add 0) w2 fun (x13 : Sl) =>
  IX x13 v 1 fun (px15 : Addr) =>
  LD [.sl] px15 w2 fun (x16 : Sl) =>
  Calls Tryd.prog F.i_within #[.int .i64 i, .int .i64 0, .int .i64 (IntKind.i64.wrap (x16.len - 1))] w2 (Ret [.at .bool] fun (x19 : Bool) w3 =>
  Q x19 w3)) (
  Q false w2))

theorem C_i_Network_hasPort {Q : Bool → World → Prop} {n_0 : Sl} {n_1 : Sl} {n_2 : Sl} {v : Int} {i : Int} {w : World} (h : V_i_Network_hasPort Q n_0 n_1 n_2 v i w) : Calls Tryd.prog F.i_Network_hasPort #[.agg #[n_0.v, n_1.v, n_2.v], .int .i64 v, .int .i64 i] w (Ret [.at .bool] Q) :=
  mkC (hint := hint) (ann := annOf []) (args := [.agg #[n_0.v, n_1.v, n_2.v], .int .i64 v, .int .i64 i]) (rs := [.at .bool]) Tryd.func50 (by kernel_rfl) (by kernel_rfl) h

def V_slices_Repeat_sl_int_int_k2 (x : Sl) (Q : Sl → World → Prop) (x18_1 : Int) (w2 : World) : Prop :=
  RUN Tryd.prog (.at .sl) (Instr.makeSlice T.t_sl_int (.int .i64 (IntKind.i64.wrap x18_1)) (.int .i64 (IntKind.i64.wrap x18_1))) w2 fun (x30 : Sl) w3 =>
  RUN Tryd.prog (.at (.int .i64)) (bsem .copy #[T.t_sl_int, T.t_sl_int] T.t_int #[x30.v, x.v]) w3 fun (x33 : Int) w4 =>
  ∃ (I8 : Int → World → Prop) (m8 : Int → World → Nat), I8 x33 w4 ∧ ∀ (n : Int) w5, I8 n w5 → ∀ _ _ _ _ _ _ _ _ _ _ _ _ _ : Value,
  cond (decide ((n : Int) < x30.len)) (
  ∀ w6, Ext w5 w6 → w6.heap = w5.heap → ∃ (D6 : Nat → Prop),
  SLC x30 (some n) none 1 fun (x41 : Sl) =>
  Chg w6 w6 D6 ∧ (
  SLC x30 none (some n) 1 fun (x44 : Sl) =>
  Chg w6 w6 D6 ∧ (
  RUN Tryd.prog (.at (.int .i64)) (bsem .copy #[T.t_sl_int, T.t_sl_int] T.t_int #[x41.v, x44.v]) w6 fun (x45 : Int) w7 =>
  Chg w6 w7 D6 ∧ (
  Chg w6 w7 D6 ∧ (
  I8 (IntKind.i64.wrap (n + x45)) w7 ∧ m8 (IntKind.i64.wrap (n + x45)) w7 < m8 n w5))))) (
  Q x30 w5)

def V_slices_Repeat_sl_int_int (Q : Sl → World → Prop) (x : Sl) (count : Int) (w : World) : Prop :=
  cond (decide ((count : Int) < 0)) (
  False) (
  Calls Tryd.prog F.math_bits_Mul #[.int .u64 (IntKind.u64.wrap x.len), .int .u64 (IntKind.u64.wrap count)] w (Ret [.at (.int .u64), .at (.int .u64)] fun (x18_0 : Int) (x18_1 : Int) w1 =>
  cond (decide ((x18_0 : Int) > 0)) (
  False) (
  cond (decide ((x18_1 : Int) > 9223372036854775807)) (
  False) (
  V_slices_Repeat_sl_int_int_k2 x Q x18_1 w1))))

theorem C_slices_Repeat_sl_int_int {Q : Sl → World → Prop} {x : Sl} {count : Int} {w : World} (h : V_slices_Repeat_sl_int_int Q x count w) : Calls Tryd.prog F.slices_Repeat_sl_int_int #[x.v, .int .i64 count] w (Ret [.at .sl] Q) :=
  mkC (hint := hint) (ann := annOf [(8, ⟨[(8, .int .i64)], [34, 35, 36, 37, 38, 39, 40, 41, 42, 43, 44, 45, 46]⟩)]) (args := [x.v, .int .i64 count]) (rs := [.at .sl]) Tryd.func51 (by kernel_rfl) (by kernel_rfl) h

def V_l_eqEndS (Q : Bool → World → Prop) (a : Sl) (b : Sl) (w : World) : Prop :=
  cond ((a.len : Int) != b.len) (
  Q false w) (
  ∃ (I4 : Int → World → Prop) (m4 : Int → World → Nat), I4 0 w ∧ ∀ (i : Int) w1, I4 i w1 → ∀ _ _ _ _ _ _ _ _ _ _ _ _ _ _ _ _ _ : Value,
  cond (decide ((i : Int) < a.len)) (
  IX a i 2 fun (px19 : Addr) =>
  LD [.int .i64, .int .i64] px19 w1 fun (x20_0 : Int) (x20_1 : Int) =>
  IX b i 2 fun (px23 : Addr) =>
  LD [.int .i64, .int .i64] px23 w1 fun (x24_0 : Int) (x24_1 : Int) =>
  QCALL Tryd.prog F.l_eqEnd #[.agg #[.int .i64 x20_0, .int .i64 x20_1], .agg #[.int .i64 x24_0, .int .i64 x24_1]] w1 [.at .bool] fun (x25 : Bool) =>
  ∀ w2, Ext w1 w2 →
  cond (!x25) (
  Q false w2) (
  I4 (IntKind.i64.wrap (i + 1)) w2 ∧ m4 (IntKind.i64.wrap (i + 1)) w2 < m4 i w1)) (
  Q true w1))

theorem C_l_eqEndS {Q : Bool → World → Prop} {a : Sl} {b : Sl} {w : World} (h : V_l_eqEndS Q a b w) : Calls Tryd.prog F.l_eqEndS #[a.v, b.v] w (Ret [.at .bool] Q) :=
  mkC (hint := hint) (ann := annOf [(4, ⟨[(5, .int .i64)], [4, 11, 12, 13, 14, 15, 16, 17, 18, 19, 20, 21, 22, 23, 24, 25, 26]⟩)]) (args := [a.v, b.v]) (rs := [.at .bool]) Tryd.func53 (by kernel_rfl) (by kernel_rfl) h

def V_l_markEndS (Q : Int → World → Prop) (a : Sl) (k : Int) (w : World) : Prop :=
  ∃ (I2 : Int → Int → World → Prop) (m2 : Int → Int → World → Nat), I2 k 0 w ∧ ∀ (k_2 : Int) (i : Int) w1, I2 k_2 i w1 → ∀ _ _ _ _ _ _ _ _ _ _ _ _ _ _ _ _ _ _ _ _ : Value,
  cond (decide ((i : Int) < a.len)) (
  IX a i 2 fun (px15 : Addr) =>
  ST (px15.add 0) 0 [.int .i64 k_2] w1 fun w2 =>
  IX a i 2 fun (px22 : Addr) =>
  ST (px22.add 1) 0 [.int .i64 (IntKind.i64.wrap (k_2 + 1))] w2 fun w3 =>
  I2 (IntKind.i64.wrap ((IntKind.i64.wrap (k_2 + 1)) + 1)) (IntKind.i64.wrap (i + 1)) w3 ∧ m2 (IntKind.i64.wrap ((IntKind.i64.wrap (k_2 + 1)) + 1)) (IntKind.i64.wrap (i + 1)) w3 < m2 k_2 i w1) (
  Q k_2 w1)

theorem C_l_markEndS {Q : Int → World → Prop} {a : Sl} {k : Int} {w : World} (h : V_l_markEndS Q a k w) : Calls Tryd.prog F.l_markEndS #[a.v, .int .i64 k] w (Ret [.at (.int .i64)] Q) :=
  mkC (hint := hint) (ann := annOf [(2, ⟨[(1, .int .i64), (5, .int .i64)], [6, 7, 8, 9, 10, 11, 12, 13, 14, 15, 16, 17, 18, 19, 20, 21, 22, 23, 24, 25]⟩)]) (args := [a.v, .int .i64 k]) (rs := [.at (.int .i64)]) Tryd.func54 (by kernel_rfl) (by kernel_rfl) h

end Go.Proofs.YtaeledhbkdakcaaDoor
end

section
/- What each function's code computes to. Printed by a program. -/
namespace Go.Proofs.YtaeledhbkdakcaaDoor
open Go.GX Go.RowKit
set_option linter.unusedVariables false
set_option maxRecDepth 100000

def V_s_l1Has (Q : Bool → World → Prop) (l : Sl) (n : Int) (w : World) : Prop :=
  ∃ (I2 : Int → World → Prop) (m2 : Int → World → Nat), I2 0 w ∧ ∀ (x9 : Int) w1, I2 x9 w1 → ∀ _ _ _ _ _ _ _ _ _ : Value,
  cond (decide ((x9 : Int) < l.len)) (
  IX l x9 1 fun (px11 : Addr) =>
  LD [.int .i64] px11 w1 fun (x12 : Int) =>
  cond ((x12 : Int) == n) (
  Q true w1) (
  I2 (IntKind.i64.wrap (x9 + 1)) w1 ∧ m2 (IntKind.i64.wrap (x9 + 1)) w1 < m2 x9 w1)) (
  Q false w1)

theorem C_s_l1Has {Q : Bool → World → Prop} {l : Sl} {n : Int} {w : World} (h : V_s_l1Has Q l n w) : Calls Tryd.prog F.s_l1Has #[l.v, .int .i64 n] w (Ret [.at .bool] Q) :=
  mkC (hint := hint) (ann := annOf [(2, ⟨[(9, .int .i64)], [4, 6, 10, 11, 12, 13, 14, 15, 16]⟩)]) (args := [l.v, .int .i64 n]) (rs := [.at .bool]) Tryd.func71 (by kernel_rfl) (by kernel_rfl) h

def V_s_l1Own (Q : Sl → World → Prop) (l : Sl) (w : World) : Prop :=
  RUN Tryd.prog (.at .sl) (Instr.buildSlice T.t_sl_int 0 #[]) w fun (x3 : Sl) w1 =>
  RUN Tryd.prog (.at .sl) (bsem .append #[T.t_sl_int, T.t_sl_int] T.t_sl_int #[x3.v, l.v]) w1 fun (x5 : Sl) w2 =>
  Q x5 w2

theorem C_s_l1Own {Q : Sl → World → Prop} {l : Sl} {w : World} (h : V_s_l1Own Q l w) : Calls Tryd.prog F.s_l1Own #[l.v] w (Ret [.at .sl] Q) :=
  mkC (hint := hint) (ann := annOf []) (args := [l.v]) (rs := [.at .sl]) Tryd.func72 (by kernel_rfl) (by kernel_rfl) h

def V_l_toEnd (Q : Int → Int → World → Prop) (a_0 : Int) (a_1 : Int) (w : World) : Prop :=
  NEW T.t_l_End #[.int .i64 a_0, .int .i64 a_1] w fun (p_a : Addr) w1 =>
  NEW T.t_i_End #[.int .i64 0, .int .i64 0] w1 fun (px2 : Addr) w2 =>
  NEW T.t_i_End #[.int .i64 0, .int .i64 0] w2 fun (p_out : Addr) w3 =>
  LD [.int .i64] (p_a.add 0) w3 fun (x5 : Int) =>
  ST (p_out.add 0) 0 [.int .i64 x5] w3 fun w4 =>
  LD [.int .i64] (p_a.add 1) w4 fun (x8 : Int) =>
  ST (p_out.add 1) 0 [.int .i64 x8] w4 fun w5 =>
  LD [.int .i64, .int .i64] p_out w5 fun (x10_0 : Int) (x10_1 : Int) =>
  ST px2 0 [.int .i64 x10_0, .int .i64 x10_1] w5 fun w6 =>
  LD [.int .i64, .int .i64] px2 w6 fun (r0_0 : Int) (r0_1 : Int) =>
  Q r0_0 r0_1 w6

theorem C_l_toEnd {Q : Int → Int → World → Prop} {a_0 : Int} {a_1 : Int} {w : World} (h : V_l_toEnd Q a_0 a_1 w) : Calls Tryd.prog F.l_toEnd #[.agg #[.int .i64 a_0, .int .i64 a_1]] w (Ret [.agg [.int .i64, .int .i64]] Q) :=
  mkC (hint := hint) (ann := annOf []) (args := [.agg #[.int .i64 a_0, .int .i64 a_1]]) (rs := [.agg [.int .i64, .int .i64]]) Tryd.func73 (by kernel_rfl) (by kernel_rfl) h

def V_slices_Clone_sl_int_int (Q : Sl → World → Prop) (s : Sl) (w : World) : Prop :=
  cond s.a.isNone (
  Q (⟨none, 0, 0⟩) w) (
  RUN Tryd.prog (.at .sl) (Instr.buildSlice T.t_sl_int 0 #[]) w fun (x5 : Sl) w1 =>
  RUN Tryd.prog (.at .sl) (bsem .append #[T.t_sl_int, T.t_sl_int] T.t_sl_int #[x5.v, s.v]) w1 fun (x7 : Sl) w2 =>
  Q x7 w2)

theorem C_slices_Clone_sl_int_int {Q : Sl → World → Prop} {s : Sl} {w : World} (h : V_slices_Clone_sl_int_int Q s w) : Calls Tryd.prog F.slices_Clone_sl_int_int #[s.v] w (Ret [.at .sl] Q) :=
  mkC (hint := hint) (ann := annOf []) (args := [s.v]) (rs := [.at .sl]) Tryd.func74 (by kernel_rfl) (by kernel_rfl) h

def V_i_increasing (Q : Bool → World → Prop) (list : Sl) (low : Int) (high : Int) (w : World) : Prop :=
  ∃ (I2 : Int → World → Prop) (m2 : Int → World → Nat), I2 0 w ∧ ∀ (x11 : Int) w1, I2 x11 w1 → ∀ _ _ _ _ _ _ _ _ _ _ _ _ _ _ _ _ _ _ _ _ _ _ _ _ _ _ : Value,
  cond (decide ((x11 : Int) < list.len)) (
  IX list x11 1 fun (px14 : Addr) =>
  LD [.int .i64] px14 w1 fun (x15 : Int) =>
  Calls Tryd.prog F.i_within #[.int .i64 x15, .int .i64 low, .int .i64 high] w1 (Ret [.at .bool] fun (x19 : Bool) w2 =>
  cond (!x19) (
  Q false w2) (
  cond (decide ((x11 : Int) > 0)) (
  IX list (IntKind.i64.wrap (x11 - 1)) 1 fun (px28 : Addr) =>
  LD [.int .i64] px28 w2 fun (x29 : Int) =>
  cond (decide ((x29 : Int) ≥ x15)) (
  Q false w2) (
  I2 (IntKind.i64.wrap (x11 + 1)) w2 ∧ m2 (IntKind.i64.wrap (x11 + 1)) w2 < m2 x11 w1)) (
  I2 (IntKind.i64.wrap (x11 + 1)) w2 ∧ m2 (IntKind.i64.wrap (x11 + 1)) w2 < m2 x11 w1)))) (
  Q true w1)

theorem C_i_increasing {Q : Bool → World → Prop} {list : Sl} {low : Int} {high : Int} {w : World} (h : V_i_increasing Q list low high w) : Calls Tryd.prog F.i_increasing #[list.v, .int .i64 low, .int .i64 high] w (Ret [.at .bool] Q) :=
  mkC (hint := hint) (ann := annOf [(2, ⟨[(11, .int .i64)], [6, 7, 8, 12, 13, 14, 15, 16, 17, 18, 19, 20, 21, 22, 23, 24, 25, 26, 27, 28, 29, 30, 31, 32, 33, 34]⟩)]) (args := [list.v, .int .i64 low, .int .i64 high]) (rs := [.at .bool]) Tryd.func76 (by kernel_rfl) (by kernel_rfl) h

def V_i_allWithin (Q : Bool → World → Prop) (list : Sl) (low : Int) (high : Int) (w : World) : Prop :=
  NEW T.t_int #[.int .i64 low] w fun (p_low : Addr) w1 =>
  NEW T.t_int #[.int .i64 high] w1 fun (p_high : Addr) w2 =>
  Calls Tryd.prog F.slices_ContainsFunc_sl_int_int #[list.v, .func (.func F.i_allWithin_1) #[] #[.pointer (some p_low), .pointer (some p_high)]] w2 (Ret [.at .bool] fun (x9 : Bool) w3 =>
  Q (!x9) w3)

theorem C_i_allWithin {Q : Bool → World → Prop} {list : Sl} {low : Int} {high : Int} {w : World} (h : V_i_allWithin Q list low high w) : Calls Tryd.prog F.i_allWithin #[list.v, .int .i64 low, .int .i64 high] w (Ret [.at .bool] Q) :=
  mkC (hint := hint) (ann := annOf []) (args := [list.v, .int .i64 low, .int .i64 high]) (rs := [.at .bool]) Tryd.func77 (by kernel_rfl) (by kernel_rfl) h

def V_i_Network_hasNode (Q : Bool → World → Prop) (n_0 : Sl) (n_1 : Sl) (n_2 : Sl) (v : Int) (w : World) : Prop :=
  NEW T.t_i_Network #[n_0.v, n_1.v, n_2.v] w fun (p_n : Addr) w1 =>
  LD [.sl] (p_n.add 0) w1 fun (x7 : Sl) =>
  Calls Tryd.prog F.i_within #[.int .i64 v, .int .i64 0, .int .i64 (IntKind.i64.wrap (x7.len - 1))] w1 (Ret [.at .bool] fun (x10 : Bool) w2 =>
  Q x10 w2)

theorem C_i_Network_hasNode {Q : Bool → World → Prop} {n_0 : Sl} {n_1 : Sl} {n_2 : Sl} {v : Int} {w : World} (h : V_i_Network_hasNode Q n_0 n_1 n_2 v w) : Calls Tryd.prog F.i_Network_hasNode #[.agg #[n_0.v, n_1.v, n_2.v], .int .i64 v] w (Ret [.at .bool] Q) :=
  mkC (hint := hint) (ann := annOf []) (args := [.agg #[n_0.v, n_1.v, n_2.v], .int .i64 v]) (rs := [.at .bool]) Tryd.func78 (by kernel_rfl) (by kernel_rfl) h

def V_math_bits_Mul (Q : Int → Int → World → Prop) (x : Int) (y : Int) (w : World) : Prop :=
  Calls Tryd.prog F.math_bits_Mul64 #[.int .u64 x, .int .u64 y] w (Ret [.at (.int .u64), .at (.int .u64)] fun (x25_0 : Int) (x25_1 : Int) w1 =>
  Q x25_0 x25_1 w1)

theorem C_math_bits_Mul {Q : Int → Int → World → Prop} {x : Int} {y : Int} {w : World} (h : V_math_bits_Mul Q x y w) : Calls Tryd.prog F.math_bits_Mul #[.int .u64 x, .int .u64 y] w (Ret [.at (.int .u64), .at (.int .u64)] Q) :=
  mkC (hint := hint) (ann := annOf []) (args := [.int .u64 x, .int .u64 y]) (rs := [.at (.int .u64), .at (.int .u64)]) Tryd.func79 (by kernel_rfl) (by kernel_rfl) h

def V_l_eqEnd (Q : Bool → World → Prop) (a_0 : Int) (a_1 : Int) (b_0 : Int) (b_1 : Int) (w : World) : Prop :=
  NEW T.t_i_End #[.int .i64 a_0, .int .i64 a_1] w fun (p_a : Addr) w1 =>
  NEW T.t_i_End #[.int .i64 b_0, .int .i64 b_1] w1 fun (p_b : Addr) w2 =>
  LD [.int .i64] (p_a.add 0) w2 fun (x6 : Int) =>
  LD [.int .i64] (p_b.add 0) w2 fun (x8 : Int) =>
  cond ((x6 : Int) != x8) (
  Q false w2) (
  LD [.int .i64] (p_a.add 1) w2 fun (x11 : Int) =>
  LD [.int .i64] (p_b.add 1) w2 fun (x13 : Int) =>
  cond ((x11 : Int) != x13) (
  Q false w2) (
  Q true w2))

theorem C_l_eqEnd {Q : Bool → World → Prop} {a_0 : Int} {a_1 : Int} {b_0 : Int} {b_1 : Int} {w : World} (h : V_l_eqEnd Q a_0 a_1 b_0 b_1 w) : Calls Tryd.prog F.l_eqEnd #[.agg #[.int .i64 a_0, .int .i64 a_1], .agg #[.int .i64 b_0, .int .i64 b_1]] w (Ret [.at .bool] Q) :=
  mkC (hint := hint) (ann := annOf []) (args := [.agg #[.int .i64 a_0, .int .i64 a_1], .agg #[.int .i64 b_0, .int .i64 b_1]]) (rs := [.at .bool]) Tryd.func82 (by kernel_rfl) (by kernel_rfl) h

def V_slices_ContainsFunc_sl_int_int (Q : Bool → World → Prop) (s : Sl) (f : Value) (w : World) : Prop :=
  Calls Tryd.prog F.slices_IndexFunc_sl_int_int #[s.v, f] w (Ret [.at (.int .i64)] fun (x7 : Int) w1 =>
  Q (decide ((x7 : Int) ≥ 0)) w1)

theorem C_slices_ContainsFunc_sl_int_int {Q : Bool → World → Prop} {s : Sl} {f : Value} {w : World} (h : V_slices_ContainsFunc_sl_int_int Q s f w) : Calls Tryd.prog F.slices_ContainsFunc_sl_int_int #[s.v, f] w (Ret [.at .bool] Q) :=
  mkC (hint := hint) (ann := annOf []) (args := [s.v, f]) (rs := [.at .bool]) Tryd.func94 (by kernel_rfl) (by kernel_rfl) h

def V_i_allWithin_1 (Q : Bool → World → Prop) (n : Int) (cap0 : Addr) (cap1 : Addr) (w : World) : Prop :=
  LD [.int .i64] cap0 w fun (x6 : Int) =>
  LD [.int .i64] cap1 w fun (x7 : Int) =>
  Calls Tryd.prog F.i_within #[.int .i64 n, .int .i64 x6, .int .i64 x7] w (Ret [.at .bool] fun (x8 : Bool) w1 =>
  Q (!x8) w1)

theorem C_i_allWithin_1 {Q : Bool → World → Prop} {n : Int} {cap0 : Addr} {cap1 : Addr} {w : World} (h : V_i_allWithin_1 Q n cap0 cap1 w) : Calls Tryd.prog F.i_allWithin_1 #[.int .i64 n, .pointer (some cap0), .pointer (some cap1)] w (Ret [.at .bool] Q) :=
  mkC (hint := hint) (ann := annOf []) (args := [.int .i64 n, .pointer (some cap0), .pointer (some cap1)]) (rs := [.at .bool]) Tryd.func95 (by kernel_rfl) (by kernel_rfl) h

def V_math_bits_Mul64 (Q : Int → Int → World → Prop) (x : Int) (y : Int) (w : World) : Prop :=
  (0 : Int) ≤ 32 ∧ (
  (0 : Int) ≤ 32 ∧ (
  (0 : Int) ≤ 32 ∧ (
  (0 : Int) ≤ 32 ∧ (
  (0 : Int) ≤ 32 ∧ (
  Q (IntKind.u64.wrap ((IntKind.u64.wrap ((IntKind.u64.wrap ((shrI .u64 x 32) * (shrI .u64 y 32))) + (shrI .u64 (IntKind.u64.wrap ((IntKind.u64.wrap ((shrI .u64 x 32) * (bitAnd .u64 y 4294967295))) + (shrI .u64 (IntKind.u64.wrap ((bitAnd .u64 x 4294967295) * (bitAnd .u64 y 4294967295))) 32))) 32))) + (shrI .u64 (IntKind.u64.wrap ((bitAnd .u64 (IntKind.u64.wrap ((IntKind.u64.wrap ((shrI .u64 x 32) * (bitAnd .u64 y 4294967295))) + (shrI .u64 (IntKind.u64.wrap ((bitAnd .u64 x 4294967295) * (bitAnd .u64 y 4294967295))) 32))) 4294967295) + (IntKind.u64.wrap ((bitAnd .u64 x 4294967295) * (shrI .u64 y 32))))) 32))) (IntKind.u64.wrap (x * y)) w)))))

theorem C_math_bits_Mul64 {Q : Int → Int → World → Prop} {x : Int} {y : Int} {w : World} (h : V_math_bits_Mul64 Q x y w) : Calls Tryd.prog F.math_bits_Mul64 #[.int .u64 x, .int .u64 y] w (Ret [.at (.int .u64), .at (.int .u64)] Q) :=
  mkC (hint := hint) (ann := annOf []) (args := [.int .u64 x, .int .u64 y]) (rs := [.at (.int .u64), .at (.int .u64)]) Tryd.func97 (by kernel_rfl) (by kernel_rfl) h

def V_slices_IndexFunc_sl_int_int (Q : Int → World → Prop) (s : Sl) (f : Value) (w : World) : Prop :=
  ∃ (I2 : Int → World → Prop) (m2 : Int → World → Nat), I2 0 w ∧ ∀ (x8 : Int) w1, I2 x8 w1 → ∀ _ _ _ _ _ _ _ _ _ _ _ _ : Value,
  cond (decide ((x8 : Int) < s.len)) (
  IX s x8 1 fun (px14 : Addr) =>
  LD [.int .i64] px14 w1 fun (x15 : Int) =>
  CALLV Tryd.prog f #[.int .i64 x15] w1 (Ret [.at .bool] fun (x16 : Bool) w2 =>
  cond x16 (
  Q x8 w2) (
  I2 (IntKind.i64.wrap (x8 + 1)) w2 ∧ m2 (IntKind.i64.wrap (x8 + 1)) w2 < m2 x8 w1))) (
  Q (-1) w1)

theorem C_slices_IndexFunc_sl_int_int {Q : Int → World → Prop} {s : Sl} {f : Value} {w : World} (h : V_slices_IndexFunc_sl_int_int Q s f w) : Calls Tryd.prog F.slices_IndexFunc_sl_int_int #[s.v, f] w (Ret [.at (.int .i64)] Q) :=
  mkC (hint := hint) (ann := annOf [(2, ⟨[(8, .int .i64)], [4, 5, 9, 10, 11, 12, 13, 14, 15, 16, 17, 18]⟩)]) (args := [s.v, f]) (rs := [.at (.int .i64)]) Tryd.func119 (by kernel_rfl) (by kernel_rfl) h

end Go.Proofs.YtaeledhbkdakcaaDoor
end

section
/- What the code of the comparison of integers computes to. Printed by a program. -/
namespace Go.Proofs.YtaeledhbkdakcaaDoor
open Go.GX Go.RowKit
set_option linter.unusedVariables false
set_option maxRecDepth 100000

end Go.Proofs.YtaeledhbkdakcaaDoor
end

section
/- All functions' propositions of this seat. -/
end

section
/- Rules for proving the propositions that functions compute to: memory read as lists, loops over indexes, calls. No program is named here. -/
namespace Go.GX
open Go.RowKit

/-! ### Numbers -/

def I64 (n : Int) : Prop := -9223372036854775808 ≤ n ∧ n ≤ 9223372036854775807

theorem wrap_of {n : Int} (h1 : -9223372036854775808 ≤ n) (h2 : n ≤ 9223372036854775807) : IntKind.i64.wrap n = n := by
  have e1 : (2 : Int) ^ 64 = 18446744073709551616 := rfl
  have e2 : (2 : Int) ^ 63 = 9223372036854775808 := rfl
  simp only [IntKind.wrap, IntKind.bits, IntKind.signed, Bool.true_and, decide_eq_true_eq, Nat.reduceSub, e1, e2]
  by_cases h : 0 ≤ n
  · have : n % 18446744073709551616 = n := Int.emod_eq_of_lt h (by omega)
    rw [this, if_neg (by omega)]
  · have : n % 18446744073709551616 = n + 18446744073709551616 := by omega
    rw [this, if_pos (by omega)]; omega

theorem add_zero' (a : Addr) : a.add 0 = a := rfl
theorem add_add (a : Addr) (m n : Nat) : (a.add m).add n = a.add (m + n) := by
  unfold Addr.add
  by_cases hm : m = 0
  · subst hm; simp
  · by_cases hn : n = 0
    · subst hn; simp [hm]
    · simp [hm, hn, Nat.add_assoc]


/-! ### Worlds -/

theorem Ext.size_le {w w' : World} (h : Ext w w') : w.heap.size ≤ w'.heap.size := h.size

theorem Ext.same {w w' : World} (h : Ext w w') {b : Nat} (hb : b < w.heap.size) : w'.heap[b]? = w.heap[b]? := h.block b hb

theorem cell_lt {w : World} {a : Addr} {v : Value} (h : w.cell? a = some v) : a.block < w.heap.size := World.block_lt_of_cell? w a h

theorem ext_push (w : World) (o : Obj) : Ext w { w with heap := w.heap.push o } :=
  ⟨rfl, rfl, rfl, by simp, fun k hk => by simp [Array.getElem?_push, Nat.ne_of_lt hk]⟩

theorem ext_setCell {w0 w : World} (h : Ext w0 w) {a : Addr} (ha : w0.heap.size ≤ a.block) (v : Value) : Ext w0 (w.setCell a v) := Below.setCell h ha v

/-- A block that the call itself has made: its cells, not frozen. -/
def Box (w : World) (p : Addr) (t : TypeId) (cs : List Value) : Prop := p.off = 0 ∧ p.spot = none ∧ w.heap[p.block]? = some (.cells ⟨cs⟩ t (0, 0))

theorem Box.cell {w : World} {p : Addr} {t : TypeId} {cs : List Value} (h : Box w p t cs) {i : Nat} {v : Value} (hi : cs[i]? = some v) : w.cell? (p.add i) = some v := by
  obtain ⟨h1, h2, h3⟩ := h
  unfold Addr.add
  by_cases h0 : i = 0
  · subst h0; simp [World.cell?, h3, h2, h1, hi]
  · simp [World.cell?, h3, h0, h1, hi]

theorem Box.frozen {w : World} {p : Addr} {t : TypeId} {cs : List Value} (h : Box w p t cs) (i : Nat) : w.frozen? (p.add i) = false := by
  obtain ⟨h1, h2, h3⟩ := h
  have : (p.add i).block = p.block := by unfold Addr.add; split <;> rfl
  simp [World.frozen?, this, h3]

theorem Box.lt {w : World} {p : Addr} {t : TypeId} {cs : List Value} (h : Box w p t cs) : p.block < w.heap.size := (Array.getElem?_eq_some_iff.1 h.2.2).1

theorem Box.ext {w w' : World} {p : Addr} {t : TypeId} {cs : List Value} (h : Box w p t cs) (hE : Ext w w') : Box w' p t cs :=
  ⟨h.1, h.2.1, (hE.same h.lt).trans h.2.2⟩

theorem Box.of_block {w w' : World} {p : Addr} {t : TypeId} {cs : List Value} (h : Box w p t cs) (hE : w'.heap[p.block]? = w.heap[p.block]?) : Box w' p t cs :=
  ⟨h.1, h.2.1, hE.trans h.2.2⟩

theorem add_block (p : Addr) (i : Nat) : (p.add i).block = p.block := by unfold Addr.add; split <;> rfl

theorem Box.set {w : World} {p : Addr} {t : TypeId} {cs : List Value} (h : Box w p t cs) (i : Nat) (v : Value) : Box (w.setCell (p.add i) v) p t (cs.set i v) := by
  obtain ⟨h1, h2, h3⟩ := h
  refine ⟨h1, h2, ?_⟩
  have hb : (p.add i).block = p.block := add_block p i
  have ho : (p.add i).off = i := by unfold Addr.add; split <;> simp_all
  have hs : (p.add i).spot = none := by unfold Addr.add; split <;> simp_all
  have hlt := (Array.getElem?_eq_some_iff.1 h3).1
  have hv := (Array.getElem?_eq_some_iff.1 h3).2
  simp only [World.setCell, Array.getElem?_modify, hb, ho, hs]
  simp [h3]

/-- A new variable: its block is the next one. -/
theorem NEW_intro {t : TypeId} {cs : List Value} {w : World} {K : Addr → World → Prop}
    (h : ∀ p w', p.block = w.heap.size → w'.heap.size = w.heap.size + 1 → Ext w w' → Box w' p t cs → K p w') : NEW t ⟨cs⟩ w K :=
  h _ _ rfl (by simp) (ext_push w _) ⟨rfl, rfl, by simp⟩

theorem setCell_size (w : World) (a : Addr) (v : Value) : (w.setCell a v).heap.size = w.heap.size := by simp [World.setCell]

theorem setCell_other (w : World) (a : Addr) (v : Value) {b : Nat} (h : b ≠ a.block) : (w.setCell a v).heap[b]? = w.heap[b]? := Below.heap_setCell w a v b h

/-- A store of one cell into a block of the call's own. -/
theorem ST_box1 {w : World} {p : Addr} {t : TypeId} {cs : List Value} {i : Nat} {v : Value} {K : World → Prop} (h : Box w p t cs) (hi : i < cs.length) (h1 : v.oneCell' = true)
    (hk : ∀ w', w'.heap.size = w.heap.size → (∀ b, b ≠ p.block → w'.heap[b]? = w.heap[b]?) → (∀ w0, Ext w0 w → w0.heap.size ≤ p.block → Ext w0 w') → Box w' p t (cs.set i v) → K w') : ST (p.add i) 0 [v] w K := by
  refine ⟨h1, ⟨cs[i], ?_⟩, ?_, hk _ (setCell_size _ _ _) (fun b hb => setCell_other _ _ _ (by rw [add_add, add_block]; exact hb)) (fun w0 h0 hle => ext_setCell h0 (by rw [add_add, add_block]; exact hle) v) (by rw [add_add]; exact h.set _ v)⟩
  · rw [add_add]; exact h.cell (by simp [hi])
  · rw [add_add]; exact h.frozen _

/-! ### Loads -/

section
variable {w : World} {a : Addr}

theorem LD_sl {K : Sl → Prop} {s : Sl} (hc : w.cell? a = some s.v) (hk : K s) : LD [.sl] a w K :=
  ⟨[s.v], rfl, fun i v hi => by match i, hi with | 0, hi => simp at hi; subst hi; exact hc, hk⟩
theorem LD_int {K : Int → Prop} {n : Int} (hc : w.cell? a = some (.int .i64 n)) (hk : K n) : LD [.int .i64] a w K :=
  ⟨[.int .i64 n], rfl, fun i v hi => by match i, hi with | 0, hi => simp at hi; subst hi; exact hc, hk⟩
theorem LD_int2 {K : Int → Int → Prop} {x y : Int} (h0 : w.cell? (a.add 0) = some (.int .i64 x)) (h1 : w.cell? (a.add 1) = some (.int .i64 y)) (hk : K x y) : LD [.int .i64, .int .i64] a w K :=
  ⟨[.int .i64 x, .int .i64 y], rfl, fun i v hi => by
    match i, hi with
    | 0, hi => simp at hi; subst hi; exact h0
    | 1, hi => simp at hi; subst hi; exact h1, hk⟩
theorem LD_sl3 {K : Sl → Sl → Sl → Prop} {x y z : Sl} (h0 : w.cell? (a.add 0) = some x.v) (h1 : w.cell? (a.add 1) = some y.v) (h2 : w.cell? (a.add 2) = some z.v) (hk : K x y z) : LD [.sl, .sl, .sl] a w K :=
  ⟨[x.v, y.v, z.v], rfl, fun i v hi => by
    match i, hi with
    | 0, hi => simp at hi; subst hi; exact h0
    | 1, hi => simp at hi; subst hi; exact h1
    | 2, hi => simp at hi; subst hi; exact h2, hk⟩
end

/-! ### Memory read as data -/

class Rep (α : Type) where
  sz : Nat
  rep : (Nat → Prop) → World → List Value → α → Prop
  len : ∀ {D w cs a}, rep D w cs a → cs.length = sz
  agr : ∀ {D : Nat → Prop} {w w' : World} {cs a}, (∀ b, D b → w'.heap[b]? = w.heap[b]?) → rep D w cs a → rep D w' cs a
  weak : ∀ {D D' : Nat → Prop} {w cs a}, (∀ b, D b → b < w.heap.size → D' b) → rep D w cs a → rep D' w cs a

/-- The slice s reads as the list l, by blocks in D. -/
def SlR {α : Type} [Rep α] (D : Nat → Prop) (w : World) (s : Sl) (l : List α) : Prop :=
  s.len = l.length ∧ (s.len ≤ s.cap ∧ s.cap ≤ 9223372036854775807) ∧ ∀ i x, l[i]? = some x → ∃ a cs, s.a = some a ∧ D a.block ∧ Rep.rep D w cs x ∧ ∀ j v, cs[j]? = some v → w.cell? (a.add (i * Rep.sz α + j)) = some v

instance : Rep Int where
  sz := 1
  rep _ _ cs n := cs = [.int .i64 n] ∧ I64 n
  len h := by rw [h.1]; rfl
  agr _ h := h
  weak _ h := h

instance : Rep Bool where
  sz := 1
  rep _ _ cs n := cs = [.bool n]
  len h := by rw [h]; rfl
  agr _ h := h
  weak _ h := h

instance : Rep (Int × Int) where
  sz := 2
  rep _ _ cs n := cs = [.int .i64 n.1, .int .i64 n.2] ∧ I64 n.1 ∧ I64 n.2
  len h := by rw [h.1]; rfl
  agr _ h := h
  weak _ h := h

instance : Rep (Int × Int × Int × Int) where
  sz := 4
  rep _ _ cs n := cs = [.int .i64 n.1, .int .i64 n.2.1, .int .i64 n.2.2.1, .int .i64 n.2.2.2] ∧ I64 n.1 ∧ I64 n.2.1 ∧ I64 n.2.2.1 ∧ I64 n.2.2.2
  len h := by rw [h.1]; rfl
  agr _ h := h
  weak _ h := h

section
variable {α : Type} [Rep α] {D D' : Nat → Prop} {w w' : World} {s : Sl} {l : List α}

theorem SlR.agr (hE : ∀ b, D b → w'.heap[b]? = w.heap[b]?) (h : SlR D w s l) : SlR D w' s l :=
  ⟨h.1, h.2.1, fun i x hx => by
    obtain ⟨a, cs, h1, h2, h3, h4⟩ := h.2.2 i x hx
    exact ⟨a, cs, h1, h2, Rep.agr hE h3, fun j v hj => by
      have hb : w'.heap[(a.add (i * Rep.sz α + j)).block]? = w.heap[(a.add (i * Rep.sz α + j)).block]? := by rw [add_block]; exact hE _ h2
      rw [World.cell?_of_block hb]; exact h4 j v hj⟩⟩

theorem SlR.weak (hD : ∀ b, D b → b < w.heap.size → D' b) (h : SlR D w s l) (hsz : 0 < Rep.sz α) : SlR D' w s l :=
  ⟨h.1, h.2.1, fun i x hx => by
    obtain ⟨a, cs, h1, h2, h3, h4⟩ := h.2.2 i x hx
    have hl : cs.length = Rep.sz α := Rep.len h3
    have hlt : a.block < w.heap.size := by
      have := cell_lt (h4 0 cs[0] (by simp))
      rwa [add_block] at this
    exact ⟨a, cs, h1, hD _ h2 hlt, Rep.weak hD h3, h4⟩⟩
end

class RepP (α : Type) extends Rep α where
  pos : 0 < sz

instance : RepP Int := ⟨by decide⟩
instance : RepP Bool := ⟨by decide⟩
instance : RepP (Int × Int) := ⟨by decide⟩
instance : RepP (Int × Int × Int × Int) := ⟨by decide⟩

instance {α : Type} [RepP α] : Rep (List α) where
  sz := 1
  rep D w cs l := ∃ s : Sl, cs = [s.v] ∧ SlR D w s l
  len h := by obtain ⟨s, rfl, _⟩ := h; rfl
  agr hE h := by obtain ⟨s, rfl, h⟩ := h; exact ⟨s, rfl, h.agr hE⟩
  weak hD h := by obtain ⟨s, rfl, h⟩ := h; exact ⟨s, rfl, h.weak hD RepP.pos⟩

instance {α : Type} [RepP α] : RepP (List α) := ⟨by show 0 < 1; decide⟩

abbrev R {α : Type} [Rep α] (w : World) (s : Sl) (l : List α) : Prop := SlR (fun _ => True) w s l

section
variable {α : Type} [RepP α] {D : Nat → Prop} {w w' : World} {s : Sl} {l : List α}

theorem SlR.any (h : SlR D w s l) : R w s l := h.weak (fun _ _ _ => trivial) RepP.pos
theorem SlR.below (h : SlR D w s l) : SlR (fun b => D b ∧ b < w.heap.size) w s l := h.weak (fun _ h1 h2 => ⟨h1, h2⟩) RepP.pos
theorem SlR.ext (hE : Ext w w') (h : SlR D w s l) : SlR D w' s l := by
  have h1 := h.below.agr (w' := w') fun b hb => hE.same hb.2
  exact h1.weak (fun _ h2 _ => h2.1) RepP.pos
theorem SlR.len (h : SlR D w s l) : s.len = l.length := h.1
theorem SlR.le (h : SlR D w s l) : l.length ≤ 9223372036854775807 := by have := h.1; have := h.2.1; omega
end

/-- The element of a slice: its address, and what lies there. -/
theorem SlR.ix {α : Type} [RepP α] {D : Nat → Prop} {w : World} {s : Sl} {l : List α} (h : SlR D w s l) {i : Int} {n : Nat} (hn : n = Rep.sz α) (h0 : 0 ≤ i) (hi : i < l.length) {K : Addr → Prop}
    (hk : ∀ p cs, Rep.rep D w cs (l[i.toNat]'(by omega)) → (∀ j v, cs[j]? = some v → w.cell? (p.add j) = some v) → K p) : IX s i n K := by
  obtain ⟨a, cs, h1, h2, h3, h4⟩ := h.2.2 i.toNat (l[i.toNat]'(by omega)) (by simp)
  refine ⟨a, h1, h0, by rw [h.1]; exact hi, hk _ cs h3 fun j v hj => ?_⟩
  subst hn
  rw [add_add]
  exact h4 j v hj

theorem SlR.ixI {D : Nat → Prop} {w : World} {s : Sl} {l : List Int} (h : SlR D w s l) {i : Nat} (hi : i < l.length) {K : Addr → Prop}
    (hk : ∀ p, I64 l[i] → w.cell? p = some (.int .i64 l[i]) → K p) : IX s i 1 K :=
  h.ix rfl (by omega) (by omega) fun p cs hr hc => by
    obtain ⟨rfl, h64⟩ := hr
    exact hk p h64 (hc 0 _ rfl)

theorem SlR.ixE {D : Nat → Prop} {w : World} {s : Sl} {l : List (Int × Int)} (h : SlR D w s l) {i : Nat} (hi : i < l.length) {K : Addr → Prop}
    (hk : ∀ p, I64 l[i].1 → I64 l[i].2 → w.cell? (p.add 0) = some (.int .i64 l[i].1) → w.cell? (p.add 1) = some (.int .i64 l[i].2) → K p) : IX s i 2 K :=
  h.ix rfl (by omega) (by omega) fun p cs hr hc => by
    obtain ⟨rfl, ha, hb⟩ := hr
    exact hk p ha hb (hc 0 _ rfl) (hc 1 _ rfl)

theorem SlR.ixL {α : Type} [RepP α] {D : Nat → Prop} {w : World} {s : Sl} {l : List (List α)} (h : SlR D w s l) {i : Nat} (hi : i < l.length) {K : Addr → Prop}
    (hk : ∀ p (s' : Sl), SlR D w s' l[i] → w.cell? p = some s'.v → K p) : IX s i 1 K :=
  h.ix rfl (by omega) (by omega) fun p cs hr hc => by
    obtain ⟨s', rfl, hs⟩ := hr
    exact hk p s' hs (hc 0 _ rfl)

theorem not_mem_take_succ {α : Type} {l : List α} {n : α} {i : Nat} (hi : i < l.length) (h : n ∉ l.take i) (hne : l[i] ≠ n) : n ∉ l.take (i + 1) := by
  rw [List.take_succ_eq_append_getElem hi]
  intro hm
  rcases List.mem_append.1 hm with h1 | h1
  · exact h h1
  · exact hne (List.mem_singleton.1 h1).symm

/-! ### Loops over an index -/

def IN (N : Nat) (I : Nat → World → Prop) (x : Int) (w : World) : Prop := ∃ i : Nat, x = i ∧ i ≤ N ∧ I i w
def MN (N : Nat) (x : Int) (_ : World) : Nat := N - x.toNat

theorem IN_zero {N : Nat} {I : Nat → World → Prop} {w : World} (h : I 0 w) : IN N I 0 w := ⟨0, rfl, Nat.zero_le _, h⟩

theorem IN_next {N i : Nat} {I : Nat → World → Prop} {w w' : World} (hN : N ≤ 9223372036854775807) (hi : i < N) (h : I (i + 1) w) :
    IN N I (IntKind.i64.wrap ((i : Int) + 1)) w ∧ MN N (IntKind.i64.wrap ((i : Int) + 1)) w < MN N i w' := by
  rw [wrap_of (by omega) (by omega)]
  exact ⟨⟨i + 1, by omega, hi, h⟩, by unfold MN; omega⟩

/-- A call that only computes, or that makes memory, in a region whose order is open. -/
theorem QCALL_bool {P : Program} {f : FuncId} {args : Array Value} {w : World} {K : Bool → Prop} (b : Bool)
    (h : ∀ w', Ext w w' → Calls P f args w' (Ret [.at .bool] fun (c : Bool) w'' => c = b ∧ Ext w' w'')) (hk : K b) : QCALL P f args w [.at .bool] K :=
  ⟨.bool b, [.bool b], rfl, fun w' hw => (h w' hw).mono fun e w'' he => by
    cases e with
    | returned v =>
      simp only [Ret] at he
      cases v <;> simp [unR, Sh.cells, app, At.un, atsR, botW] at he
      obtain ⟨rfl, h2⟩ := he
      exact ⟨rfl, h2⟩
    | panicked _ => exact he.elim
    | outgrown => exact he.elim, hk⟩

theorem CALLV_mk {P : Program} {g : FuncId} {caps : List Value} {args : Array Value} {w : World} {R : Ending → World → Prop} (hc : callable P g = true) (h : Calls P g ⟨args.toList ++ caps⟩ w R) : CALLV P (.func (.func g) #[] ⟨caps⟩) args w R :=
  ⟨g, caps, rfl, hc, h⟩


/-! ### Branches -/

section
variable {X Y : Prop}
theorem cond_t {b : Bool} (h : b = true) (hx : X) : cond b X Y := by subst h; exact hx
theorem cond_f {b : Bool} (h : b = false) (hy : Y) : cond b X Y := by subst h; exact hy
theorem cond_b {b : Bool} (ht : b = true → X) (hf : b = false → Y) : cond b X Y := by cases b; exact hf rfl; exact ht rfl
theorem cond_not {b : Bool} (hf : b = false → X) (ht : b = true → Y) : cond (!b) X Y := by cases b; exact hf rfl; exact ht rfl
theorem cond_dec {p : Prop} [Decidable p] (ht : p → X) (hf : ¬ p → Y) : cond (decide p) X Y := by
  by_cases h : p
  · rw [decide_eq_true h]; exact ht h
  · rw [decide_eq_false h]; exact hf h
theorem cond_df {p : Prop} [Decidable p] (h : ¬ p) (hy : Y) : cond (decide p) X Y := by rw [decide_eq_false h]; exact hy
theorem cond_eq {a b : Int} (ht : a = b → X) (hf : a ≠ b → Y) : cond (a == b) X Y := by
  by_cases h : a = b
  · rw [beq_iff_eq.2 h]; exact ht h
  · rw [beq_eq_false_iff_ne.2 h]; exact hf h
theorem cond_ne {a b : Int} (ht : a ≠ b → X) (hf : a = b → Y) : cond (a != b) X Y := by
  by_cases h : a = b
  · rw [bne_eq_false_iff_eq.2 h]; exact hf h
  · rw [bne_iff_ne.2 h]; exact ht h
end

/-! ### Small builtins -/

theorem RUN_max {P : Program} {t : TypeId} {ts : Array TypeId} {x y : Int} {w : World} {K : Int → World → Prop} (h : K (if x < y then y else x) w) : RUN P (.at (.int .i64)) (bsem .max ts t #[.int .i64 x, .int .i64 y]) w K := h


theorem Ret_bool {Q : Bool → World → Prop} {e : Ending} {w : World} (h : Ret [.at .bool] Q e w) : ∃ b, e = .returned (.bool b) ∧ Q b w := by
  cases e with
  | returned v =>
    simp only [Ret] at h
    cases v <;> simp [unR, Sh.cells, app, At.un, atsR, botW] at h
    exact ⟨_, rfl, h⟩
  | panicked _ => exact h.elim
  | outgrown => exact h.elim


/-! ### Slices of the call's own -/

/-- What is asked of a slice type: its elements' type, their cells and bytes, their zero value. -/
structure SlT (P : Program) (t e : TypeId) (size bytes : Nat) (z : Value) : Prop where
  under : P.underlying t = some (.slice e)
  info : (P.info? e).map (fun i => (i.zero, i.size, i.bytes)) = some (some z, size, bytes)
  zs : z.cells.size = size
  pos : 0 < size

theorem SlT.parts {P : Program} {t e : TypeId} {size bytes : Nat} {z : Value} (h : SlT P t e size bytes z) : ∃ i, P.info? e = some i ∧ i.zero = some z ∧ i.size = size ∧ i.bytes = bytes := by
  have := h.info
  cases hi : P.info? e with
  | none => rw [hi] at this; cases this
  | some i => rw [hi] at this; simp at this; exact ⟨i, rfl, this.1, this.2.1, this.2.2⟩

/-- The slice s is the call's own: its cells. -/
def Own (w : World) (base : Nat) (e : TypeId) (size : Nat) (s : Sl) (xs : List Value) : Prop := w.ownsRow base e size s.v s.len xs

theorem Own.nil (w : World) (base : Nat) (e : TypeId) (size : Nat) : Own w base e size ⟨none, 0, 0⟩ [] := World.ownsRow_nil w base e size

theorem Own.length {w : World} {base : Nat} {e : TypeId} {size : Nat} {s : Sl} {xs : List Value} (h : Own w base e size s xs) : xs.length = s.len * size := h.1

/-- What is behind a step that may write to one block of the call's own, and may make blocks. -/
structure Step (w w' : World) (g : Option Nat) : Prop where
  os : w'.os = w.os
  tape : w'.tape = w.tape
  output : w'.output = w.output
  size : w.heap.size ≤ w'.heap.size
  block : ∀ k, k < w.heap.size → some k ≠ g → w'.heap[k]? = w.heap[k]?

theorem Step.of_grown {w w' : World} {g : Option Nat} (h : w.grownBy w' g) : Step w w' g := ⟨h.os, h.tape, h.output, h.size, h.block⟩
theorem Step.ext {w w' : World} (h : Step w w' none) : Ext w w' := ⟨h.os, h.tape, h.output, h.size, fun k hk => h.block k hk (by simp)⟩
theorem Step.of_ext {w w' : World} (h : Ext w w') (g : Option Nat) : Step w w' g := ⟨h.os, h.tape, h.output, h.size, fun k hk _ => h.block k hk⟩
theorem Step.ext0 {w0 w w' : World} {g : Option Nat} (h : Step w w' g) (hE : Ext w0 w) (hg : ∀ k, g = some k → w0.heap.size ≤ k) : Ext w0 w' :=
  ⟨h.os.trans hE.os, h.tape.trans hE.tape, h.output.trans hE.output, Nat.le_trans hE.size h.size, fun k hk => (h.block k (Nat.lt_of_lt_of_le hk hE.size) (fun e => by have := hg k e.symm; omega)).trans (hE.block k hk)⟩

theorem Step.trans {a b c : World} {g : Option Nat} (h : Step a b g) (k : Step b c g) : Step a c g :=
  ⟨k.os.trans h.os, k.tape.trans h.tape, k.output.trans h.output, Nat.le_trans h.size k.size, fun b hb hne => (k.block b (Nat.lt_of_lt_of_le hb h.size) hne).trans (h.block b hb hne)⟩

theorem Step.refl (w : World) (g : Option Nat) : Step w w g := ⟨rfl, rfl, rfl, Nat.le_refl _, fun _ _ _ => rfl⟩

theorem Own.blk {w : World} {base : Nat} {e : TypeId} {size : Nat} {s : Sl} {xs : List Value} (h : Own w base e size s xs) : ∀ k, s.v.ownBlock = some k → base ≤ k ∧ k < w.heap.size := World.ownsRow.lt h

theorem Own.keep {w w' : World} {base : Nat} {e : TypeId} {size : Nat} {s : Sl} {xs : List Value} (h : Own w base e size s xs) (hb : ∀ k, s.v.ownBlock = some k → w'.heap[k]? = w.heap[k]?) : Own w' base e size s xs := by
  refine ⟨h.1, ?_⟩
  rcases h.2 with hn | ⟨g, cap, cur, hv, hb', hg, rest⟩
  · exact .inl hn
  · refine .inr ⟨g, cap, cur, hv, hb', ?_, rest⟩
    rw [hb g (by rw [hv]; rfl)]; exact hg

theorem Own.ext {w w' : World} {base : Nat} {e : TypeId} {size : Nat} {s : Sl} {xs : List Value} (h : Own w base e size s xs) (hE : Ext w w') : Own w' base e size s xs :=
  h.keep fun k hk => hE.same (h.blk k hk).2

class Flat (α : Type) extends RepP α where
  cells : α → List Value
  ok : α → Prop
  size : ∀ a, (cells a).length = sz
  one : ∀ a, ∀ v ∈ cells a, v.oneCell' = true
  repOk : ∀ {D w a}, ok a → rep D w (cells a) a
  ofRep : ∀ {D w cs a}, rep D w cs a → cs = cells a ∧ ok a

instance : Flat Int where
  cells n := [.int .i64 n]
  ok n := I64 n
  size _ := rfl
  one _ v hv := by simp at hv; subst hv; rfl
  repOk h := ⟨rfl, h⟩
  ofRep h := ⟨h.1, h.2⟩

instance : Flat Bool where
  cells n := [.bool n]
  ok _ := True
  size _ := rfl
  one _ v hv := by simp at hv; subst hv; rfl
  repOk _ := rfl
  ofRep h := ⟨h, trivial⟩

instance : Flat (Int × Int) where
  cells n := [.int .i64 n.1, .int .i64 n.2]
  ok n := I64 n.1 ∧ I64 n.2
  size _ := rfl
  one _ v hv := by simp at hv; rcases hv with rfl | rfl <;> rfl
  repOk h := ⟨rfl, h⟩
  ofRep h := ⟨h.1, h.2⟩

instance : Flat (Int × Int × Int × Int) where
  cells n := [.int .i64 n.1, .int .i64 n.2.1, .int .i64 n.2.2.1, .int .i64 n.2.2.2]
  ok n := I64 n.1 ∧ I64 n.2.1 ∧ I64 n.2.2.1 ∧ I64 n.2.2.2
  size _ := rfl
  one _ v hv := by simp at hv; rcases hv with rfl | rfl | rfl | rfl <;> rfl
  repOk h := ⟨rfl, h⟩
  ofRep h := ⟨h.1, h.2⟩

/-- The call's own slice s holds the list l. -/
def OwnL {α : Type} [Flat α] (w : World) (base : Nat) (e : TypeId) (s : Sl) (l : List α) : Prop :=
  s.len = l.length ∧ Own w base e (Rep.sz α) s (l.flatMap Flat.cells)

section
variable {α : Type} [Flat α] {w w' : World} {base : Nat} {e : TypeId} {s : Sl} {l : List α}

theorem flat_get (l : List α) {i j : Nat} {x : α} {v : Value} (hx : l[i]? = some x) (hv : (Flat.cells x)[j]? = some v) : (l.flatMap Flat.cells)[i * Rep.sz α + j]? = some v := by
  induction l generalizing i with
  | nil => cases hx
  | cons y r ih =>
    simp only [List.flatMap_cons]
    cases i with
    | zero =>
      simp at hx; subst hx
      have hlt := (List.getElem?_eq_some_iff.1 hv).1
      rw [List.getElem?_append_left (by simpa using hlt)]
      simpa using hv
    | succ i =>
      have hl : (Flat.cells y).length = Rep.sz α := Flat.size y
      rw [List.getElem?_append_right (by rw [hl, Nat.succ_mul]; omega), hl, show (i + 1) * Rep.sz α + j - Rep.sz α = i * Rep.sz α + j by rw [Nat.succ_mul]; omega]
      exact ih (by simpa using hx)

theorem OwnL.ext (h : OwnL w base e s l) (hE : Ext w w') : OwnL w' base e s l := ⟨h.1, h.2.ext hE⟩
theorem OwnL.keep (h : OwnL w base e s l) (hb : ∀ k, s.v.ownBlock = some k → w'.heap[k]? = w.heap[k]?) : OwnL w' base e s l := ⟨h.1, h.2.keep hb⟩
theorem OwnL.blk (h : OwnL w base e s l) : ∀ k, s.v.ownBlock = some k → base ≤ k ∧ k < w.heap.size := h.2.blk
theorem OwnL.nil (w : World) (base : Nat) (e : TypeId) : OwnL w base e ⟨none, 0, 0⟩ ([] : List α) := ⟨rfl, Own.nil _ _ _ _⟩

/-- What is owned reads as a list. -/
theorem OwnL.rep (h : OwnL w base e s l) (hok : ∀ x ∈ l, Flat.ok x) : SlR (fun b => base ≤ b) w s l := by
  obtain ⟨h1, h2⟩ := h
  refine ⟨h1, ?_, fun i x hx => ?_⟩
  · rcases h2.2 with ⟨hv, h0⟩ | ⟨g, cap, cur, hv, _, _, hle, hmx, _⟩
    · simp [Sl.v] at hv; omega
    · simp [Sl.v] at hv; obtain ⟨_, rfl⟩ := hv; exact ⟨hle, hmx⟩
  · rcases h2.2 with ⟨hv, h0⟩ | ⟨g, cap, cur, hv, hb, hg, hle, _, hsz, htake⟩
    · rw [h0] at h1; have : l = [] := by cases l; rfl; simp at h1
      subst this; cases hx
    · simp [Sl.v] at hv
      obtain ⟨ha, rfl⟩ := hv
      refine ⟨⟨g, 0, none⟩, Flat.cells x, ha, hb, Flat.repOk (hok x (List.mem_of_getElem? hx)), fun j v hj => ?_⟩
      have hown : w.ownsRow base e (Rep.sz α) s.v s.len (l.flatMap Flat.cells) := h2
      exact World.ownsRow.cells hown (g := g) (by simp [Sl.v, ha, Value.ownBlock]) _ v (flat_get l hx hj)

/-- The place of an element. -/
def Plc (s : Sl) (i size : Nat) (p : Addr) : Prop := ∃ a, s.a = some a ∧ p = a.add (i * size)

theorem IX_own (h : OwnL w base e s l) {i : Nat} (hi : i < l.length) {n : Nat} (hn : n = Rep.sz α) {K : Addr → Prop} (hk : ∀ p, Plc s i (Rep.sz α) p → K p) : IX s i n K := by
  subst hn
  rcases h.2.2 with ⟨hv, h0⟩ | ⟨g, cap, cur, hv, _⟩
  · rw [h.1] at h0; omega
  · simp [Sl.v] at hv
    exact ⟨_, hv.1, by omega, by rw [h.1]; omega, hk _ ⟨_, hv.1, by simp⟩⟩

end

theorem setMany_own {base : Nat} {e : TypeId} {size : Nat} {g n cap : Nat} : ∀ (vs : List Value) (i : Nat) (xs : List Value) (w : World) (K : World → Prop),
    w.ownsRow base e size (.slice (some ⟨g, 0, none⟩) n cap) n xs → (∀ v ∈ vs, v.oneCell' = true) → i + vs.length ≤ xs.length →
    (∀ w', w'.ownsRow base e size (.slice (some ⟨g, 0, none⟩) n cap) n (xs.take i ++ vs ++ xs.drop (i + vs.length)) → Step w w' (some g) → K w') → ∀ (a : Addr) (k : Nat), a.add k = ⟨g, i, none⟩ → ST a k vs w K
  | [], i, xs, w, K, h, _, hl, hk, a, k, _ => by
    refine hk w (by simpa using h) ⟨rfl, rfl, rfl, Nat.le_refl _, fun _ _ _ => rfl⟩
  | v :: vs, i, xs, w, K, h, h1, hl, hk, a, k, ha => by
    have hil : i < xs.length := by simp at hl; omega
    have hin : i < n * size := by rw [← h.1]; exact hil
    refine ⟨h1 v (by simp), ⟨xs[i], ?_⟩, ?_, ?_⟩
    · rw [ha, h.cellAt i hin]; simp [hil]
    · rw [ha]; exact h.frozenAt i
    · rw [ha]
      obtain ⟨hst, hgr⟩ := h.stored i v
      have hak : a.add (k + 1) = ⟨g, i + 1, none⟩ := by rw [← add_add, ha]; rfl
      refine setMany_own vs (i + 1) (xs.set i v) _ K hst (fun u hu => h1 u (by simp [hu])) (by simp at hl ⊢; omega) (fun w' hw' hs' => hk w' ?_ ?_) a (k + 1) hak
      · have e1 : (xs.set i v).take (i + 1) ++ vs ++ (xs.set i v).drop (i + 1 + vs.length) = xs.take i ++ v :: vs ++ xs.drop (i + (v :: vs).length) := by
          rw [List.drop_set_of_lt (by omega), List.take_set, List.take_succ_eq_append_getElem hil, List.set_append_right _ _ (by simp; omega)]
          simp [Nat.min_eq_left (Nat.le_of_lt hil), Nat.add_assoc, Nat.add_comm 1]
        rw [← e1]; exact hw'
      · refine ⟨hs'.os.trans hgr.os, hs'.tape.trans hgr.tape, hs'.output.trans hgr.output, Nat.le_trans hgr.size hs'.size, fun b hb hne => ?_⟩
        rw [hs'.block b (Nat.lt_of_lt_of_le hb hgr.size) hne, hgr.block b hb hne]

theorem flat_set {α : Type} [Flat α] (l : List α) {i : Nat} (hi : i < l.length) (x : α) :
    (l.set i x).flatMap Flat.cells = (l.flatMap Flat.cells).take (i * Rep.sz α) ++ Flat.cells x ++ (l.flatMap Flat.cells).drop (i * Rep.sz α + (Flat.cells x).length) := by
  have hl : ∀ y : α, (Flat.cells y).length = Rep.sz α := Flat.size
  induction l generalizing i with
  | nil => simp at hi
  | cons y r ih =>
    cases i with
    | zero => simp [hl]
    | succ i =>
      have := ih (i := i) (by simpa using hi)
      simp only [List.set_cons_succ, List.flatMap_cons, this, hl]
      rw [show (i + 1) * Rep.sz α = Rep.sz α + i * Rep.sz α by rw [Nat.succ_mul, Nat.add_comm]]
      have e1 : (Flat.cells y ++ List.flatMap Flat.cells r).take (Rep.sz α + i * Rep.sz α) = Flat.cells y ++ (List.flatMap Flat.cells r).take (i * Rep.sz α) := by
        rw [← hl y, List.take_length_add_append]
      have e2 : (Flat.cells y ++ List.flatMap Flat.cells r).drop (Rep.sz α + i * Rep.sz α + Rep.sz α) = (List.flatMap Flat.cells r).drop (i * Rep.sz α + Rep.sz α) := by
        rw [Nat.add_assoc, ← hl y, List.drop_length_add_append]
      rw [e1, e2]
      simp

section
variable {α : Type} [Flat α] {w w' : World} {base : Nat} {e : TypeId} {s : Sl} {l : List α}

/-- A store into the call's own slice. -/
theorem ST_own (h : OwnL w base e s l) {i : Nat} (hi : i < l.length) {p : Addr} (hp : Plc s i (Rep.sz α) p) (x : α) {vs : List Value} (hvs : vs = Flat.cells x) {K : World → Prop}
    (hk : ∀ w', OwnL w' base e s (l.set i x) → Step w w' s.v.ownBlock → K w') : ST p 0 vs w K := by
  subst hvs
  obtain ⟨a, ha, rfl⟩ := hp
  rcases h.2.2 with ⟨hv, h0⟩ | ⟨g, cap, cur, hv, _⟩
  · rw [h.1] at h0; omega
  · have hv' := hv
    simp [Sl.v] at hv
    obtain ⟨hsa, rfl⟩ := hv
    rw [hsa] at ha; cases ha
    have hown : w.ownsRow base e (Rep.sz α) (.slice (some ⟨g, 0, none⟩) s.len s.cap) s.len (l.flatMap Flat.cells) := by
      have := h.2; unfold Own at this; rw [hv'] at this; exact this
    have hlen : (l.flatMap Flat.cells).length = l.length * Rep.sz α := by have := h.2.length; rwa [h.1] at this
    have hcl : (Flat.cells x).length = Rep.sz α := Flat.size x
    refine setMany_own (Flat.cells x) (i * Rep.sz α) _ w K hown (Flat.one x) ?_ (fun w' hw' hs => hk w' ⟨by simp [h.1], ?_⟩ (by rw [hv']; exact hs)) _ 0 (by rw [add_zero']; simp only [Addr.add]; split <;> simp_all)
    · rw [hlen, hcl]
      have : (i + 1) * Rep.sz α ≤ l.length * Rep.sz α := Nat.mul_le_mul_right _ hi
      rw [Nat.succ_mul] at this; omega
    · unfold Own
      rw [hv', flat_set l hi x]
      exact hw'
end

/-- make([]T, n). -/
theorem RUN_make {α : Type} [Flat α] {P : Program} {t e : TypeId} {bytes : Nat} {z : Value} {d : α} (hT : SlT P t e (Rep.sz α) bytes z) (hz : z.cells.toList = Flat.cells d) {n : Nat} (hb : bytes * n ≤ 281474976710656) (h63 : n ≤ maxLen) {w : World} {K : Sl → World → Prop}
    (hk : ∀ s w', Ext w w' → OwnL w' w.heap.size e s (List.replicate n d) → K s w') : RUN P (.at .sl) (Instr.makeSlice t (.int .i64 (n : Int)) (.int .i64 (n : Int))) w K := by
  obtain ⟨i, hi, hz0, hs, hby⟩ := hT.parts
  obtain ⟨w', hr, hown, hg⟩ := run_make_full (P := P) w w.heap.size t e i z (Rep.sz α) hT.under hi hz0 hs .i64 .i64 n (by rw [hby]; exact hb) h63 (Nat.le_refl _)
  unfold RUN
  rw [hr]
  refine hk ⟨some ⟨w.heap.size, 0, none⟩, n, n⟩ w' (Step.of_grown hg).ext ⟨by simp, ?_⟩
  unfold Own
  have hcells : (madeCells z.cells (n * Rep.sz α)).toList = (List.replicate n d).flatMap Flat.cells := by
    have hsz : z.cells.size = Rep.sz α := hT.zs
    have hpos := hT.pos
    apply List.ext_getElem?
    intro j
    by_cases hj : j < n * Rep.sz α
    · have hlt : j % Rep.sz α < Rep.sz α := Nat.mod_lt _ hpos
      have hdl : (Flat.cells d).length = Rep.sz α := Flat.size d
      have h1 : (List.replicate n d)[j / Rep.sz α]? = some d := by
        rw [List.getElem?_replicate, if_pos ((Nat.div_lt_iff_lt_mul hpos).2 hj)]
      have h2 : (Flat.cells d)[j % Rep.sz α]? = some (Flat.cells d)[j % Rep.sz α] := by simp [hdl, hlt]
      have h3 := flat_get (List.replicate n d) h1 h2
      rw [Nat.div_add_mod' j (Rep.sz α)] at h3
      rw [h3]
      simp only [madeCells]
      simp [hj, hsz]
      have : z.cells[j % Rep.sz α]! = (Flat.cells d)[j % Rep.sz α] := by
        have hh : j % Rep.sz α < z.cells.size := by rw [hsz]; exact hlt
        rw [getElem!_pos z.cells _ hh]
        have : z.cells[j % Rep.sz α] = z.cells.toList[j % Rep.sz α]'(by simpa using hh) := by simp
        rw [this]
        simp only [hz]
      exact this
    · have hl2 : ((List.replicate n d).flatMap Flat.cells).length = n * Rep.sz α := by
        have : ∀ m, ((List.replicate m d).flatMap Flat.cells).length = m * Rep.sz α := by
          intro m
          induction m with
          | zero => simp
          | succ m ih => rw [List.replicate_succ, List.flatMap_cons, List.length_append, ih, Flat.size d, Nat.succ_mul, Nat.add_comm]
        exact this n
      rw [List.getElem?_eq_none (by simp [madeCells]; omega), List.getElem?_eq_none (by rw [hl2]; omega)]
  show w'.ownsRow w.heap.size e (Rep.sz α) (.slice (some ⟨w.heap.size, 0, none⟩) n n) n _
  rw [← hcells]
  exact hown


/-! ### Literals and append -/

theorem foldl_sets : ∀ (l : List Value) (k : Nat) (ys : List Value), k + l.length ≤ ys.length →
    (l.zipIdx k).foldl (fun (cs : List Value) x => cs.set (0 + x.2) x.1) ys = ys.take k ++ l ++ ys.drop (k + l.length)
  | [], k, ys, h => by simp
  | v :: l, k, ys, h => by
    have hk : k < ys.length := by simp at h; omega
    simp only [List.zipIdx_cons, List.foldl_cons]
    rw [foldl_sets l (k + 1) _ (by simp at h ⊢; omega)]
    rw [Nat.zero_add, List.drop_set_of_lt (by omega), List.take_set, List.take_succ_eq_append_getElem hk, List.set_append_right _ _ (by simp; omega)]
    simp [Nat.min_eq_left (Nat.le_of_lt hk), Nat.add_assoc, Nat.add_comm 1]

theorem fill_one (arr : Array Value) (v : Value) (sz : Nat) (h1 : arr.size = sz) (h2 : v.cells.size = sz) : Instr.fill (fun i => some (i * sz, sz)) arr [(0, v)] = some v.cells := by
  simp only [Instr.fill, Nat.zero_mul]
  rw [if_neg (by simp [h1, h2])]
  congr 1
  apply Array.ext'
  rw [← Array.foldl_toList]
  have : ∀ (l : List (Value × Nat)) (a : Array Value), (l.foldl (fun (cs : Array Value) x => cs.setIfInBounds (0 + x.2) x.1) a).toList = l.foldl (fun (cs : List Value) x => cs.set (0 + x.2) x.1) a.toList := by
    intro l
    induction l with
    | nil => intro a; rfl
    | cons x r ih => intro a; simp only [List.foldl_cons]; rw [ih]; simp
  have e : v.cells.zipIdx.toList = v.cells.toList.zipIdx 0 := by simp
  rw [e, this, foldl_sets _ _ _ (by simp; omega)]
  simp
  omega

/-- A literal of one element: []T{x}. -/
theorem RUN_lit1 {α : Type} [Flat α] {P : Program} {t e : TypeId} {bytes : Nat} {z v : Value} (hT : SlT P t e (Rep.sz α) bytes z) (x : α) (hv : v.cells.toList = Flat.cells x) (hs : Rep.sz α ≤ 1000) {w : World} {K : Sl → World → Prop}
    (hk : ∀ s w', Ext w w' → OwnL w' w.heap.size e s [x] → K s w') : RUN P (.at .sl) (Instr.buildSlice t 1 #[(0, v)]) w K := by
  obtain ⟨i, hi, hz0, hsz, hby⟩ := hT.parts
  have hvs : v.cells.size = Rep.sz α := by rw [← Array.length_toList, hv, Flat.size]
  have hr := run_buildSlice (P := P) w t e 1 #[(0, v)] v.cells i z hT.under hi hz0 (by rw [hsz]; omega) (by rw [hsz]; have := hT.pos; omega) (by rw [hsz]; exact fill_one _ v _ (by simp) hvs)
  unfold RUN
  rw [hr]
  refine hk ⟨some ⟨w.heap.size, 0, none⟩, 1, 1⟩ _ (ext_push w _) ⟨rfl, ?_⟩
  have := World.ownsRow_lit (base := w.heap.size) (e := e) (size := Rep.sz α) w v.cells 1 (Nat.le_refl _) (by unfold maxLen; omega) (by rw [hvs]; omega)
  unfold Own
  simpa [hv] using this

/-- The cells of a slice that reads as a list. -/
theorem SlR.flat {α : Type} [Flat α] {D : Nat → Prop} {w : World} {y : Sl} {m : List α} (h : SlR D w y m) {a : Addr} (ha : y.a = some a) : ∀ j u, (m.flatMap Flat.cells)[j]? = some u → w.cell? (a.add j) = some u := by
  intro j u hu
  have hpos : 0 < Rep.sz α := RepP.pos
  have hlen : (m.flatMap Flat.cells).length = m.length * Rep.sz α := by
    clear hu h
    induction m with
    | nil => simp
    | cons x r ih => rw [List.flatMap_cons, List.length_append, ih, Flat.size x, List.length_cons, Nat.succ_mul, Nat.add_comm]
  have hj : j < m.length * Rep.sz α := by rw [← hlen]; exact (List.getElem?_eq_some_iff.1 hu).1
  have hi : j / Rep.sz α < m.length := (Nat.div_lt_iff_lt_mul hpos).2 hj
  obtain ⟨a', cs, ha', _, hr, hc⟩ := h.2.2 (j / Rep.sz α) m[j / Rep.sz α] (by simp [hi])
  rw [ha] at ha'; cases ha'
  obtain ⟨rfl, _⟩ := Flat.ofRep hr
  have hmod : j % Rep.sz α < (Flat.cells m[j / Rep.sz α]).length := by rw [Flat.size]; exact Nat.mod_lt _ hpos
  have h2 : (Flat.cells m[j / Rep.sz α])[j % Rep.sz α]? = some (Flat.cells m[j / Rep.sz α])[j % Rep.sz α] := by simp [hmod]
  have h3 := flat_get m (i := j / Rep.sz α) (by simp [hi]) h2
  rw [Nat.div_add_mod' j (Rep.sz α), hu] at h3
  cases h3
  have := hc _ _ h2
  rwa [Nat.div_add_mod' j (Rep.sz α)] at this

theorem SlR.oks {α : Type} [Flat α] {D : Nat → Prop} {w : World} {y : Sl} {m : List α} (h : SlR D w y m) : ∀ x ∈ m, Flat.ok x := fun x hx => by
  obtain ⟨i, hi, rfl⟩ := List.mem_iff_getElem.1 hx
  obtain ⟨_, _, _, _, hr, _⟩ := h.2.2 i m[i] (by simp [hi])
  exact (Flat.ofRep hr).2

/-- What a slice became by appending lies in the same block or in a new one. -/
def NewOr (w : World) (s s' : Sl) : Prop := s'.v.ownBlock = s.v.ownBlock ∨ ∀ k, s'.v.ownBlock = some k → w.heap.size ≤ k

/-- append(s, y...) on a slice of the call's own; what is appended reads as a list. -/
theorem RUN_appendF {α : Type} [Flat α] {P : Program} {t e : TypeId} {bytes : Nat} {z : Value} (hT : SlT P t e (Rep.sz α) bytes z) {w : World} {base : Nat} {s y : Sl} {l m : List α} (h : OwnL w base e s l) (hbase : base ≤ w.heap.size)
    {D : Nat → Prop} (hy : SlR D w y m) (hlen : (l.length + m.length) * bytes ≤ 140737488355328) (hmax : l.length + m.length ≤ maxLen) {K : Sl → World → Prop}
    (hk : ∀ s' w', OwnL w' base e s' (l ++ m) → Step w w' s.v.ownBlock → NewOr w s s' → K s' w') : RUN P (.at .sl) (bsem .append #[t, t] t #[s.v, y.v]) w K := by
  obtain ⟨i, hi, hz0, hsz, hby⟩ := hT.parts
  have hyl : (m.flatMap Flat.cells).length = m.length * Rep.sz α := by
    clear hy hlen hmax hk
    induction m with
    | nil => simp
    | cons x r ih => rw [List.flatMap_cons, List.length_append, ih, Flat.size x, List.length_cons, Nat.succ_mul, Nat.add_comm]
  have hone : ∀ u ∈ m.flatMap Flat.cells, u.oneCell' = true := by
    intro u hu
    obtain ⟨x, _, hx⟩ := List.mem_flatMap.1 hu
    exact Flat.one x u hx
  have hown : w.ownsRow base e (Rep.sz α) s.v l.length (l.flatMap Flat.cells) := by have := h.2; unfold Own at this; rwa [h.1] at this
  have fin : ∀ v' w', (Builtin.append_ #[t, t] t #[s.v, y.v]).run P w = .ok v' w' → w'.ownsRow base e (Rep.sz α) v' (l.length + m.length) (l.flatMap Flat.cells ++ m.flatMap Flat.cells) → Step w w' s.v.ownBlock → (v'.ownBlock = s.v.ownBlock ∨ ∀ k, v'.ownBlock = some k → w.heap.size ≤ k) → RUN P (.at .sl) (bsem .append #[t, t] t #[s.v, y.v]) w K := by
    intro v' w' hr ho hst hnw
    have hsl : ∃ s' : Sl, v' = s'.v ∧ s'.len = l.length + m.length := by
      rcases ho.2 with ⟨rfl, h0⟩ | ⟨g', cap', cur', rfl, _⟩
      · exact ⟨⟨none, 0, 0⟩, rfl, h0.symm⟩
      · exact ⟨⟨some ⟨g', 0, none⟩, l.length + m.length, cap'⟩, rfl, rfl⟩
    obtain ⟨s', rfl, hs'⟩ := hsl
    unfold RUN
    show (match (Builtin.append_ #[t, t] t #[s.v, y.v]).run P w with | .ok v w' => _ | .halt _ _ => False)
    rw [hr]
    refine hk s' w' ⟨by simp [hs'], ?_⟩ hst hnw
    unfold Own
    rw [hs', List.flatMap_append]
    exact ho
  cases hya : y.a with
  | none =>
    have hm : m = [] := by
      cases m with
      | nil => rfl
      | cons x r => obtain ⟨a, _, ha, _⟩ := hy.2.2 0 x rfl; rw [hya] at ha; cases ha
    subst hm
    have hyv : y.v = .slice none 0 y.cap := by have := hy.1; simp at this; simp [Sl.v, hya, this]
    refine fin s.v w ?_ (by simpa using hown) (Step.refl _ _) (.inl rfl)
    rw [hyv]
    obtain ⟨sa, sl, sc⟩ := s
    have hle : sl ≤ sc := by
      rcases hown.2 with ⟨h0, h1⟩ | ⟨g, cap, cur, h0, _, _, h1, _⟩
      · simp [Sl.v] at h0; omega
      · simp [Sl.v] at h0; omega
    cases sa <;> simp [Builtin.append_, underlying_run hT.under, sizeOf_run hi, Builtin.lenOf, hle, Builtin.firstCells, storeCells]
  | some a =>
    have hyv : y.v = .slice (some a) m.length y.cap := by rw [← hy.1]; simp [Sl.v, hya]
    obtain ⟨v', w', hr, ho, hg, _⟩ := run_append_own (P := P) w base t t e i z (Rep.sz α) bytes hT.under hi hz0 hsz hby hT.zs hT.pos s.v l.length _ hown a m.length y.cap (m.flatMap Flat.cells) hyl (hy.flat hya) hone hmax hlen hbase
    refine fin v' w' (by rw [hyv]; exact hr) ho (Step.of_grown hg) ?_
    rcases hown.2 with ⟨h0, h1⟩ | ⟨g, cap, cur, h0, hbg, hgg, hnc, hcm, hcs, htake⟩
    · right
      have hown' : w.ownsRow w.heap.size e (Rep.sz α) s.v l.length (l.flatMap Flat.cells) := ⟨hown.1, .inl ⟨h0, h1⟩⟩
      obtain ⟨v2, w2, hr2, ho2, _⟩ := run_append_own (P := P) w w.heap.size t t e i z (Rep.sz α) bytes hT.under hi hz0 hsz hby hT.zs hT.pos s.v l.length _ hown' a m.length y.cap (m.flatMap Flat.cells) hyl (hy.flat hya) hone hmax hlen (Nat.le_refl _)
      rw [hr] at hr2
      cases hr2
      exact fun k hk => (World.ownsRow.lt ho2 k hk).1
    · have hyl' : (m.flatMap Flat.cells).length = m.length * i.size := by rw [hsz]; exact hyl
      have hol' : (l.flatMap Flat.cells).length = l.length * i.size := by rw [hsz]; exact hown.1
      subst hby
      rw [h0] at hr ⊢
      by_cases hroom : l.length + m.length ≤ cap
      · left
        have hr2 := run_append_room (P := P) w t t e i hT.under hi g l.length cap cur hgg a m.length y.cap (m.flatMap Flat.cells) hyl' (hy.flat hya) hone hroom (by rw [hyl, hcs, hsz, ← Nat.add_mul]; exact Nat.mul_le_mul_right _ hroom)
        rw [hr] at hr2
        cases hr2
        rfl
      · right
        have hr2 := run_append_grow (P := P) w t t e i z hT.under hi hz0 ⟨g, 0, none⟩ l.length cap (l.flatMap Flat.cells) hol' (hown.cells (g := g) (by rw [h0]; rfl)) a m.length y.cap (m.flatMap Flat.cells) hyl' (hy.flat hya) (by omega) (by simp only [maxLen] at hmax; omega) (growslice_fits (by simp only [maxLen] at hmax; omega) hlen)
        rw [hr] at hr2
        cases hr2
        intro k hk
        simp [Value.ownBlock] at hk
        omega

theorem RUN_append {α : Type} [Flat α] {P : Program} {t e : TypeId} {bytes : Nat} {z : Value} (hT : SlT P t e (Rep.sz α) bytes z) {w : World} {base : Nat} {s y : Sl} {l m : List α} (h : OwnL w base e s l) (hbase : base ≤ w.heap.size)
    {D : Nat → Prop} (hy : SlR D w y m) (hlen : (l.length + m.length) * bytes ≤ 140737488355328) (hmax : l.length + m.length ≤ maxLen) {K : Sl → World → Prop}
    (hk : ∀ s' w', OwnL w' base e s' (l ++ m) → Step w w' s.v.ownBlock → K s' w') : RUN P (.at .sl) (bsem .append #[t, t] t #[s.v, y.v]) w K :=
  RUN_appendF hT h hbase hy hlen hmax fun s' w' h1 h2 _ => hk s' w' h1 h2

/-- An empty literal: []T{}. -/
theorem RUN_lit0 {α : Type} [Flat α] {P : Program} {t e : TypeId} {bytes : Nat} {z : Value} (hT : SlT P t e (Rep.sz α) bytes z) {w : World} {K : Sl → World → Prop}
    (hk : ∀ s w', Ext w w' → OwnL w' w.heap.size e s ([] : List α) → K s w') : RUN P (.at .sl) (Instr.buildSlice t 0 #[]) w K := by
  obtain ⟨i, hi, hz0, hsz, hby⟩ := hT.parts
  have hr : (Instr.buildSlice t 0 #[]).run P w = .ok (.slice (some ⟨w.heap.size, 0, none⟩) 0 0) { w with heap := w.heap.push (.cells #[] e) } := by
    simp [Instr.buildSlice, underlying_run hT.under, sizeOf_run hi, Instr.fill, newRow, newObj, Sem.run]
    have : (Array.range 0) = #[] := rfl
    rw [this]; simp
  unfold RUN
  rw [hr]
  refine hk ⟨some ⟨w.heap.size, 0, none⟩, 0, 0⟩ _ (ext_push w _) ⟨rfl, ?_⟩
  have := World.ownsRow_lit (base := w.heap.size) (e := e) (size := Rep.sz α) w #[] 0 (Nat.le_refl _) (by unfold maxLen; omega) (by simp)
  unfold Own
  simpa using this

/-- A slice's first elements. -/
theorem SlR.take {α : Type} [RepP α] {D : Nat → Prop} {w : World} {s : Sl} {l : List α} (h : SlR D w s l) {i : Nat} (hi : i ≤ l.length) {sz : Nat} (_ : sz = Rep.sz α) {K : Sl → Prop} (hk : ∀ s', SlR D w s' (l.take i) → K s') : SLC s none (some (i : Int)) sz K := by
  have h1 := h.1
  have h2 := h.2.1
  refine ⟨by simp, by simp, by simp; omega, hk _ ⟨by simp; omega, by simp; omega, fun j x hx => ?_⟩⟩
  rw [List.getElem?_take] at hx
  split at hx
  · obtain ⟨a, cs, ha, hb, hr, hc⟩ := h.2.2 j x hx
    refine ⟨a, cs, ?_, hb, hr, hc⟩
    simp [ha, add_zero']
  · cases hx

/-- Slices as elements. -/
instance : Rep Sl where
  sz := 1
  rep _ _ cs s := cs = [s.v]
  len h := by rw [h]; rfl
  agr _ h := h
  weak _ h := h
instance : RepP Sl := ⟨by decide⟩
instance : Flat Sl where
  cells s := [s.v]
  ok _ := True
  size _ := rfl
  one _ v hv := by simp at hv; subst hv; rfl
  repOk _ := rfl
  ofRep h := ⟨h, trivial⟩

/-- The call's own slice of slices reads as a list of lists. -/
theorem OwnL.rows {α : Type} [RepP α] {D : Nat → Prop} {w : World} {base : Nat} {e : TypeId} {s : Sl} {ss : List Sl} {l : List (List α)} (h : OwnL w base e s ss) (hlen : ss.length = l.length)
    (hr : ∀ i (h1 : i < ss.length) (h2 : i < l.length), SlR D w ss[i] l[i]) (hD : ∀ b, base ≤ b → D b) : SlR D w s l := by
  have h0 := h.rep (fun _ _ => trivial)
  refine ⟨by rw [h0.1, hlen], h0.2.1, fun i x hx => ?_⟩
  obtain ⟨h2, rfl⟩ := List.getElem?_eq_some_iff.1 hx
  have h1 : i < ss.length := by omega
  obtain ⟨a, cs, ha, hb, hcs, hc⟩ := h0.2.2 i ss[i] (by simp [h1])
  have hcs' : cs = [ss[i].v] := hcs
  subst hcs'
  exact ⟨a, _, ha, hD _ hb, ⟨ss[i], rfl, hr i h1 h2⟩, hc⟩


/-! ### Boxes -/

section
variable {w : World} {p : Addr} {t : TypeId}

theorem LD_box3 {x y z : Sl} {r : List Value} {K : Sl → Sl → Sl → Prop} (hb : Box w p t (x.v :: y.v :: z.v :: r)) (hk : K x y z) : LD [.sl, .sl, .sl] p w K :=
  LD_sl3 (hb.cell (i := 0) rfl) (hb.cell (i := 1) rfl) (hb.cell (i := 2) rfl) hk
theorem LD_bs0 {x : Sl} {r : List Value} {K : Sl → Prop} (hb : Box w p t (x.v :: r)) (hk : K x) : LD [.sl] (p.add 0) w K := LD_sl (hb.cell (i := 0) rfl) hk
theorem LD_bs1 {x : Sl} {v0 : Value} {r : List Value} {K : Sl → Prop} (hb : Box w p t (v0 :: x.v :: r)) (hk : K x) : LD [.sl] (p.add 1) w K := LD_sl (hb.cell (i := 1) rfl) hk
theorem LD_bs2 {x : Sl} {v0 v1 : Value} {r : List Value} {K : Sl → Prop} (hb : Box w p t (v0 :: v1 :: x.v :: r)) (hk : K x) : LD [.sl] (p.add 2) w K := LD_sl (hb.cell (i := 2) rfl) hk
theorem LD_bi {x : Int} {r : List Value} {K : Int → Prop} (hb : Box w p t (.int .i64 x :: r)) (hk : K x) : LD [.int .i64] p w K := LD_int (hb.cell (i := 0) rfl) hk
theorem LD_bi0 {x : Int} {r : List Value} {K : Int → Prop} (hb : Box w p t (.int .i64 x :: r)) (hk : K x) : LD [.int .i64] (p.add 0) w K := LD_int (hb.cell (i := 0) rfl) hk
theorem LD_bi1 {x : Int} {v0 : Value} {r : List Value} {K : Int → Prop} (hb : Box w p t (v0 :: .int .i64 x :: r)) (hk : K x) : LD [.int .i64] (p.add 1) w K := LD_int (hb.cell (i := 1) rfl) hk
theorem LD_box2 {x y : Int} {r : List Value} {K : Int → Int → Prop} (hb : Box w p t (.int .i64 x :: .int .i64 y :: r)) (hk : K x y) : LD [.int .i64, .int .i64] p w K :=
  LD_int2 (hb.cell (i := 0) rfl) (hb.cell (i := 1) rfl) hk
end

theorem ST_box {p : Addr} {t : TypeId} : ∀ (vs : List Value) (i : Nat) (cs : List Value) (w : World) (K : World → Prop), Box w p t cs → (∀ v ∈ vs, v.oneCell' = true) → i + vs.length ≤ cs.length →
    (∀ w', Step w w' (some p.block) → w'.heap.size = w.heap.size → Box w' p t (cs.take i ++ vs ++ cs.drop (i + vs.length)) → K w') → ST p i vs w K
  | [], i, cs, w, K, hb, _, _, hk => hk w (Step.refl _ _) rfl (by simpa using hb)
  | v :: vs, i, cs, w, K, hb, h1, hl, hk => by
    have hi : i < cs.length := by simp at hl; omega
    refine ⟨h1 v (by simp), ⟨cs[i], hb.cell (by simp [hi])⟩, hb.frozen i, ?_⟩
    refine ST_box vs (i + 1) (cs.set i v) _ K (hb.set i v) (fun u hu => h1 u (by simp [hu])) (by simp at hl ⊢; omega) fun w' hs hsz hb' => hk w' ?_ ?_ ?_
    · have h0 : Step w (w.setCell (p.add i) v) (some p.block) := ⟨rfl, rfl, rfl, by rw [setCell_size]; exact Nat.le_refl _, fun k _ hne => setCell_other _ _ _ (by rw [add_block]; intro he; exact hne (by rw [he]))⟩
      exact h0.trans hs
    · rw [hsz, setCell_size]
    · have e1 : (cs.set i v).take (i + 1) ++ vs ++ (cs.set i v).drop (i + 1 + vs.length) = cs.take i ++ v :: vs ++ cs.drop (i + (v :: vs).length) := by
        rw [List.drop_set_of_lt (by omega), List.take_set, List.take_succ_eq_append_getElem hi, List.set_append_right _ _ (by simp; omega)]
        simp [Nat.min_eq_left (Nat.le_of_lt hi), Nat.add_assoc, Nat.add_comm 1]
      rw [← e1]; exact hb'

/-- All cells of a box. -/
theorem ST_all {w : World} {p : Addr} {t : TypeId} {cs vs : List Value} {K : World → Prop} (hb : Box w p t cs) (h1 : ∀ v ∈ vs, v.oneCell' = true) (hl : vs.length = cs.length)
    (hk : ∀ w', Step w w' (some p.block) → w'.heap.size = w.heap.size → Box w' p t vs → K w') : ST p 0 vs w K :=
  ST_box vs 0 cs w K hb h1 (by omega) fun w' h2 h3 h4 => hk w' h2 h3 (by simpa [List.drop_of_length_le (Nat.le_of_eq hl.symm)] using h4)

/-- A new variable that is filled at once. -/
theorem NEW_ST {t : TypeId} {zs vs : List Value} {w : World} {K : Addr → World → Prop} (h1 : ∀ v ∈ vs, v.oneCell' = true) (hl : vs.length = zs.length)
    (hk : ∀ p w', p.block = w.heap.size → Ext w w' → Box w' p t vs → K p w') : NEW t ⟨zs⟩ w fun p w1 => ST p 0 vs w1 fun w2 => K p w2 :=
  NEW_intro fun p w1 hp hsz hE hb => ST_all hb h1 hl fun w2 hs _ hb2 => hk p w2 hp (hs.ext0 hE (fun k hk => by cases hk; omega)) hb2

theorem one2 (x y : Int) : ∀ v ∈ [Value.int .i64 x, .int .i64 y], v.oneCell' = true := by intro v hv; simp at hv; rcases hv with rfl | rfl <;> rfl
theorem one3 (x y z : Sl) : ∀ v ∈ [x.v, y.v, z.v], v.oneCell' = true := by intro v hv; simp at hv; rcases hv with rfl | rfl | rfl <;> rfl
/-- One step of filling. -/
theorem fill_step {α : Type} {l : List α} {i : Nat} (hi : i < l.length) (d : α) : (l.take i ++ List.replicate (l.length - i) d).set i l[i] = l.take (i + 1) ++ List.replicate (l.length - (i + 1)) d := by
  have h1 : (l.take i).length = i := by simp; omega
  rw [List.set_append_right _ _ (by omega), h1, Nat.sub_self, show l.length - i = (l.length - (i + 1)) + 1 by omega, List.replicate_succ, List.set_cons_zero, List.take_succ_eq_append_getElem hi, List.append_assoc]
  rfl

theorem fill_len {α : Type} {l : List α} {i : Nat} (hi : i ≤ l.length) (d : α) : (l.take i ++ List.replicate (l.length - i) d).length = l.length := by simp; omega

/-! ### Structs of numbers compared -/

def intFieldsOk (P : Program) : Nat → List Field → Bool
  | _, [] => true
  | k, f :: fs => f.name != "_" && (match P.underlying f.type with | some (.int _) => true | _ => false) && f.offset == k && intFieldsOk P (k + 1) fs

/-- A struct type of n fields, each a number: '==' goes field by field. -/
def intStruct (P : Program) (t : TypeId) (n : Nat) : Bool :=
  intFieldsOk P 0 (P.fieldsOf t).toList && (P.fieldsOf t).size == n && (match P.underlying t with | some (.struct _) => true | _ => false) && !P.stoodInHeld t && !P.eqGuardType P.depth t

theorem eqFields_run {P : Program} (w : World) (d : Nat) (xs ys : List Int) : ∀ (fs : List Field) (k : Nat), intFieldsOk P k fs = true → k + fs.length = xs.length → xs.length = ys.length →
    (Op.eqFields (d + 1) ⟨xs.map (Value.int .i64)⟩ ⟨ys.map (Value.int .i64)⟩ fs).run P w = .ok (xs.drop k == ys.drop k) w
  | [], k, _, hk, hl => by
    have h1 : xs.drop k = [] := List.drop_of_length_le (by simp at hk; omega)
    have h2 : ys.drop k = [] := List.drop_of_length_le (by simp at hk; omega)
    rw [h1, h2]; simp [Op.eqFields]
  | f :: fs, k, h, hk, hl => by
    simp only [intFieldsOk, Bool.and_eq_true, bne_iff_ne, beq_iff_eq] at h
    obtain ⟨⟨⟨hn, hu⟩, ho⟩, hr⟩ := h
    simp at hk
    have hx : k < xs.length := by omega
    have hy : k < ys.length := by omega
    cases hu' : P.underlying f.type with
    | none => rw [hu'] at hu; cases hu
    | some u =>
      rw [hu'] at hu
      cases u with
      | int kk =>
        have hp : ∀ (zs : List Int) (hz : k < zs.length) (w : World), (part f.type ⟨zs.map (Value.int .i64)⟩ f.offset).run P w = .ok (.int .i64 zs[k]) w := fun zs hz w => by
          simp [part, isAgg, underlying_run hu', ho, hz]
        have ih := eqFields_run (P := P) w d xs ys fs (k + 1) hr (by omega) hl
        have hd : (xs.drop k == ys.drop k) = (xs[k] == ys[k] && (xs.drop (k + 1) == ys.drop (k + 1))) := by
          rw [List.drop_eq_getElem_cons hx, List.drop_eq_getElem_cons hy, List.cons_beq_cons]
        rw [hd]
        simp only [Op.eqFields, ne_eq, hn, not_false_eq_true, if_true, Sem.run_bind, hp xs hx, hp ys hy, Result.andThen_ok, run_equalIn_int w d f.type .i64 kk _ _ hu']
        by_cases he : xs[k] = ys[k]
        · simp [he, ih]
        · simp [he]
      | _ => cases hu

theorem intStruct_eq {P : Program} {t : TypeId} {xs ys : List Int} (h : intStruct P t xs.length = true) (hl : xs.length = ys.length) (w : World) :
    (Op.equalIn 10000 t (.agg ⟨xs.map (Value.int .i64)⟩) (.agg ⟨ys.map (Value.int .i64)⟩)).run P w = .ok (xs == ys) w := by
  simp only [intStruct, Bool.and_eq_true, Bool.not_eq_true', beq_iff_eq] at h
  obtain ⟨⟨⟨⟨h1, h2⟩, h3⟩, h4⟩, _⟩ := h
  have hu : P.underlying t = some (.struct (P.fieldsOf t)) := by
    unfold Program.fieldsOf
    cases hx : P.underlying t with
    | none => rw [hx] at h3; cases h3
    | some u => rw [hx] at h3; cases u <;> first | rfl | cases h3
  rw [show (10000 : Nat) = 9999 + 1 from rfl, run_equalIn_agg w 9999 t _ _ hu h4]
  have := eqFields_run (P := P) w 9998 xs ys (P.fieldsOf t).toList 0 h1 (by simp [h2]) hl
  simpa using this

theorem intStruct_guard {P : Program} {t : TypeId} {n : Nat} (h : intStruct P t n = true) : P.eqGuardType P.depth t = false := by
  simp only [intStruct, Bool.and_eq_true, Bool.not_eq_true'] at h
  exact h.2

theorem AEQ_neq2 {P : Program} {t : TypeId} (h : intStruct P t 2 = true) {x y : Operand} {a b c d : Int} {K : Bool → Prop} (hk : K (!decide ((a, b) = (c, d)))) :
    AEQ P (do eqGuard .neq t x y (.agg #[.int .i64 a, .int .i64 b]) (.agg #[.int .i64 c, .int .i64 d]); binOp .neq t (.agg #[.int .i64 a, .int .i64 b]) (.agg #[.int .i64 c, .int .i64 d])) K :=
  ⟨_, fun w => by
    have := intStruct_eq (xs := [a, b]) (ys := [c, d]) h rfl w
    simp only [List.map_cons, List.map_nil] at this
    rw [Sem.run_bind, run_eqGuard_agg w .neq t x y _ _ (intStruct_guard h), Result.andThen_ok, run_neq_struct w t, this, Result.andThen_ok]
    by_cases h1 : a = c <;> by_cases h2 : b = d <;> simp [h1, h2], hk⟩

/-! ### Loops with an accumulator ahead of the index -/

def IN2 {α : Type} (N : Nat) (I : Nat → α → World → Prop) (a : α) (x : Int) (w : World) : Prop := ∃ i : Nat, x = i ∧ i ≤ N ∧ I i a w
def MN2 {α : Type} (N : Nat) (_ : α) (x : Int) (_ : World) : Nat := N - x.toNat

theorem IN2_zero {α : Type} {N : Nat} {I : Nat → α → World → Prop} {a : α} {w : World} (h : I 0 a w) : IN2 N I a 0 w := ⟨0, rfl, Nat.zero_le _, h⟩

theorem IN2_next {α : Type} {N i : Nat} {I : Nat → α → World → Prop} {a a' : α} {w w' : World} (hN : N ≤ 9223372036854775807) (hi : i < N) (h : I (i + 1) a w) :
    IN2 N I a (IntKind.i64.wrap ((i : Int) + 1)) w ∧ MN2 N a (IntKind.i64.wrap ((i : Int) + 1)) w < MN2 N a' i w' := by
  rw [wrap_of (by omega) (by omega)]
  exact ⟨⟨i + 1, by omega, hi, h⟩, by unfold MN2; omega⟩

theorem Ext.ext {a b c : World} (h : Ext a b) (hE : Ext b c) : Ext a c := h.trans hE

theorem OwnL.low {α : Type} [Flat α] {w : World} {base base' : Nat} {e : TypeId} {s : Sl} {l : List α} (h : OwnL w base e s l) (hb : base' ≤ base) : OwnL w base' e s l := by
  refine ⟨h.1, h.2.1, ?_⟩
  rcases h.2.2 with h1 | ⟨g, cap, cur, h1, h2, h3⟩
  · exact .inl h1
  · exact .inr ⟨g, cap, cur, h1, Nat.le_trans hb h2, h3⟩

/-! ### Literals of several one-cell elements -/

/-! ### Own lists of own lists -/

theorem OwnL.type {α : Type} [Flat α] {w : World} {base : Nat} {e : TypeId} {s : Sl} {l : List α} (h : OwnL w base e s l) {k : Nat} (hk : s.v.ownBlock = some k) : ∃ cs, w.heap[k]? = some (.cells cs e (0, 0)) := by
  rcases h.2.2 with ⟨h1, _⟩ | ⟨g, cap, cur, h1, _, h3, _⟩
  · rw [h1] at hk; cases hk
  · rw [h1] at hk
    cases hk
    exact ⟨cur, h3⟩

/-- A list of another element type is not touched. -/
theorem OwnL.step {α β : Type} [Flat α] [Flat β] {w w' : World} {base base' : Nat} {e e' : TypeId} {s s' : Sl} {l : List α} {l' : List β} (h : OwnL w base e s l) (h' : OwnL w base' e' s' l') (he : e ≠ e') (hs : Step w w' s'.v.ownBlock) : OwnL w' base e s l :=
  h.keep fun k hk => by
    refine hs.block k (h.blk k hk).2 fun hk' => ?_
    obtain ⟨c1, h1⟩ := h.type hk
    obtain ⟨c2, h2⟩ := h'.type hk'.symm
    rw [h1] at h2
    cases h2
    exact he rfl

def Own2 {α : Type} [Flat α] (w : World) (base : Nat) (e e' : TypeId) (s : Sl) (ls : List (List α)) : Prop :=
  ∃ ss : List Sl, OwnL w base e' s ss ∧ ss.length = ls.length ∧ ∀ (i : Nat) (r : Sl) (l : List α), ss[i]? = some r → ls[i]? = some l → OwnL w base e r l

section
variable {α : Type} [Flat α] {w w' : World} {base : Nat} {e e' : TypeId} {s : Sl} {ls : List (List α)}
theorem Own2.nil (w : World) (base : Nat) (e e' : TypeId) : Own2 w base e e' ⟨none, 0, 0⟩ ([] : List (List α)) := ⟨[], OwnL.nil _ _ _, rfl, fun i r l h => by simp at h⟩
theorem Own2.ext (h : Own2 w base e e' s ls) (hE : Ext w w') : Own2 w' base e e' s ls := by
  obtain ⟨ss, h1, h2, h3⟩ := h
  exact ⟨ss, h1.ext hE, h2, fun i r l hr hl => (h3 i r l hr hl).ext hE⟩
theorem Own2.low (h : Own2 w base e e' s ls) {b : Nat} (hb : b ≤ base) : Own2 w b e e' s ls := by
  obtain ⟨ss, h1, h2, h3⟩ := h
  exact ⟨ss, h1.low hb, h2, fun i r l hr hl => (h3 i r l hr hl).low hb⟩
theorem Own2.blk (h : Own2 w base e e' s ls) : ∀ k, s.v.ownBlock = some k → base ≤ k ∧ k < w.heap.size := by
  obtain ⟨ss, h1, _⟩ := h
  exact h1.blk
theorem Own2.repD (h : Own2 w base e e' s ls) (hok : ∀ l ∈ ls, ∀ x ∈ l, Flat.ok x) : SlR (fun b => base ≤ b) w s ls := by
  obtain ⟨ss, h1, h2, h3⟩ := h
  refine (OwnL.rows h1 h2 (fun i hi hj => ?_) (fun _ hb => hb))
  exact (h3 i ss[i] ls[i] (by simp [hi]) (by simp [hj])).rep (hok _ (List.getElem_mem hj))
theorem Own2.rep (h : Own2 w base e e' s ls) (hok : ∀ l ∈ ls, ∀ x ∈ l, Flat.ok x) : R w s ls := (h.repD hok).any
theorem Own2.keep (h : Own2 w base e e' s ls) (hk : ∀ k, base ≤ k → k < w.heap.size → w'.heap[k]? = w.heap[k]?) : Own2 w' base e e' s ls := by
  obtain ⟨ss, h1, h2, h3⟩ := h
  exact ⟨ss, h1.keep fun k hb => hk k (h1.blk k hb).1 (h1.blk k hb).2, h2, fun i r l hr hl => (h3 i r l hr hl).keep fun k hb => hk k ((h3 i r l hr hl).blk k hb).1 ((h3 i r l hr hl).blk k hb).2⟩
end

/-! ### Rows of a list of lists, as they were in an earlier world -/

/-! ### Changes within a set of blocks -/

theorem Chg.of_step {w w' : World} {g : Option Nat} {D : Nat → Prop} (h : Step w w' g) (hg : ∀ k, g = some k → D k) : Chg w w' D :=
  ⟨h.os, h.tape, h.output, h.size, fun k hk hD => h.block k hk (fun he => hD (hg k he.symm))⟩
theorem Chg.of_ext {w w' : World} {D : Nat → Prop} (h : Ext w w') : Chg w w' D := ⟨h.os, h.tape, h.output, h.size, fun k hk _ => h.block k hk⟩
theorem Chg.trans {a b c : World} {D : Nat → Prop} (h : Chg a b D) (k : Chg b c D) : Chg a c D :=
  ⟨k.os.trans h.os, k.tape.trans h.tape, k.output.trans h.output, Nat.le_trans h.size k.size, fun i hi hD => (k.block i (Nat.lt_of_lt_of_le hi h.size) hD).trans (h.block i hi hD)⟩
theorem Chg.mono {a b : World} {D D' : Nat → Prop} (h : Chg a b D) (hD : ∀ k, D k → D' k) : Chg a b D' := ⟨h.os, h.tape, h.output, h.size, fun k hk hn => h.block k hk (fun hd => hn (hD k hd))⟩
theorem Chg.ext0 {w0 w w' : World} {D : Nat → Prop} (h : Chg w w' D) (hE : Ext w0 w) (hD : ∀ k, D k → w0.heap.size ≤ k) : Ext w0 w' :=
  ⟨h.os.trans hE.os, h.tape.trans hE.tape, h.output.trans hE.output, Nat.le_trans hE.size h.size, fun k hk => (h.block k (Nat.lt_of_lt_of_le hk hE.size) (fun hd => by have := hD k hd; omega)).trans (hE.block k hk)⟩

theorem SlR.chg {α : Type} [RepP α] {D0 D : Nat → Prop} {w w' : World} {s : Sl} {l : List α} (h : SlR D0 w s l) (hc : Chg w w' D) (hD : ∀ b, D0 b → b < w.heap.size → ¬ D b) : SlR D0 w' s l :=
  (h.below.agr fun b hb => hc.block b hb.2 (hD b hb.1 hb.2)).weak (fun _ hb _ => hb.1) RepP.pos
theorem OwnL.chg {α : Type} [Flat α] {D : Nat → Prop} {w w' : World} {base : Nat} {e : TypeId} {s : Sl} {l : List α} (h : OwnL w base e s l) (hc : Chg w w' D) (hD : ∀ b, s.v.ownBlock = some b → ¬ D b) : OwnL w' base e s l :=
  h.keep fun k hk => hc.block k (h.blk k hk).2 (hD k hk)
theorem Box.chg {D : Nat → Prop} {w w' : World} {p : Addr} {t : TypeId} {cs : List Value} (h : Box w p t cs) (hc : Chg w w' D) (hD : ¬ D p.block) : Box w' p t cs :=
  h.of_block (hc.block _ h.lt hD)

end Go.GX
end

section
/- Contracts of the small functions. -/
namespace Go.Proofs.YtaeledhbkdakcaaDoor
open Go.GX Go.RowKit

def inR (n lo hi : Int) : Bool := decide (lo ≤ n) && decide (n ≤ hi)

theorem inR_true {n lo hi : Int} (h : inR n lo hi = true) : lo ≤ n ∧ n ≤ hi := by simpa [inR] using h
theorem inR_false {n lo hi : Int} (h : inR n lo hi = false) : ¬ (lo ≤ n ∧ n ≤ hi) := by
  intro ⟨h1, h2⟩; simp [inR, h1, h2] at h

theorem within_ok (n lo hi : Int) (w : World) : Calls Tryd.prog F.i_within #[.int .i64 n, .int .i64 lo, .int .i64 hi] w (Ret [.at .bool] fun (b : Bool) w' => b = inR n lo hi ∧ w = w') := by
  refine C_i_within ?_
  unfold V_i_within inR
  by_cases h : lo ≤ n <;> simp [h]

theorem l1In_ok (n lo hi : Int) (w : World) : Calls Tryd.prog F.s_l1In #[.int .i64 n, .int .i64 lo, .int .i64 hi] w (Ret [.at .bool] fun (b : Bool) w' => b = inR n lo hi ∧ w = w') := by
  refine C_s_l1In ?_
  unfold V_s_l1In inR
  by_cases h : lo ≤ n <;> simp [h]

theorem l1Has_ok {w : World} {s : Sl} {l : List Int} (h : R w s l) (n : Int) :
    Calls Tryd.prog F.s_l1Has #[s.v, .int .i64 n] w (Ret [.at .bool] fun (b : Bool) w' => b = l.contains n ∧ w = w') := by
  refine C_s_l1Has ?_
  unfold V_s_l1Has
  refine ⟨IN l.length fun i w' => w' = w ∧ n ∉ l.take i, MN l.length, IN_zero ⟨rfl, by simp⟩, ?_⟩
  rintro x w1 ⟨i, rfl, hi, rfl, hn⟩
  intros
  rw [h.len]
  refine cond_dec (fun hlt => ?_) (fun hge => ⟨?_, rfl⟩)
  · have hlt' : i < l.length := by omega
    refine h.ixI hlt' fun p _ hc => ?_
    refine LD_int hc ?_
    refine cond_eq (fun he => ⟨?_, rfl⟩) (fun he => ?_)
    · simp [← he]
    · exact IN_next h.le hlt' ⟨rfl, not_mem_take_succ hlt' hn he⟩
  · have hil : i = l.length := by omega
    subst hil
    simp at hn
    simp [hn]

end Go.Proofs.YtaeledhbkdakcaaDoor
end
