/- Own texts, merged: Names, V0, AllV, Rules, Leaf, Net. -/
import Derived.Test.YtcldmpllpfojhaaDoorM1
import Derived.Test.YtcldmpllpfojhaaDoorProg
import Derived.Laws.OwnMore
import Derived.Great.BuildSlice
import Derived.Laws.StructEq
set_option linter.unusedVariables false
section
/- The numbers of functions and types of this seat by their names, and of which kind a type's values are. Printed by a program. -/
namespace Go.Proofs.YtcldmpllpfojhaaDoor
open Go.GX Go.RowKit

abbrev F.l_FnExactTidyText : FuncId := 3
abbrev F.s_TidyText : FuncId := 5
abbrev F.i_TidyText : FuncId := 6
abbrev F.s_ParseNetwork : FuncId := 7
abbrev F.i_ParseNetwork : FuncId := 8
abbrev F.s_txNet : FuncId := 12
abbrev F.i_networkText : FuncId := 13
abbrev F.ptr_s_txRead_all : FuncId := 14
abbrev F.ptr_i_networkReader_read : FuncId := 15
abbrev F.s_l1Num : FuncId := 22
abbrev F.s_txEnd : FuncId := 23
abbrev F.strconv_Itoa : FuncId := 24
abbrev F.i_PortText : FuncId := 25
abbrev F.ptr_strings_Builder_WriteString : FuncId := 26
abbrev F.strings_Join : FuncId := 27
abbrev F.ptr_strings_Builder_String : FuncId := 28
abbrev F.ptr_s_txRead_fail : FuncId := 29
abbrev F.ptr_s_txRead_line : FuncId := 30
abbrev F.ptr_s_txRead_ends : FuncId := 31
abbrev F.ptr_s_txRead_ids : FuncId := 32
abbrev F.i_linesOf : FuncId := 33
abbrev F.ptr_i_networkReader_line : FuncId := 34
abbrev F.ptr_i_networkReader_checkEnds : FuncId := 35
abbrev F.ptr_i_networkReader_checkIds : FuncId := 36
abbrev F.i_within : FuncId := 41
abbrev F.ptr_s_txRead_word : FuncId := 44
abbrev F.s_l1All : FuncId := 45
abbrev F.s_l1Has : FuncId := 46
abbrev F.strings_IndexByte : FuncId := 47
abbrev F.i_wordsOf : FuncId := 48
abbrev F.i_marked : FuncId := 49
abbrev F.i_ParsePort : FuncId := 50
abbrev F.i_Network_hasPort : FuncId := 51
abbrev F.slices_Contains_sl_int_int : FuncId := 52
abbrev F.s_l1Read : FuncId := 57
abbrev F.s_l1In : FuncId := 58
abbrev F.s_txPort : FuncId := 59
abbrev F.strings_CutPrefix : FuncId := 61
abbrev F.i_readNumber : FuncId := 62
abbrev F.strings_Cut : FuncId := 63
abbrev F.i_Network_hasNode : FuncId := 64
abbrev F.slices_Index_sl_int_int : FuncId := 65
abbrev F.s_l1Split : FuncId := 71
abbrev F.strconv_Atoi : FuncId := 74
abbrev T.t_int : TypeId := 3
abbrev T.t_uint8 : TypeId := 5
abbrev T.t_string : TypeId := 9
abbrev T.t_sl_sl_i_End : TypeId := 25
abbrev T.t_sl_int : TypeId := 26
abbrev T.t_i_Network : TypeId := 28
abbrev T.t_sl_sl_int : TypeId := 35
abbrev T.t_s_txRead : TypeId := 37
abbrev T.t_sl_i_textLine : TypeId := 39
abbrev T.t_i_networkReader : TypeId := 41
abbrev T.t_i_fault : TypeId := 43
abbrev T.t_sl_i_End : TypeId := 49
abbrev T.t_sl_string : TypeId := 50
abbrev T.t_i_End : TypeId := 53
abbrev T.t_sl_uint8 : TypeId := 56
abbrev T.t_strings_Builder : TypeId := 58
abbrev T.t_error : TypeId := 61
abbrev T.t_i_textLine : TypeId := 71
abbrev T.t_sl_i_textWord : TypeId := 83
abbrev T.t_i_textWord : TypeId := 87
def hints0 : List (List Sh) := [
  [],
  [.at .val],
  [.at (.int .i64)],
  [.at (.int .i64)],
  [.at .bool],
  [.at (.int .u8)],
  [.at (.int .u8)],
  [.agg [.int .i64, .int .i64, .bool, .int .u8]],
  [.agg [.int .i64, .int .i64, .bool, .int .u8]],
  [.at .str],
  [.at .str],
  [.at .str],
  [.at (.int .u64)],
  [.agg [.str, .int .u64]],
  [.agg [.str, .int .u64]],
  [.at .ptr]]
def hints1 : List (List Sh) := [
  [.at .ptr],
  [.at .ptr],
  [.agg [.ptr]],
  [.agg [.ptr]],
  [.at .val],
  [.at (.int .i32)],
  [.at .str, .at .bool],
  [.at .val],
  [.at .val],
  [.at .sl],
  [.at .sl],
  [.agg [.sl, .sl, .sl]],
  [.agg [.sl, .sl, .sl]],
  [.agg [.sl, .sl, .sl], .at (.int .i64), .at (.int .i64)],
  [.at .val],
  [.at .val]]
def hints2 : List (List Sh) := [
  [.at .val],
  [.at .val],
  [.at .ptr],
  [.at .sl],
  [.agg [.sl, .sl, .sl, .sl, .sl, .sl, .int .i64, .int .i64]],
  [.agg [.sl, .sl, .sl, .sl, .sl, .sl, .int .i64, .int .i64]],
  [.at .ptr],
  [.at .sl],
  [.agg [.sl, .sl, .sl, .sl, .sl, .sl, .bool]],
  [.agg [.sl, .sl, .sl, .sl, .sl, .sl, .bool]],
  [.agg [.int .i64, .int .i64]],
  [.agg [.int .i64, .int .i64]],
  [.at .val],
  [.at .val],
  [.at .val],
  [.at .val]]
def hints3 : List (List Sh) := [
  [.at .val],
  [.at .sl],
  [.at .sl],
  [.at .val],
  [.agg [.int .i64, .int .i64]],
  [.agg [.int .i64, .int .i64]],
  [.at .val],
  [.at .ptr],
  [.at .sl],
  [.agg [.ptr, .sl]],
  [.agg [.ptr, .sl]],
  [.at .val],
  [.at .val],
  [.at .val],
  [.at (.int .i64), .at .val],
  [.at .val]]
def hints4 : List (List Sh) := [
  [.at .val],
  [.at .val],
  [.at .val],
  [.at .val],
  [.at .val],
  [.at .val],
  [.agg [.str, .int .i64]],
  [.agg [.str, .int .i64]],
  [.at .val],
  [.at .val],
  [.at .val],
  [.at .val],
  [.at .val],
  [.at .val],
  [.at .ptr],
  [.at .val]]
def hints5 : List (List Sh) := [
  [.at .val],
  [.at .val],
  [.at .val],
  [.at .sl],
  [.at .val],
  [.at (.int .i64), .at .bool],
  [.at .val],
  [.agg [.str, .int .i64]],
  [.agg [.int .i64, .int .i64], .at .bool],
  [.at .val],
  [.at .val],
  [.at .val],
  [.at .ptr],
  [.at .val],
  [.at .val],
  [.at .val]]
def hints6 : List (List Sh) := [
  [.at .val],
  [.at .str, .at .str, .at .bool],
  [.at .val],
  [.at .val],
  [.agg [.int .u8, .int .u8, .int .u8, .int .u8, .int .u8, .int .u8, .int .u8, .int .u8, .int .u8, .int .u8, .int .u8, .int .u8, .int .u8, .int .u8, .int .u8, .int .u8, .int .u8, .int .u8, .int .u8, .int .u8, .int .u8, .int .u8, .int .u8, .int .u8]],
  [.at (.int .u64)],
  [.at .val],
  [.at .val],
  [.at .sl, .at .str],
  [.at .val],
  [.at .val],
  [.at .val],
  [.at .val],
  [.at .val],
  [.agg [.int .u64, .int .u64, .int .u64, .int .u64, .int .u64, .int .u64, .int .u64, .int .u64, .int .u64, .int .u64, .int .u64, .int .u64, .int .u64, .int .u64, .int .u64, .int .u64, .int .u64, .int .u64, .int .u64, .int .u64]],
  [.at (.int .u32)]]
def hints7 : List (List Sh) := [
  [.agg [.int .u8, .int .u8, .int .u8, .int .u8, .int .u8, .int .u8, .int .u8, .int .u8, .int .u8, .int .u8, .int .u8, .int .u8, .int .u8, .int .u8, .int .u8, .int .u8, .int .u8, .int .u8, .int .u8, .int .u8, .int .u8, .int .u8, .int .u8, .int .u8, .int .u8, .int .u8, .int .u8, .int .u8, .int .u8, .int .u8, .int .u8, .int .u8, .int .u8, .int .u8, .int .u8, .int .u8, .int .u8, .int .u8, .int .u8, .int .u8, .int .u8, .int .u8, .int .u8, .int .u8, .int .u8, .int .u8, .int .u8, .int .u8, .int .u8, .int .u8, .int .u8, .int .u8, .int .u8, .int .u8, .int .u8, .int .u8, .int .u8, .int .u8, .int .u8, .int .u8, .int .u8, .int .u8, .int .u8, .int .u8, .int .u8]],
  [.at (.int .u64)],
  [.at .val],
  [.at .val],
  [.at .val],
  [.at .val],
  [.at .val],
  [.at (.int .i64)],
  [.at (.int .i64), .at .val],
  [.at .val],
  [.at .ptr],
  [.at .val],
  [.at .val],
  [.agg [.int .u8, .int .u8, .int .u8, .int .u8, .int .u8, .int .u8, .int .u8, .int .u8, .int .u8, .int .u8, .int .u8, .int .u8, .int .u8, .int .u8, .int .u8, .int .u8, .int .u8, .int .u8, .int .u8, .int .u8, .int .u8, .int .u8, .int .u8, .int .u8, .int .u8, .int .u8, .int .u8, .int .u8, .int .u8, .int .u8, .int .u8, .int .u8]],
  [.agg [.int .u8, .int .u8, .int .u8, .int .u8, .int .u8, .int .u8, .int .u8, .int .u8, .int .u8, .int .u8, .int .u8, .int .u8, .int .u8, .int .u8, .int .u8, .int .u8, .int .u8, .int .u8, .int .u8, .int .u8, .int .u8, .int .u8, .int .u8, .int .u8, .int .u8, .int .u8, .int .u8, .int .u8, .int .u8, .int .u8, .int .u8, .int .u8, .int .u8, .int .u8, .int .u8, .int .u8, .int .u8, .int .u8, .int .u8, .int .u8, .int .u8, .int .u8, .int .u8, .int .u8, .int .u8, .int .u8, .int .u8, .int .u8, .int .u8, .int .u8, .int .u8, .int .u8, .int .u8, .int .u8, .int .u8, .int .u8, .int .u8, .int .u8, .int .u8, .int .u8, .int .u8, .int .u8, .int .u8, .int .u8]],
  [.at (.int .u64), .at .val]]
def hints8 : List (List Sh) := [
  [.at .val],
  [.at .val],
  [.agg [.str, .str, .val]],
  [.agg [.str, .str, .val]],
  [.at .val],
  [.at (.int .u32), .at (.int .u32)],
  [.at .val],
  [.at .val],
  [.at .ptr],
  [.agg [.str]],
  [.agg [.str]],
  [.agg [.ptr, .ptr, .ptr, .str]],
  [.agg [.ptr, .ptr, .ptr, .str]],
  [.agg []],
  [.agg []],
  [.agg []]]
def hints9 : List (List Sh) := [
  [.at .val],
  [.at (.int .u8)],
  [.at (.int .u8)],
  [.at .val],
  [.at (.int .i32)],
  [.at (.int .i32)],
  [.agg [.int .u64, .int .u64, .int .u32, .int .u8, .int .u8, .int .u8, .int .u8, .val, .ptr, .int .i32, .int .i32]],
  [.agg [.int .u64, .int .u64, .int .u32, .int .u8, .int .u8, .int .u8, .int .u8, .val, .ptr, .int .i32, .int .i32]]]
def hint : Hint := hintOf [hints0, hints1, hints2, hints3, hints4, hints5, hints6, hints7, hints8, hints9]
end Go.Proofs.YtcldmpllpfojhaaDoor
end

section
/- What each function's code computes to. Printed by a program. -/
namespace Go.Proofs.YtcldmpllpfojhaaDoor
open Go.GX Go.RowKit
set_option linter.unusedVariables false
set_option maxRecDepth 100000

def V_l_FnExactTidyText (Q : Bool → World → Prop) (aS : ByteArray) (w : World) : Prop :=
  cond (decide ((aS.size : Int) > 1048576)) (
  Q true w) (
  Calls Tryd.prog F.s_TidyText #[.string aS] w (Ret [.at .str, .at .bool] fun (x12_0 : ByteArray) (x12_1 : Bool) w1 =>
  Calls Tryd.prog F.i_TidyText #[.string aS] w1 (Ret [.at .str, .at .bool] fun (x17_0 : ByteArray) (x17_1 : Bool) w2 =>
  cond (!(x17_0.toList == x12_0.toList)) (
  Q false w2) (
  cond (!(x17_1 == x12_1)) (
  Q false w2) (
  Q true w2)))))

theorem C_l_FnExactTidyText {Q : Bool → World → Prop} {aS : ByteArray} {w : World} (h : V_l_FnExactTidyText Q aS w) : Calls Tryd.prog F.l_FnExactTidyText #[.string aS] w (Ret [.at .bool] Q) :=
  mkC (hint := hint) (ann := annOf []) (args := [.string aS]) (rs := [.at .bool]) Tryd.func3 (by kernel_rfl) (by kernel_rfl) h

def V_s_TidyText (Q : ByteArray → Bool → World → Prop) (s : ByteArray) (w : World) : Prop :=
  Calls Tryd.prog F.s_ParseNetwork #[.string s] w (Ret [.agg [.sl, .sl, .sl], .at (.int .i64), .at (.int .i64)] fun (x9_0_0 : Sl) (x9_0_1 : Sl) (x9_0_2 : Sl) (x9_1 : Int) (x9_2 : Int) w1 =>
  NEW T.t_i_Network #[.slice none 0 0, .slice none 0 0, .slice none 0 0] w1 fun (p_n : Addr) w2 =>
  ST p_n 0 [x9_0_0.v, x9_0_1.v, x9_0_2.v] w2 fun w3 =>
  cond ((x9_2 : Int) != 0) (
  Q (ByteArray.mk #[]) false w3) (
  LD [.sl, .sl, .sl] p_n w3 fun (x15_0 : Sl) (x15_1 : Sl) (x15_2 : Sl) =>
  Calls Tryd.prog F.s_txNet #[.agg #[x15_0.v, x15_1.v, x15_2.v]] w3 (Ret [.at .str] fun (x16 : ByteArray) w4 =>
  Q x16 true w4)))

theorem C_s_TidyText {Q : ByteArray → Bool → World → Prop} {s : ByteArray} {w : World} (h : V_s_TidyText Q s w) : Calls Tryd.prog F.s_TidyText #[.string s] w (Ret [.at .str, .at .bool] Q) :=
  mkC (hint := hint) (ann := annOf []) (args := [.string s]) (rs := [.at .str, .at .bool]) Tryd.func5 (by kernel_rfl) (by kernel_rfl) h

def V_i_TidyText (Q : ByteArray → Bool → World → Prop) (s : ByteArray) (w : World) : Prop :=
  Calls Tryd.prog F.i_ParseNetwork #[.string s] w (Ret [.agg [.sl, .sl, .sl], .at (.int .i64), .at (.int .i64)] fun (x9_0_0 : Sl) (x9_0_1 : Sl) (x9_0_2 : Sl) (x9_1 : Int) (x9_2 : Int) w1 =>
  NEW T.t_i_Network #[.slice none 0 0, .slice none 0 0, .slice none 0 0] w1 fun (p_n : Addr) w2 =>
  ST p_n 0 [x9_0_0.v, x9_0_1.v, x9_0_2.v] w2 fun w3 =>
  cond ((x9_2 : Int) != 0) (
  Q (ByteArray.mk #[]) false w3) (
  LD [.sl, .sl, .sl] p_n w3 fun (x15_0 : Sl) (x15_1 : Sl) (x15_2 : Sl) =>
  Calls Tryd.prog F.i_networkText #[.agg #[x15_0.v, x15_1.v, x15_2.v]] w3 (Ret [.at .str] fun (x16 : ByteArray) w4 =>
  Q x16 true w4)))

theorem C_i_TidyText {Q : ByteArray → Bool → World → Prop} {s : ByteArray} {w : World} (h : V_i_TidyText Q s w) : Calls Tryd.prog F.i_TidyText #[.string s] w (Ret [.at .str, .at .bool] Q) :=
  mkC (hint := hint) (ann := annOf []) (args := [.string s]) (rs := [.at .str, .at .bool]) Tryd.func6 (by kernel_rfl) (by kernel_rfl) h

def V_s_ParseNetwork (Q : Sl → Sl → Sl → Int → Int → World → Prop) (s : ByteArray) (w : World) : Prop :=
  NEW T.t_i_Network #[.slice none 0 0, .slice none 0 0, .slice none 0 0] w fun (px2 : Addr) w1 =>
  NEW T.t_s_txRead #[.slice none 0 0, .slice none 0 0, .slice none 0 0, .slice none 0 0, .slice none 0 0, .slice none 0 0, .int .i64 0, .int .i64 0] w1 fun (px7 : Addr) w2 =>
  Calls Tryd.prog F.ptr_s_txRead_all #[.pointer (some px7), .string s] w2 (Ret [.at .bool] fun (x10 : Bool) w3 =>
  cond (!x10) (
  ∀ w4, Ext w3 w4 → w4.heap = w3.heap → ∃ (D4 : Nat → Prop),
  ¬ D4 (px7.add 7).block ∧ (
  LD [.int .i64] (px7.add 7) w4 fun (x16 : Int) =>
  ¬ D4 (px7.add 6).block ∧ (
  LD [.int .i64] (px7.add 6) w4 fun (x20 : Int) =>
  ST px2 0 [.slice none 0 0, .slice none 0 0, .slice none 0 0] w4 fun w5 =>
  Chg w4 w5 D4 ∧ (
  Chg w4 w5 D4 ∧ (
  LD [.sl, .sl, .sl] px2 w5 fun (r0_0 : Sl) (r0_1 : Sl) (r0_2 : Sl) =>
  Q r0_0 r0_1 r0_2 x16 x20 w5))))) (
  LD [.sl, .sl, .sl] (px7.add 0) w3 fun (x24_0 : Sl) (x24_1 : Sl) (x24_2 : Sl) =>
  ST px2 0 [x24_0.v, x24_1.v, x24_2.v] w3 fun w6 =>
  LD [.sl, .sl, .sl] px2 w6 fun (r0_0_2 : Sl) (r0_1_2 : Sl) (r0_2_2 : Sl) =>
  Q r0_0_2 r0_1_2 r0_2_2 0 0 w6))

theorem C_s_ParseNetwork {Q : Sl → Sl → Sl → Int → Int → World → Prop} {s : ByteArray} {w : World} (h : V_s_ParseNetwork Q s w) : Calls Tryd.prog F.s_ParseNetwork #[.string s] w (Ret [.agg [.sl, .sl, .sl], .at (.int .i64), .at (.int .i64)] Q) :=
  mkC (hint := hint) (ann := annOf []) (args := [.string s]) (rs := [.agg [.sl, .sl, .sl], .at (.int .i64), .at (.int .i64)]) Tryd.func7 (by kernel_rfl) (by kernel_rfl) h

def V_i_ParseNetwork (Q : Sl → Sl → Sl → Int → Int → World → Prop) (s : ByteArray) (w : World) : Prop :=
  NEW T.t_i_Network #[.slice none 0 0, .slice none 0 0, .slice none 0 0] w fun (px2 : Addr) w1 =>
  NEW T.t_i_networkReader #[.slice none 0 0, .slice none 0 0, .slice none 0 0, .slice none 0 0, .slice none 0 0, .slice none 0 0, .bool false] w1 fun (px8 : Addr) w2 =>
  Calls Tryd.prog F.ptr_i_networkReader_read #[.pointer (some px8), .string s] w2 (Ret [.agg [.int .i64, .int .i64]] fun (x11_0 : Int) (x11_1 : Int) w3 =>
  NEW T.t_i_fault #[.int .i64 0, .int .i64 0] w3 fun (p_f : Addr) w4 =>
  ST p_f 0 [.int .i64 x11_0, .int .i64 x11_1] w4 fun w5 =>
  LD [.int .i64] (p_f.add 1) w5 fun (x13 : Int) =>
  cond ((x13 : Int) != 0) (
  ∀ w6, Ext w5 w6 → w6.heap = w5.heap → ∃ (D6 : Nat → Prop),
  ¬ D6 (p_f.add 0).block ∧ (
  LD [.int .i64] (p_f.add 0) w6 fun (x17 : Int) =>
  ¬ D6 (p_f.add 1).block ∧ (
  LD [.int .i64] (p_f.add 1) w6 fun (x19 : Int) =>
  ST px2 0 [.slice none 0 0, .slice none 0 0, .slice none 0 0] w6 fun w7 =>
  Chg w6 w7 D6 ∧ (
  Chg w6 w7 D6 ∧ (
  LD [.sl, .sl, .sl] px2 w7 fun (r0_0 : Sl) (r0_1 : Sl) (r0_2 : Sl) =>
  Q r0_0 r0_1 r0_2 x17 x19 w7))))) (
  LD [.sl, .sl, .sl] (px8.add 0) w5 fun (x23_0 : Sl) (x23_1 : Sl) (x23_2 : Sl) =>
  ST px2 0 [x23_0.v, x23_1.v, x23_2.v] w5 fun w8 =>
  LD [.sl, .sl, .sl] px2 w8 fun (r0_0_2 : Sl) (r0_1_2 : Sl) (r0_2_2 : Sl) =>
  Q r0_0_2 r0_1_2 r0_2_2 0 0 w8))

theorem C_i_ParseNetwork {Q : Sl → Sl → Sl → Int → Int → World → Prop} {s : ByteArray} {w : World} (h : V_i_ParseNetwork Q s w) : Calls Tryd.prog F.i_ParseNetwork #[.string s] w (Ret [.agg [.sl, .sl, .sl], .at (.int .i64), .at (.int .i64)] Q) :=
  mkC (hint := hint) (ann := annOf []) (args := [.string s]) (rs := [.agg [.sl, .sl, .sl], .at (.int .i64), .at (.int .i64)]) Tryd.func8 (by kernel_rfl) (by kernel_rfl) h

def V_s_txNet_k3 (I3 : ByteArray → Int → World → Prop) (m3 : ByteArray → Int → World → Nat) (x3 : ByteArray) (x14 : Int) (w2 : World) (x3_2 : ByteArray) (w18 : World) : Prop :=
  I3 (x3_2 ++ (ByteArray.mk #[10])) (IntKind.i64.wrap (x14 + 1)) w18 ∧ m3 (x3_2 ++ (ByteArray.mk #[10])) (IntKind.i64.wrap (x14 + 1)) w18 < m3 x3 x14 w2

def V_s_txNet_k5 (I3 : ByteArray → Int → World → Prop) (m3 : ByteArray → Int → World → Nat) (x14 : Int) (w2 : World) (x3 : ByteArray) (x18 : Sl) (x6_2 : Sl) (w10 : World) : Prop :=
  ∃ (I11 : Sl → Int → World → Prop) (m11 : Sl → Int → World → Nat), I11 x6_2 0 w10 ∧ ∀ (x6_3 : Sl) (x51 : Int) w11, I11 x6_3 x51 w11 → ∀ _ _ _ _ _ _ _ _ _ _ : Value,
  cond (decide ((x51 : Int) < x18.len)) (
  IX x18 x51 2 fun (px53 : Addr) =>
  LD [.int .i64, .int .i64] px53 w11 fun (x54_0 : Int) (x54_1 : Int) =>
  NEW T.t_i_End #[.int .i64 0, .int .i64 0] w11 fun (px8 : Addr) w12 =>
  ST px8 0 [.int .i64 x54_0, .int .i64 x54_1] w12 fun w13 =>
  LD [.int .i64, .int .i64] px8 w13 fun (x56_0 : Int) (x56_1 : Int) =>
  Calls Tryd.prog F.s_txEnd #[.agg #[.int .i64 x56_0, .int .i64 x56_1]] w13 (Ret [.at .str] fun (x57 : ByteArray) w14 =>
  RUN Tryd.prog (.at .sl) (Instr.buildSlice T.t_sl_string 1 #[(0, .string x57)]) w14 fun (x58 : Sl) w15 =>
  RUN Tryd.prog (.at .sl) (bsem .append #[T.t_sl_string, T.t_sl_string] T.t_sl_string #[x6_3.v, x58.v]) w15 fun (x59 : Sl) w16 =>
  I11 x59 (IntKind.i64.wrap (x51 + 1)) w16 ∧ m11 x59 (IntKind.i64.wrap (x51 + 1)) w16 < m11 x6_3 x51 w11)) (
  ∃ (I16 : ByteArray → Int → World → Prop) (m16 : ByteArray → Int → World → Nat), I16 x3 0 w11 ∧ ∀ (x3_2 : ByteArray) (x63 : Int) w17, I16 x3_2 x63 w17 → ∀ _ _ _ _ _ _ _ _ _ _ _ _ _ _ : Value,
  cond (decide ((x63 : Int) < x6_3.len)) (
  IX x6_3 x63 1 fun (px66 : Addr) =>
  LD [.str] px66 w17 fun (x67 : ByteArray) =>
  cond (decide ((x63 : Int) > 0)) (
  x3_2.size + (ByteArray.mk #[32]).size ≤ 9223372036854775807 ∧ (
  (x3_2 ++ (ByteArray.mk #[32])).size + x67.size ≤ 9223372036854775807 ∧ (
  I16 ((x3_2 ++ (ByteArray.mk #[32])) ++ x67) (IntKind.i64.wrap (x63 + 1)) w17 ∧ m16 ((x3_2 ++ (ByteArray.mk #[32])) ++ x67) (IntKind.i64.wrap (x63 + 1)) w17 < m16 x3_2 x63 w17))) (
  x3_2.size + x67.size ≤ 9223372036854775807 ∧ (
  I16 (x3_2 ++ x67) (IntKind.i64.wrap (x63 + 1)) w17 ∧ m16 (x3_2 ++ x67) (IntKind.i64.wrap (x63 + 1)) w17 < m16 x3_2 x63 w17))) (
  x3_2.size + (ByteArray.mk #[10]).size ≤ 9223372036854775807 ∧ (
  V_s_txNet_k3 I3 m3 x3 x14 w2 x3_2 w17)))

def V_s_txNet_k4 (I3 : ByteArray → Int → World → Prop) (m3 : ByteArray → Int → World → Nat) (w2 : World) (px1 : Addr) (x3 : ByteArray) (x14 : Int) (x18 : Sl) (x6 : Sl) (w6 : World) : Prop :=
  LD [.sl] (px1.add 2) w6 fun (x34 : Sl) =>
  IX x34 x14 1 fun (px36 : Addr) =>
  LD [.int .i64] px36 w6 fun (x37 : Int) =>
  cond (decide ((x37 : Int) > 0)) (
  LD [.sl] (px1.add 2) w6 fun (x41 : Sl) =>
  IX x41 x14 1 fun (px43 : Addr) =>
  LD [.int .i64] px43 w6 fun (x44 : Int) =>
  Calls Tryd.prog F.s_l1Num #[.int .i64 x44] w6 (Ret [.at .str] fun (x45 : ByteArray) w7 =>
  (ByteArray.mk #[47]).size + x45.size ≤ 9223372036854775807 ∧ (
  RUN Tryd.prog (.at .sl) (Instr.buildSlice T.t_sl_string 1 #[(0, .string ((ByteArray.mk #[47]) ++ x45))]) w7 fun (x47 : Sl) w8 =>
  RUN Tryd.prog (.at .sl) (bsem .append #[T.t_sl_string, T.t_sl_string] T.t_sl_string #[x6.v, x47.v]) w8 fun (x48 : Sl) w9 =>
  V_s_txNet_k5 I3 m3 x14 w2 x3 x18 x48 w9))) (
  V_s_txNet_k5 I3 m3 x14 w2 x3 x18 x6 w6)

def V_s_txNet (Q : ByteArray → World → Prop) (x0_0 : Sl) (x0_1 : Sl) (x0_2 : Sl) (w : World) : Prop :=
  NEW T.t_i_Network #[x0_0.v, x0_1.v, x0_2.v] w fun (px1 : Addr) w1 =>
  LD [.sl] (px1.add 0) w1 fun (x12 : Sl) =>
  ∃ (I3 : ByteArray → Int → World → Prop) (m3 : ByteArray → Int → World → Nat), I3 (ByteArray.mk #[]) 0 w1 ∧ ∀ (x3 : ByteArray) (x14 : Int) w2, I3 x3 x14 w2 → ∀ _ _ _ _ _ _ _ _ _ _ _ _ _ _ _ _ _ _ _ _ _ _ _ _ _ _ _ _ _ _ _ _ _ _ _ _ _ _ _ _ _ _ _ _ _ _ _ _ _ _ _ _ _ _ _ _ _ _ _ _ _ _ _ _ _ _ _ _ _ _ : Value,
  cond (decide ((x14 : Int) < x12.len)) (
  IX x12 x14 1 fun (px17 : Addr) =>
  LD [.sl] px17 w2 fun (x18 : Sl) =>
  LD [.sl] (px1.add 1) w2 fun (x20 : Sl) =>
  cond (decide ((x20.len : Int) > 0)) (
  LD [.sl] (px1.add 1) w2 fun (x25 : Sl) =>
  IX x25 x14 1 fun (px27 : Addr) =>
  LD [.int .i64] px27 w2 fun (x28 : Int) =>
  Calls Tryd.prog F.s_l1Num #[.int .i64 x28] w2 (Ret [.at .str] fun (x29 : ByteArray) w3 =>
  (ByteArray.mk #[35]).size + x29.size ≤ 9223372036854775807 ∧ (
  RUN Tryd.prog (.at .sl) (Instr.buildSlice T.t_sl_string 1 #[(0, .string ((ByteArray.mk #[35]) ++ x29))]) w3 fun (x31 : Sl) w4 =>
  RUN Tryd.prog (.at .sl) (bsem .append #[T.t_sl_string, T.t_sl_string] T.t_sl_string #[.slice none 0 0, x31.v]) w4 fun (x32 : Sl) w5 =>
  V_s_txNet_k4 I3 m3 w2 px1 x3 x14 x18 x32 w5))) (
  V_s_txNet_k4 I3 m3 w2 px1 x3 x14 x18 (⟨none, 0, 0⟩) w2)) (
  Q x3 w2)

theorem C_s_txNet {Q : ByteArray → World → Prop} {x0_0 : Sl} {x0_1 : Sl} {x0_2 : Sl} {w : World} (h : V_s_txNet Q x0_0 x0_1 x0_2 w) : Calls Tryd.prog F.s_txNet #[.agg #[x0_0.v, x0_1.v, x0_2.v]] w (Ret [.at .str] Q) :=
  mkC (hint := hint) (ann := annOf [(3, ⟨[(3, .str), (14, .int .i64)], [4, 5, 6, 8, 9, 10, 15, 16, 17, 18, 19, 20, 21, 22, 23, 24, 25, 26, 27, 28, 29, 30, 31, 32, 33, 34, 35, 36, 37, 38, 39, 40, 41, 42, 43, 44, 45, 46, 47, 48, 49, 50, 51, 52, 53, 54, 55, 56, 57, 58, 59, 60, 61, 62, 63, 64, 65, 66, 67, 68, 69, 70, 71, 72, 73, 74, 75, 76, 77, 78]⟩), (11, ⟨[(6, .sl), (51, .int .i64)], [8, 52, 53, 54, 55, 56, 57, 58, 59, 60]⟩), (16, ⟨[(3, .str), (63, .int .i64)], [9, 10, 64, 65, 66, 67, 68, 69, 70, 71, 72, 73, 74, 75]⟩)]) (args := [.agg #[x0_0.v, x0_1.v, x0_2.v]]) (rs := [.at .str]) Tryd.func12 (by kernel_rfl) (by kernel_rfl) h

def V_i_networkText_k3 (I3 : Int → World → Prop) (m3 : Int → World → Nat) (x14 : Int) (w3 : World) (w20 : World) : Prop :=
  I3 (IntKind.i64.wrap (x14 + 1)) w20 ∧ m3 (IntKind.i64.wrap (x14 + 1)) w20 < m3 x14 w3

def V_i_networkText_k5 (I3 : Int → World → Prop) (m3 : Int → World → Nat) (x14 : Int) (w3 : World) (px3 : Addr) (x18 : Sl) (x6_2 : Sl) (w11 : World) : Prop :=
  ∃ (I11 : Sl → Int → World → Prop) (m11 : Sl → Int → World → Nat), I11 x6_2 0 w11 ∧ ∀ (x6_3 : Sl) (x51 : Int) w12, I11 x6_3 x51 w12 → ∀ _ _ _ _ _ _ _ _ _ _ _ _ _ _ _ _ : Value,
  cond (decide ((x51 : Int) < x18.len)) (
  IX x18 x51 2 fun (px53 : Addr) =>
  LD [.int .i64, .int .i64] px53 w12 fun (x54_0 : Int) (x54_1 : Int) =>
  NEW T.t_i_End #[.int .i64 0, .int .i64 0] w12 fun (px8 : Addr) w13 =>
  ST px8 0 [.int .i64 x54_0, .int .i64 x54_1] w13 fun w14 =>
  LD [.int .i64, .int .i64] px8 w14 fun (x56_0 : Int) (x56_1 : Int) =>
  Calls Tryd.prog F.i_PortText #[.agg #[.int .i64 x56_0, .int .i64 x56_1]] w14 (Ret [.at .str, .at .bool] fun (x57_0 : ByteArray) (x57_1 : Bool) w15 =>
  RUN Tryd.prog (.at .sl) (Instr.buildSlice T.t_sl_string 1 #[(0, .string x57_0)]) w15 fun (x62 : Sl) w16 =>
  RUN Tryd.prog (.at .sl) (bsem .append #[T.t_sl_string, T.t_sl_string] T.t_sl_string #[x6_3.v, x62.v]) w16 fun (x63 : Sl) w17 =>
  I11 x63 (IntKind.i64.wrap (x51 + 1)) w17 ∧ m11 x63 (IntKind.i64.wrap (x51 + 1)) w17 < m11 x6_3 x51 w12)) (
  Calls Tryd.prog F.strings_Join #[x6_3.v, .string (ByteArray.mk #[32])] w12 (Ret [.at .str] fun (x66 : ByteArray) w18 =>
  x66.size + (ByteArray.mk #[10]).size ≤ 9223372036854775807 ∧ (
  Calls Tryd.prog F.ptr_strings_Builder_WriteString #[.pointer (some px3), .string (x66 ++ (ByteArray.mk #[10]))] w18 (Ret [.at (.int .i64), .at .val] fun (x68_0 : Int) (x68_1 : Value) w19 =>
  V_i_networkText_k3 I3 m3 x14 w3 w19))))

def V_i_networkText_k4 (I3 : Int → World → Prop) (m3 : Int → World → Nat) (w3 : World) (px1 : Addr) (px3 : Addr) (x14 : Int) (x18 : Sl) (x6 : Sl) (w7 : World) : Prop :=
  LD [.sl] (px1.add 2) w7 fun (x34 : Sl) =>
  IX x34 x14 1 fun (px36 : Addr) =>
  LD [.int .i64] px36 w7 fun (x37 : Int) =>
  cond ((x37 : Int) != 0) (
  LD [.sl] (px1.add 2) w7 fun (x41 : Sl) =>
  IX x41 x14 1 fun (px43 : Addr) =>
  LD [.int .i64] px43 w7 fun (x44 : Int) =>
  Calls Tryd.prog F.strconv_Itoa #[.int .i64 x44] w7 (Ret [.at .str] fun (x45 : ByteArray) w8 =>
  (ByteArray.mk #[47]).size + x45.size ≤ 9223372036854775807 ∧ (
  RUN Tryd.prog (.at .sl) (Instr.buildSlice T.t_sl_string 1 #[(0, .string ((ByteArray.mk #[47]) ++ x45))]) w8 fun (x47 : Sl) w9 =>
  RUN Tryd.prog (.at .sl) (bsem .append #[T.t_sl_string, T.t_sl_string] T.t_sl_string #[x6.v, x47.v]) w9 fun (x48 : Sl) w10 =>
  V_i_networkText_k5 I3 m3 x14 w3 px3 x18 x48 w10))) (
  V_i_networkText_k5 I3 m3 x14 w3 px3 x18 x6 w7)

def V_i_networkText (Q : ByteArray → World → Prop) (x0_0 : Sl) (x0_1 : Sl) (x0_2 : Sl) (w : World) : Prop :=
  NEW T.t_i_Network #[x0_0.v, x0_1.v, x0_2.v] w fun (px1 : Addr) w1 =>
  NEW T.t_strings_Builder #[.pointer none, .slice none 0 0] w1 fun (px3 : Addr) w2 =>
  LD [.sl] (px1.add 0) w2 fun (x12 : Sl) =>
  ∃ (I3 : Int → World → Prop) (m3 : Int → World → Nat), I3 0 w2 ∧ ∀ (x14 : Int) w3, I3 x14 w3 → ∀ _ _ _ _ _ _ _ _ _ _ _ _ _ _ _ _ _ _ _ _ _ _ _ _ _ _ _ _ _ _ _ _ _ _ _ _ _ _ _ _ _ _ _ _ _ _ _ _ _ _ _ _ _ _ _ _ _ _ _ _ _ : Value,
  cond (decide ((x14 : Int) < x12.len)) (
  IX x12 x14 1 fun (px17 : Addr) =>
  LD [.sl] px17 w3 fun (x18 : Sl) =>
  LD [.sl] (px1.add 1) w3 fun (x20 : Sl) =>
  cond (decide ((x20.len : Int) > 0)) (
  LD [.sl] (px1.add 1) w3 fun (x25 : Sl) =>
  IX x25 x14 1 fun (px27 : Addr) =>
  LD [.int .i64] px27 w3 fun (x28 : Int) =>
  Calls Tryd.prog F.strconv_Itoa #[.int .i64 x28] w3 (Ret [.at .str] fun (x29 : ByteArray) w4 =>
  (ByteArray.mk #[35]).size + x29.size ≤ 9223372036854775807 ∧ (
  RUN Tryd.prog (.at .sl) (Instr.buildSlice T.t_sl_string 1 #[(0, .string ((ByteArray.mk #[35]) ++ x29))]) w4 fun (x31 : Sl) w5 =>
  RUN Tryd.prog (.at .sl) (bsem .append #[T.t_sl_string, T.t_sl_string] T.t_sl_string #[.slice none 0 0, x31.v]) w5 fun (x32 : Sl) w6 =>
  V_i_networkText_k4 I3 m3 w3 px1 px3 x14 x18 x32 w6))) (
  V_i_networkText_k4 I3 m3 w3 px1 px3 x14 x18 (⟨none, 0, 0⟩) w3)) (
  Calls Tryd.prog F.ptr_strings_Builder_String #[.pointer (some px3)] w3 (Ret [.at .str] fun (x70 : ByteArray) w21 =>
  Q x70 w21))

theorem C_i_networkText {Q : ByteArray → World → Prop} {x0_0 : Sl} {x0_1 : Sl} {x0_2 : Sl} {w : World} (h : V_i_networkText Q x0_0 x0_1 x0_2 w) : Calls Tryd.prog F.i_networkText #[.agg #[x0_0.v, x0_1.v, x0_2.v]] w (Ret [.at .str] Q) :=
  mkC (hint := hint) (ann := annOf [(3, ⟨[(14, .int .i64)], [4, 5, 6, 8, 9, 10, 15, 16, 17, 18, 19, 20, 21, 22, 23, 24, 25, 26, 27, 28, 29, 30, 31, 32, 33, 34, 35, 36, 37, 38, 39, 40, 41, 42, 43, 44, 45, 46, 47, 48, 49, 50, 51, 52, 53, 54, 55, 56, 57, 58, 59, 60, 61, 62, 63, 64, 65, 66, 67, 68, 69]⟩), (11, ⟨[(6, .sl), (51, .int .i64)], [8, 9, 10, 52, 53, 54, 55, 56, 57, 58, 59, 60, 61, 62, 63, 64]⟩)]) (args := [.agg #[x0_0.v, x0_1.v, x0_2.v]]) (rs := [.at .str]) Tryd.func13 (by kernel_rfl) (by kernel_rfl) h

def V_ptr_s_txRead_all_k4 (x : Addr) (s : ByteArray) (Q : Bool → World → Prop) (I4 : Int → World → Prop) (m4 : Int → World → Nat) (from1 : Int) (w2 : World) (end1 : Int) (w4 : World) : Prop :=
  RUN Tryd.prog (.at .str) (Instr.sliceAt T.t_string (.string s) (some (.int .i64 from1)) (some (.int .i64 end1)) none) w4 fun (x33 : ByteArray) w5 =>
  Calls Tryd.prog F.ptr_s_txRead_line #[.pointer (some x), .string x33, .int .i64 from1] w5 (Ret [.at .bool] fun (x35 : Bool) w6 =>
  cond (!x35) (
  Q false w6) (
  I4 (IntKind.i64.wrap (end1 + 1)) w6 ∧ m4 (IntKind.i64.wrap (end1 + 1)) w6 < m4 from1 w2))

def V_ptr_s_txRead_all (Q : Bool → World → Prop) (x : Addr) (s : ByteArray) (w : World) : Prop :=
  cond (decide ((s.size : Int) > 6000)) (
  Calls Tryd.prog F.ptr_s_txRead_fail #[.pointer (some x), .int .i64 1, .int .i64 0] w (Ret [.at .bool] fun (x11 : Bool) w1 =>
  Q x11 w1)) (
  ∃ (I4 : Int → World → Prop) (m4 : Int → World → Nat), I4 0 w ∧ ∀ (from1 : Int) w2, I4 from1 w2 → ∀ _ _ _ _ _ _ _ _ _ _ _ _ _ _ _ _ _ _ _ _ _ _ _ _ _ _ _ _ _ : Value,
  cond (decide ((from1 : Int) < s.size)) (
  ∃ (I6 : Int → World → Prop) (m6 : Int → World → Nat), I6 from1 w2 ∧ ∀ (end1 : Int) w3, I6 end1 w3 → ∀ _ _ _ _ _ _ _ _ _ _ _ _ : Value,
  cond (decide ((end1 : Int) < s.size)) (
  SIX s end1 fun (x24 : Int) =>
  cond ((x24 : Int) != 10) (
  I6 (IntKind.i64.wrap (end1 + 1)) w3 ∧ m6 (IntKind.i64.wrap (end1 + 1)) w3 < m6 end1 w3) (
  V_ptr_s_txRead_all_k4 x s Q I4 m4 from1 w2 end1 w3)) (
  V_ptr_s_txRead_all_k4 x s Q I4 m4 from1 w2 end1 w3)) (
  LD [.sl] (x.add 3) w2 fun (x42 : Sl) =>
  cond ((x42.len : Int) == 0) (
  Calls Tryd.prog F.ptr_s_txRead_fail #[.pointer (some x), .int .i64 3, .int .i64 0] w2 (Ret [.at .bool] fun (x46 : Bool) w7 =>
  Q x46 w7)) (
  Calls Tryd.prog F.ptr_s_txRead_ends #[.pointer (some x)] w2 (Ret [.at .bool] fun (x48 : Bool) w8 =>
  cond x48 (
  Calls Tryd.prog F.ptr_s_txRead_ids #[.pointer (some x)] w8 (Ret [.at .bool] fun (x51 : Bool) w9 =>
  Q x51 w9)) (
  Q false w8)))))

theorem C_ptr_s_txRead_all {Q : Bool → World → Prop} {x : Addr} {s : ByteArray} {w : World} (h : V_ptr_s_txRead_all Q x s w) : Calls Tryd.prog F.ptr_s_txRead_all #[.pointer (some x), .string s] w (Ret [.at .bool] Q) :=
  mkC (hint := hint) (ann := annOf [(4, ⟨[(5, .int .i64)], [4, 6, 12, 13, 14, 15, 16, 17, 18, 19, 20, 21, 22, 23, 24, 25, 26, 27, 28, 29, 30, 31, 32, 33, 34, 35, 36, 37, 38]⟩), (6, ⟨[(6, .int .i64)], [17, 18, 19, 20, 21, 22, 23, 24, 25, 26, 27, 28]⟩)]) (args := [.pointer (some x), .string s]) (rs := [.at .bool]) Tryd.func14 (by kernel_rfl) (by kernel_rfl) h

def V_ptr_i_networkReader_read (Q : Int → Int → World → Prop) (r : Addr) (s : ByteArray) (w : World) : Prop :=
  NEW T.t_i_fault #[.int .i64 0, .int .i64 0] w fun (px4 : Addr) w1 =>
  cond (decide ((s.size : Int) > 6000)) (
  ST px4 0 [.int .i64 0, .int .i64 1] w1 fun w2 =>
  LD [.int .i64, .int .i64] px4 w2 fun (r0_0 : Int) (r0_1 : Int) =>
  Q r0_0 r0_1 w2) (
  Calls Tryd.prog F.i_linesOf #[.string s] w1 (Ret [.at .sl] fun (x15 : Sl) w3 =>
  ST (r.add 3) 0 [x15.v] w3 fun w4 =>
  LD [.sl] (r.add 3) w4 fun (x21 : Sl) =>
  ∃ (I5 : Int → World → Prop) (m5 : Int → World → Nat), I5 0 w4 ∧ ∀ (x23 : Int) w5, I5 x23 w5 → ∀ _ _ _ _ _ _ _ _ _ _ _ _ _ : Value,
  cond (decide ((x23 : Int) < x21.len)) (
  IX x21 x23 2 fun (px25 : Addr) =>
  LD [.str, .int .i64] px25 w5 fun (x26_0 : ByteArray) (x26_1 : Int) =>
  NEW T.t_i_textLine #[.string (ByteArray.mk #[]), .int .i64 0] w5 fun (p_l : Addr) w6 =>
  ST p_l 0 [.string x26_0, .int .i64 x26_1] w6 fun w7 =>
  LD [.str, .int .i64] p_l w7 fun (x28_0 : ByteArray) (x28_1 : Int) =>
  Calls Tryd.prog F.ptr_i_networkReader_line #[.pointer (some r), .agg #[.string x28_0, .int .i64 x28_1]] w7 (Ret [.agg [.int .i64, .int .i64]] fun (x29_0 : Int) (x29_1 : Int) w8 =>
  NEW T.t_i_fault #[.int .i64 0, .int .i64 0] w8 fun (p_f : Addr) w9 =>
  ST p_f 0 [.int .i64 x29_0, .int .i64 x29_1] w9 fun w10 =>
  LD [.int .i64] (p_f.add 1) w10 fun (x31 : Int) =>
  cond ((x31 : Int) != 0) (
  LD [.int .i64, .int .i64] p_f w10 fun (x33_0 : Int) (x33_1 : Int) =>
  ST px4 0 [.int .i64 x33_0, .int .i64 x33_1] w10 fun w11 =>
  LD [.int .i64, .int .i64] px4 w11 fun (r0_0_2 : Int) (r0_1_2 : Int) =>
  Q r0_0_2 r0_1_2 w11) (
  I5 (IntKind.i64.wrap (x23 + 1)) w10 ∧ m5 (IntKind.i64.wrap (x23 + 1)) w10 < m5 x23 w5))) (
  LD [.sl] (r.add 3) w5 fun (x38 : Sl) =>
  cond ((x38.len : Int) == 0) (
  ST px4 0 [.int .i64 0, .int .i64 3] w5 fun w12 =>
  LD [.int .i64, .int .i64] px4 w12 fun (r0_0_3 : Int) (r0_1_3 : Int) =>
  Q r0_0_3 r0_1_3 w12) (
  Calls Tryd.prog F.ptr_i_networkReader_checkEnds #[.pointer (some r)] w5 (Ret [.agg [.int .i64, .int .i64]] fun (x43_0 : Int) (x43_1 : Int) w13 =>
  NEW T.t_i_fault #[.int .i64 0, .int .i64 0] w13 fun (p_f_2 : Addr) w14 =>
  ST p_f_2 0 [.int .i64 x43_0, .int .i64 x43_1] w14 fun w15 =>
  LD [.int .i64] (p_f_2.add 1) w15 fun (x45 : Int) =>
  cond ((x45 : Int) != 0) (
  LD [.int .i64, .int .i64] p_f_2 w15 fun (x47_0 : Int) (x47_1 : Int) =>
  ST px4 0 [.int .i64 x47_0, .int .i64 x47_1] w15 fun w16 =>
  LD [.int .i64, .int .i64] px4 w16 fun (r0_0_4 : Int) (r0_1_4 : Int) =>
  Q r0_0_4 r0_1_4 w16) (
  Calls Tryd.prog F.ptr_i_networkReader_checkIds #[.pointer (some r)] w15 (Ret [.agg [.int .i64, .int .i64]] fun (x49_0 : Int) (x49_1 : Int) w17 =>
  ST px4 0 [.int .i64 x49_0, .int .i64 x49_1] w17 fun w18 =>
  LD [.int .i64, .int .i64] px4 w18 fun (r0_0_5 : Int) (r0_1_5 : Int) =>
  Q r0_0_5 r0_1_5 w18)))))))

theorem C_ptr_i_networkReader_read {Q : Int → Int → World → Prop} {r : Addr} {s : ByteArray} {w : World} (h : V_ptr_i_networkReader_read Q r s w) : Calls Tryd.prog F.ptr_i_networkReader_read #[.pointer (some r), .string s] w (Ret [.agg [.int .i64, .int .i64]] Q) :=
  mkC (hint := hint) (ann := annOf [(5, ⟨[(23, .int .i64)], [6, 7, 24, 25, 26, 27, 28, 29, 30, 31, 32, 33, 34]⟩)]) (args := [.pointer (some r), .string s]) (rs := [.agg [.int .i64, .int .i64]]) Tryd.func15 (by kernel_rfl) (by kernel_rfl) h

def V_s_l1Num (Q : ByteArray → World → Prop) (n : Int) (w : World) : Prop :=
  cond (decide ((n : Int) < 10)) (
  RUN Tryd.prog (.at .sl) (Instr.buildSlice T.t_sl_uint8 1 #[(0, .int .u8 (IntKind.u8.wrap (IntKind.i64.wrap (48 + n))))]) w fun (x8 : Sl) w1 =>
  RUN Tryd.prog (.at .str) (convert T.t_sl_uint8 T.t_string (x8.v)) w1 fun (x9 : ByteArray) w2 =>
  Q x9 w2) (
  ∀ w3, Ext w w3 → w3.heap = w.heap →
  (10 : Int) ≠ 0 ∧ (
  (10 : Int) ≠ 0 ∧ (
  (
  Calls Tryd.prog F.s_l1Num #[.int .i64 (IntKind.i64.wrap (Int.tdiv n 10))] w3 (Ret [.at .str] fun (x12 : ByteArray) w4 =>
  Ext w3 w4 ∧ (
  Ext w4 w4 ∧ (
  RUN Tryd.prog (.at .sl) (Instr.buildSlice T.t_sl_uint8 1 #[(0, .int .u8 (IntKind.u8.wrap (IntKind.i64.wrap (48 + (Int.tmod n 10)))))]) w4 fun (x17 : Sl) w5 =>
  Ext w4 w5 ∧ (
  RUN Tryd.prog (.at .str) (convert T.t_sl_uint8 T.t_string (x17.v)) w5 fun (x18 : ByteArray) w6 =>
  Ext w5 w6 ∧ (
  x12.size + x18.size ≤ 9223372036854775807 ∧ (
  Ext w6 w6 ∧ (
  Ext w6 w6 ∧ (
  Q (x12 ++ x18) w6))))))))) ∧ (
  Ext w3 w3 ∧ (
  (
  Calls Tryd.prog F.s_l1Num #[.int .i64 (IntKind.i64.wrap (Int.tdiv n 10))] w3 (Ret [.at .str] fun (x12_2 : ByteArray) w7 =>
  Ext w3 w7 ∧ (
  RUN Tryd.prog (.at .sl) (Instr.buildSlice T.t_sl_uint8 1 #[(0, .int .u8 (IntKind.u8.wrap (IntKind.i64.wrap (48 + (Int.tmod n 10)))))]) w7 fun (x17_2 : Sl) w8 =>
  Ext w7 w8 ∧ (
  RUN Tryd.prog (.at .str) (convert T.t_sl_uint8 T.t_string (x17_2.v)) w8 fun (x18_2 : ByteArray) w9 =>
  Ext w8 w9 ∧ (
  x12_2.size + x18_2.size ≤ 9223372036854775807 ∧ (
  Ext w9 w9 ∧ (
  Ext w9 w9 ∧ (
  Q (x12_2 ++ x18_2) w9)))))))) ∧ (
  RUN Tryd.prog (.at .sl) (Instr.buildSlice T.t_sl_uint8 1 #[(0, .int .u8 (IntKind.u8.wrap (IntKind.i64.wrap (48 + (Int.tmod n 10)))))]) w3 fun (x17_3 : Sl) w10 =>
  Ext w3 w10 ∧ (
  (
  Calls Tryd.prog F.s_l1Num #[.int .i64 (IntKind.i64.wrap (Int.tdiv n 10))] w10 (Ret [.at .str] fun (x12_3 : ByteArray) w11 =>
  Ext w10 w11 ∧ (
  RUN Tryd.prog (.at .str) (convert T.t_sl_uint8 T.t_string (x17_3.v)) w11 fun (x18_3 : ByteArray) w12 =>
  Ext w11 w12 ∧ (
  x12_3.size + x18_3.size ≤ 9223372036854775807 ∧ (
  Ext w12 w12 ∧ (
  Ext w12 w12 ∧ (
  Q (x12_3 ++ x18_3) w12))))))) ∧ (
  RUN Tryd.prog (.at .str) (convert T.t_sl_uint8 T.t_string (x17_3.v)) w10 fun (x18_4 : ByteArray) w13 =>
  Ext w10 w13 ∧ (
  Calls Tryd.prog F.s_l1Num #[.int .i64 (IntKind.i64.wrap (Int.tdiv n 10))] w13 (Ret [.at .str] fun (x12_4 : ByteArray) w14 =>
  Ext w13 w14 ∧ (
  x12_4.size + x18_4.size ≤ 9223372036854775807 ∧ (
  Ext w14 w14 ∧ (
  Ext w14 w14 ∧ (
  Q (x12_4 ++ x18_4) w14))))))))))))))

theorem C_s_l1Num {Q : ByteArray → World → Prop} {n : Int} {w : World} (h : V_s_l1Num Q n w) : Calls Tryd.prog F.s_l1Num #[.int .i64 n] w (Ret [.at .str] Q) :=
  mkC (hint := hint) (ann := annOf []) (args := [.int .i64 n]) (rs := [.at .str]) Tryd.func22 (by kernel_rfl) (by kernel_rfl) h

def V_s_txEnd (Q : ByteArray → World → Prop) (e_0 : Int) (e_1 : Int) (w : World) : Prop :=
  NEW T.t_i_End #[.int .i64 e_0, .int .i64 e_1] w fun (p_e : Addr) w1 =>
  LD [.int .i64] (p_e.add 0) w1 fun (x4 : Int) =>
  QCALL Tryd.prog F.s_l1Num #[.int .i64 x4] w1 [.at .str] fun (x5 : ByteArray) =>
  x5.size + (ByteArray.mk #[46]).size ≤ 9223372036854775807 ∧ (
  LD [.int .i64] (p_e.add 1) w1 fun (x8 : Int) =>
  QCALL Tryd.prog F.s_l1Num #[.int .i64 x8] w1 [.at .str] fun (x9 : ByteArray) =>
  (x5 ++ (ByteArray.mk #[46])).size + x9.size ≤ 9223372036854775807 ∧ (
  ∀ w2, Ext w1 w2 →
  Q ((x5 ++ (ByteArray.mk #[46])) ++ x9) w2))

theorem C_s_txEnd {Q : ByteArray → World → Prop} {e_0 : Int} {e_1 : Int} {w : World} (h : V_s_txEnd Q e_0 e_1 w) : Calls Tryd.prog F.s_txEnd #[.agg #[.int .i64 e_0, .int .i64 e_1]] w (Ret [.at .str] Q) :=
  mkC (hint := hint) (ann := annOf []) (args := [.agg #[.int .i64 e_0, .int .i64 e_1]]) (rs := [.at .str]) Tryd.func23 (by kernel_rfl) (by kernel_rfl) h

def V_i_PortText (Q : ByteArray → Bool → World → Prop) (e_0 : Int) (e_1 : Int) (w : World) : Prop :=
  NEW T.t_i_End #[.int .i64 e_0, .int .i64 e_1] w fun (p_e : Addr) w1 =>
  LD [.int .i64] (p_e.add 0) w1 fun (x5 : Int) =>
  Calls Tryd.prog F.i_within #[.int .i64 x5, .int .i64 0, .int .i64 999999] w1 (Ret [.at .bool] fun (x6 : Bool) w2 =>
  cond (!x6) (
  Q (ByteArray.mk #[]) false w2) (
  LD [.int .i64] (p_e.add 1) w2 fun (x10 : Int) =>
  Calls Tryd.prog F.i_within #[.int .i64 x10, .int .i64 0, .int .i64 999999] w2 (Ret [.at .bool] fun (x11 : Bool) w3 =>
  cond (!x11) (
  Q (ByteArray.mk #[]) false w3) (
  LD [.int .i64] (p_e.add 0) w3 fun (x15_2 : Int) =>
  QCALL Tryd.prog F.strconv_Itoa #[.int .i64 x15_2] w3 [.at .str] fun (x16_2 : ByteArray) =>
  x16_2.size + (ByteArray.mk #[46]).size ≤ 9223372036854775807 ∧ (
  LD [.int .i64] (p_e.add 1) w3 fun (x19_2 : Int) =>
  QCALL Tryd.prog F.strconv_Itoa #[.int .i64 x19_2] w3 [.at .str] fun (x20_2 : ByteArray) =>
  (x16_2 ++ (ByteArray.mk #[46])).size + x20_2.size ≤ 9223372036854775807 ∧ (
  ∀ w5, Ext w3 w5 →
  Q ((x16_2 ++ (ByteArray.mk #[46])) ++ x20_2) true w5))))))

theorem C_i_PortText {Q : ByteArray → Bool → World → Prop} {e_0 : Int} {e_1 : Int} {w : World} (h : V_i_PortText Q e_0 e_1 w) : Calls Tryd.prog F.i_PortText #[.agg #[.int .i64 e_0, .int .i64 e_1]] w (Ret [.at .str, .at .bool] Q) :=
  mkC (hint := hint) (ann := annOf []) (args := [.agg #[.int .i64 e_0, .int .i64 e_1]]) (rs := [.at .str, .at .bool]) Tryd.func25 (by kernel_rfl) (by kernel_rfl) h

def V_ptr_s_txRead_fail (Q : Bool → World → Prop) (x : Addr) (code : Int) (at1 : Int) (w : World) : Prop :=
  ST (x.add 6) 0 [.int .i64 code] w fun w1 =>
  ST (x.add 7) 0 [.int .i64 at1] w1 fun w2 =>
  Q false w2

theorem C_ptr_s_txRead_fail {Q : Bool → World → Prop} {x : Addr} {code : Int} {at1 : Int} {w : World} (h : V_ptr_s_txRead_fail Q x code at1 w) : Calls Tryd.prog F.ptr_s_txRead_fail #[.pointer (some x), .int .i64 code, .int .i64 at1] w (Ret [.at .bool] Q) :=
  mkC (hint := hint) (ann := annOf []) (args := [.pointer (some x), .int .i64 code, .int .i64 at1]) (rs := [.at .bool]) Tryd.func29 (by kernel_rfl) (by kernel_rfl) h

def V_ptr_s_txRead_line_k5 (x0 : Addr) (x1 : ByteArray) (x2 : Int) (Q : Bool → World → Prop) (I11 : Int → Int → World → Prop) (m11 : Int → Int → World → Nat) (x7 : Int) (x8 : Int) (w20 : World) (x9 : Int) (w22 : World) : Prop :=
  RUN Tryd.prog (.at .str) (Instr.sliceAt T.t_string (.string x1) (some (.int .i64 x8)) (some (.int .i64 x9)) none) w22 fun (x108 : ByteArray) w23 =>
  Calls Tryd.prog F.ptr_s_txRead_word #[.pointer (some x0), .string x108, .int .i64 (IntKind.i64.wrap (x2 + x8)), .int .i64 x7] w23 (Ret [.at .bool] fun (x113 : Bool) w24 =>
  cond (!x113) (
  Q false w24) (
  I11 (IntKind.i64.wrap (x7 + 1)) x9 w24 ∧ m11 (IntKind.i64.wrap (x7 + 1)) x9 w24 < m11 x7 x8 w20))

def V_ptr_s_txRead_line (Q : Bool → World → Prop) (x0 : Addr) (x1 : ByteArray) (x2 : Int) (w : World) : Prop :=
  LD [.sl] (x0.add 3) w fun (x13 : Sl) =>
  cond ((x13.len : Int) == 40) (
  Calls Tryd.prog F.ptr_s_txRead_fail #[.pointer (some x0), .int .i64 3, .int .i64 x2] w (Ret [.at .bool] fun (x18 : Bool) w1 =>
  Q x18 w1)) (
  LD [.sl] (x0.add 3) w fun (x23 : Sl) =>
  RUN Tryd.prog (.at .sl) (Instr.buildSlice T.t_sl_int 1 #[(0, .int .i64 x2)]) w fun (x25 : Sl) w2 =>
  RUN Tryd.prog (.at .sl) (bsem .append #[T.t_sl_int, T.t_sl_int] T.t_sl_int #[x23.v, x25.v]) w2 fun (x26 : Sl) w3 =>
  ST (x0.add 3) 0 [x26.v] w3 fun w4 =>
  LD [.sl] (x0.add 5) w4 fun (x33 : Sl) =>
  RUN Tryd.prog (.at .sl) (Instr.buildSlice T.t_sl_int 1 #[(0, .int .i64 x2)]) w4 fun (x35 : Sl) w5 =>
  RUN Tryd.prog (.at .sl) (bsem .append #[T.t_sl_int, T.t_sl_int] T.t_sl_int #[x33.v, x35.v]) w5 fun (x36 : Sl) w6 =>
  ST (x0.add 5) 0 [x36.v] w6 fun w7 =>
  LD [.sl] (x0.add 4) w7 fun (x43 : Sl) =>
  RUN Tryd.prog (.at .sl) (Instr.buildSlice T.t_sl_sl_int 1 #[(0, .slice none 0 0)]) w7 fun (x44 : Sl) w8 =>
  RUN Tryd.prog (.at .sl) (bsem .append #[T.t_sl_sl_int, T.t_sl_sl_int] T.t_sl_sl_int #[x43.v, x44.v]) w8 fun (x45 : Sl) w9 =>
  ST (x0.add 4) 0 [x45.v] w9 fun w10 =>
  LD [.sl] ((x0.add 0).add 0) w10 fun (x53 : Sl) =>
  RUN Tryd.prog (.at .sl) (Instr.buildSlice T.t_sl_sl_i_End 1 #[(0, .slice none 0 0)]) w10 fun (x54 : Sl) w11 =>
  RUN Tryd.prog (.at .sl) (bsem .append #[T.t_sl_sl_i_End, T.t_sl_sl_i_End] T.t_sl_sl_i_End #[x53.v, x54.v]) w11 fun (x55 : Sl) w12 =>
  ST ((x0.add 0).add 0) 0 [x55.v] w12 fun w13 =>
  LD [.sl] ((x0.add 0).add 1) w13 fun (x64 : Sl) =>
  RUN Tryd.prog (.at .sl) (Instr.buildSlice T.t_sl_int 1 #[(0, .int .i64 0)]) w13 fun (x65 : Sl) w14 =>
  RUN Tryd.prog (.at .sl) (bsem .append #[T.t_sl_int, T.t_sl_int] T.t_sl_int #[x64.v, x65.v]) w14 fun (x66 : Sl) w15 =>
  ST ((x0.add 0).add 1) 0 [x66.v] w15 fun w16 =>
  LD [.sl] ((x0.add 0).add 2) w16 fun (x75 : Sl) =>
  RUN Tryd.prog (.at .sl) (Instr.buildSlice T.t_sl_int 1 #[(0, .int .i64 0)]) w16 fun (x76 : Sl) w17 =>
  RUN Tryd.prog (.at .sl) (bsem .append #[T.t_sl_int, T.t_sl_int] T.t_sl_int #[x75.v, x76.v]) w17 fun (x77 : Sl) w18 =>
  ST ((x0.add 0).add 2) 0 [x77.v] w18 fun w19 =>
  ∃ (I11 : Int → Int → World → Prop) (m11 : Int → Int → World → Nat), I11 0 0 w19 ∧ ∀ (x7 : Int) (x8 : Int) w20, I11 x7 x8 w20 → ∀ _ _ _ _ _ _ _ _ _ _ _ _ _ _ _ _ _ _ _ _ _ _ _ _ _ _ _ _ _ _ _ _ _ _ _ _ _ _ _ : Value,
  cond (decide ((x8 : Int) < x1.size)) (
  SIX x1 x8 fun (x87 : Int) =>
  cond ((x87 : Int) == 32) (
  I11 x7 (IntKind.i64.wrap (x8 + 1)) w20 ∧ m11 x7 (IntKind.i64.wrap (x8 + 1)) w20 < m11 x7 x8 w20) (
  ∃ (I15 : Int → World → Prop) (m15 : Int → World → Nat), I15 x8 w20 ∧ ∀ (x9 : Int) w21, I15 x9 w21 → ∀ _ _ _ _ _ _ _ _ _ _ _ _ : Value,
  cond (decide ((x9 : Int) < x1.size)) (
  SIX x1 x9 fun (x99 : Int) =>
  cond ((x99 : Int) != 32) (
  I15 (IntKind.i64.wrap (x9 + 1)) w21 ∧ m15 (IntKind.i64.wrap (x9 + 1)) w21 < m15 x9 w21) (
  V_ptr_s_txRead_line_k5 x0 x1 x2 Q I11 m11 x7 x8 w20 x9 w21)) (
  V_ptr_s_txRead_line_k5 x0 x1 x2 Q I11 m11 x7 x8 w20 x9 w21))) (
  Q true w20))

theorem C_ptr_s_txRead_line {Q : Bool → World → Prop} {x0 : Addr} {x1 : ByteArray} {x2 : Int} {w : World} (h : V_ptr_s_txRead_line Q x0 x1 x2 w) : Calls Tryd.prog F.ptr_s_txRead_line #[.pointer (some x0), .string x1, .int .i64 x2] w (Ret [.at .bool] Q) :=
  mkC (hint := hint) (ann := annOf [(11, ⟨[(7, .int .i64), (8, .int .i64)], [6, 9, 81, 82, 83, 84, 85, 86, 87, 88, 89, 90, 91, 92, 93, 94, 95, 96, 97, 98, 99, 100, 101, 102, 103, 104, 105, 106, 107, 108, 109, 110, 111, 112, 113, 114, 115, 116, 117]⟩), (15, ⟨[(9, .int .i64)], [92, 93, 94, 95, 96, 97, 98, 99, 100, 101, 102, 103]⟩)]) (args := [.pointer (some x0), .string x1, .int .i64 x2]) (rs := [.at .bool]) Tryd.func30 (by kernel_rfl) (by kernel_rfl) h

def V_ptr_s_txRead_ends_k6 (I5 : Int → World → Prop) (m5 : Int → World → Nat) (w2 : World) (x0 : Addr) (Q : Bool → World → Prop) (x13 : Int) (x20 : Int) (x67 : Bool) (w8 : World) : Prop :=
  cond x67 (
  LD [.sl] (x0.add 4) w8 fun (x72 : Sl) =>
  IX x72 x13 1 fun (px74 : Addr) =>
  LD [.sl] px74 w8 fun (x75 : Sl) =>
  IX x75 x20 1 fun (px77 : Addr) =>
  LD [.int .i64] px77 w8 fun (x78 : Int) =>
  Calls Tryd.prog F.ptr_s_txRead_fail #[.pointer (some x0), .int .i64 4, .int .i64 x78] w8 (Ret [.at .bool] fun (x79 : Bool) w9 =>
  Q x79 w9)) (
  I5 (IntKind.i64.wrap (x20 + 1)) w8 ∧ m5 (IntKind.i64.wrap (x20 + 1)) w8 < m5 x20 w2)

def V_ptr_s_txRead_ends (Q : Bool → World → Prop) (x0 : Addr) (w : World) : Prop :=
  LD [.sl] ((x0.add 0).add 0) w fun (x11 : Sl) =>
  ∃ (I2 : Int → World → Prop) (m2 : Int → World → Nat), I2 0 w ∧ ∀ (x13 : Int) w1, I2 x13 w1 → ∀ _ _ _ _ _ _ _ _ _ _ _ _ _ _ _ _ _ _ _ _ _ _ _ _ _ _ _ _ _ _ _ _ _ _ _ _ _ _ _ _ _ _ _ _ _ _ _ _ _ _ _ _ _ _ _ _ _ _ _ _ _ _ _ _ _ _ _ _ _ _ _ _ _ : Value,
  cond (decide ((x13 : Int) < x11.len)) (
  IX x11 x13 1 fun (px16 : Addr) =>
  LD [.sl] px16 w1 fun (x17 : Sl) =>
  ∃ (I5 : Int → World → Prop) (m5 : Int → World → Nat), I5 0 w1 ∧ ∀ (x20 : Int) w2, I5 x20 w2 → ∀ _ _ _ _ _ _ _ _ _ _ _ _ _ _ _ _ _ _ _ _ _ _ _ _ _ _ _ _ _ _ _ _ _ _ _ _ _ _ _ _ _ _ _ _ _ _ _ _ _ _ _ _ _ _ _ _ _ _ _ _ _ _ _ : Value,
  cond (decide ((x20 : Int) < x17.len)) (
  IX x17 x20 2 fun (px23 : Addr) =>
  LD [.int .i64, .int .i64] px23 w2 fun (x24_0 : Int) (x24_1 : Int) =>
  NEW T.t_i_End #[.int .i64 0, .int .i64 0] w2 fun (px6 : Addr) w3 =>
  ST px6 0 [.int .i64 x24_0, .int .i64 x24_1] w3 fun w4 =>
  LD [.int .i64] (px6.add 0) w4 fun (x26 : Int) =>
  LD [.sl] ((x0.add 0).add 0) w4 fun (x31 : Sl) =>
  cond (decide ((x26 : Int) ≥ x31.len)) (
  ∀ w5, Ext w4 w5 →
  V_ptr_s_txRead_ends_k6 I5 m5 w2 x0 Q x13 x20 true w5) (
  LD [.int .i64] (px6.add 1) w4 fun (x36 : Int) =>
  LD [.sl] ((x0.add 0).add 0) w4 fun (x41 : Sl) =>
  LD [.int .i64] (px6.add 0) w4 fun (x43 : Int) =>
  IX x41 x43 1 fun (px44 : Addr) =>
  LD [.sl] px44 w4 fun (x45 : Sl) =>
  cond (decide ((x36 : Int) ≥ x45.len)) (
  ∀ w6, Ext w4 w6 →
  V_ptr_s_txRead_ends_k6 I5 m5 w2 x0 Q x13 x20 true w6) (
  LD [.sl] ((x0.add 0).add 0) w4 fun (x54 : Sl) =>
  LD [.int .i64] (px6.add 0) w4 fun (x56 : Int) =>
  IX x54 x56 1 fun (px57 : Addr) =>
  LD [.sl] px57 w4 fun (x58 : Sl) =>
  LD [.int .i64] (px6.add 1) w4 fun (x60 : Int) =>
  IX x58 x60 2 fun (px61 : Addr) =>
  LD [.int .i64, .int .i64] px61 w4 fun (x62_0 : Int) (x62_1 : Int) =>
  AEQ Tryd.prog (do eqGuard .neq T.t_i_End (.tmp 62) (.tmp 65) (.agg #[.int .i64 x62_0, .int .i64 x62_1]) (.agg #[.int .i64 x13, .int .i64 x20]); binOp .neq T.t_i_End (.agg #[.int .i64 x62_0, .int .i64 x62_1]) (.agg #[.int .i64 x13, .int .i64 x20])) fun (x66 : Bool) =>
  ∀ w7, Ext w4 w7 →
  V_ptr_s_txRead_ends_k6 I5 m5 w2 x0 Q x13 x20 x66 w7))) (
  I2 (IntKind.i64.wrap (x13 + 1)) w2 ∧ m2 (IntKind.i64.wrap (x13 + 1)) w2 < m2 x13 w1)) (
  Q true w1)

theorem C_ptr_s_txRead_ends {Q : Bool → World → Prop} {x0 : Addr} {w : World} (h : V_ptr_s_txRead_ends Q x0 w) : Calls Tryd.prog F.ptr_s_txRead_ends #[.pointer (some x0)] w (Ret [.at .bool] Q) :=
  mkC (hint := hint) (ann := annOf [(2, ⟨[(13, .int .i64)], [2, 3, 4, 5, 6, 14, 15, 16, 17, 18, 19, 20, 21, 22, 23, 24, 25, 26, 27, 28, 29, 30, 31, 32, 33, 34, 35, 36, 37, 38, 39, 40, 41, 42, 43, 44, 45, 46, 47, 48, 49, 50, 51, 52, 53, 54, 55, 56, 57, 58, 59, 60, 61, 62, 63, 64, 65, 66, 67, 68, 69, 70, 71, 72, 73, 74, 75, 76, 77, 78, 79, 80, 81]⟩), (5, ⟨[(20, .int .i64)], [2, 5, 6, 21, 22, 23, 24, 25, 26, 27, 28, 29, 30, 31, 32, 33, 34, 35, 36, 37, 38, 39, 40, 41, 42, 43, 44, 45, 46, 47, 48, 49, 50, 51, 52, 53, 54, 55, 56, 57, 58, 59, 60, 61, 62, 63, 64, 65, 66, 67, 68, 69, 70, 71, 72, 73, 74, 75, 76, 77, 78, 79, 80]⟩)]) (args := [.pointer (some x0)]) (rs := [.at .bool]) Tryd.func31 (by kernel_rfl) (by kernel_rfl) h

def V_ptr_s_txRead_ids (Q : Bool → World → Prop) (x : Addr) (w : World) : Prop :=
  LD [.sl] ((x.add 0).add 1) w fun (x9 : Sl) =>
  Calls Tryd.prog F.s_l1All #[x9.v, .int .i64 0, .int .i64 0] w (Ret [.at .bool] fun (x10 : Bool) w1 =>
  cond x10 (
  ST ((x.add 0).add 1) 0 [.slice none 0 0] w1 fun w2 =>
  Q true w2) (
  LD [.sl] ((x.add 0).add 1) w1 fun (x19 : Sl) =>
  ∃ (I5 : Int → World → Prop) (m5 : Int → World → Nat), I5 0 w1 ∧ ∀ (x21 : Int) w3, I5 x21 w3 → ∀ _ _ _ _ _ _ _ _ _ _ _ _ _ _ _ _ _ _ _ _ _ _ _ _ _ _ _ _ _ _ _ _ _ _ _ _ _ : Value,
  cond (decide ((x21 : Int) < x19.len)) (
  IX x19 x21 1 fun (px24 : Addr) =>
  LD [.int .i64] px24 w3 fun (x25 : Int) =>
  cond ((x25 : Int) == 0) (
  LD [.sl] (x.add 3) w3 fun (x32 : Sl) =>
  IX x32 x21 1 fun (px34 : Addr) =>
  LD [.int .i64] px34 w3 fun (x35 : Int) =>
  Calls Tryd.prog F.ptr_s_txRead_fail #[.pointer (some x), .int .i64 5, .int .i64 x35] w3 (Ret [.at .bool] fun (x36 : Bool) w4 =>
  Q x36 w4)) (
  LD [.sl] ((x.add 0).add 1) w3 fun (x41 : Sl) =>
  SLC x41 none (some x21) 1 fun (x43 : Sl) =>
  Calls Tryd.prog F.s_l1Has #[x43.v, .int .i64 x25] w3 (Ret [.at .bool] fun (x45 : Bool) w5 =>
  cond x45 (
  LD [.sl] (x.add 5) w5 fun (x50 : Sl) =>
  IX x50 x21 1 fun (px52 : Addr) =>
  LD [.int .i64] px52 w5 fun (x53 : Int) =>
  Calls Tryd.prog F.ptr_s_txRead_fail #[.pointer (some x), .int .i64 5, .int .i64 x53] w5 (Ret [.at .bool] fun (x54 : Bool) w6 =>
  Q x54 w6)) (
  I5 (IntKind.i64.wrap (x21 + 1)) w5 ∧ m5 (IntKind.i64.wrap (x21 + 1)) w5 < m5 x21 w3)))) (
  Q true w3)))

theorem C_ptr_s_txRead_ids {Q : Bool → World → Prop} {x : Addr} {w : World} (h : V_ptr_s_txRead_ids Q x w) : Calls Tryd.prog F.ptr_s_txRead_ids #[.pointer (some x)] w (Ret [.at .bool] Q) :=
  mkC (hint := hint) (ann := annOf [(5, ⟨[(21, .int .i64)], [2, 3, 4, 22, 23, 24, 25, 26, 27, 28, 29, 30, 31, 32, 33, 34, 35, 36, 37, 38, 39, 40, 41, 42, 43, 44, 45, 46, 47, 48, 49, 50, 51, 52, 53, 54, 55]⟩)]) (args := [.pointer (some x)]) (rs := [.at .bool]) Tryd.func32 (by kernel_rfl) (by kernel_rfl) h

def V_i_linesOf (Q : Sl → World → Prop) (s : ByteArray) (w : World) : Prop :=
  ∃ (I3 : Sl → Int → World → Prop) (m3 : Sl → Int → World → Nat), I3 (⟨none, 0, 0⟩) 0 w ∧ ∀ (out : Sl) (at1 : Int) w1, I3 out at1 w1 → ∀ _ _ _ _ _ _ _ _ _ _ _ _ _ _ _ _ _ _ _ _ _ _ _ _ _ _ _ _ _ _ _ _ _ _ _ : Value,
  cond (decide ((at1 : Int) < s.size)) (
  RUN Tryd.prog (.at .str) (Instr.sliceAt T.t_string (.string s) (some (.int .i64 at1)) none none) w1 fun (x12 : ByteArray) w2 =>
  Calls Tryd.prog F.strings_IndexByte #[.string x12, .int .u8 10] w2 (Ret [.at (.int .i64)] fun (x13 : Int) w3 =>
  cond (decide ((x13 : Int) < 0)) (
  RUN Tryd.prog (.at .str) (Instr.sliceAt T.t_string (.string s) (some (.int .i64 at1)) none none) w3 fun (x19 : ByteArray) w4 =>
  RUN Tryd.prog (.at .sl) (Instr.buildSlice T.t_sl_i_textLine 1 #[(0, .agg #[.string x19, .int .i64 at1])]) w4 fun (x22 : Sl) w5 =>
  RUN Tryd.prog (.at .sl) (bsem .append #[T.t_sl_i_textLine, T.t_sl_i_textLine] T.t_sl_i_textLine #[out.v, x22.v]) w5 fun (x23 : Sl) w6 =>
  Q x23 w6) (
  RUN Tryd.prog (.at .str) (Instr.sliceAt T.t_string (.string s) (some (.int .i64 at1)) (some (.int .i64 (IntKind.i64.wrap (at1 + x13)))) none) w3 fun (x30 : ByteArray) w7 =>
  RUN Tryd.prog (.at .sl) (Instr.buildSlice T.t_sl_i_textLine 1 #[(0, .agg #[.string x30, .int .i64 at1])]) w7 fun (x33 : Sl) w8 =>
  RUN Tryd.prog (.at .sl) (bsem .append #[T.t_sl_i_textLine, T.t_sl_i_textLine] T.t_sl_i_textLine #[out.v, x33.v]) w8 fun (x34 : Sl) w9 =>
  I3 x34 (IntKind.i64.wrap (at1 + (IntKind.i64.wrap (x13 + 1)))) w9 ∧ m3 x34 (IntKind.i64.wrap (at1 + (IntKind.i64.wrap (x13 + 1)))) w9 < m3 out at1 w1))) (
  Q out w1)

theorem C_i_linesOf {Q : Sl → World → Prop} {s : ByteArray} {w : World} (h : V_i_linesOf Q s w) : Calls Tryd.prog F.i_linesOf #[.string s] w (Ret [.at .sl] Q) :=
  mkC (hint := hint) (ann := annOf [(3, ⟨[(3, .sl), (4, .int .i64)], [2, 5, 6, 7, 8, 9, 10, 11, 12, 13, 14, 15, 16, 17, 18, 19, 20, 21, 22, 23, 24, 25, 26, 27, 28, 29, 30, 31, 32, 33, 34, 35, 36, 37, 38]⟩)]) (args := [.string s]) (rs := [.at .sl]) Tryd.func33 (by kernel_rfl) (by kernel_rfl) h

def V_ptr_i_networkReader_line_k3 (x0 : Addr) (Q : Int → Int → World → Prop) (px4 : Addr) (x19 : Sl) (x6_2 : Sl) (w146 : World) : Prop :=
  ∃ (I18 : Int → World → Prop) (m18 : Int → World → Nat), I18 0 w146 ∧ ∀ (x143 : Int) w147, I18 x143 w147 → ∀ _ _ _ _ _ _ _ _ _ _ _ _ _ _ _ _ _ _ _ _ _ _ _ _ _ _ _ _ _ _ _ _ _ _ _ _ _ _ _ _ _ _ _ _ _ _ _ _ _ _ _ _ _ _ _ _ _ _ _ _ _ _ _ _ _ _ : Value,
  cond (decide ((x143 : Int) < x6_2.len)) (
  IX x6_2 x143 2 fun (px145 : Addr) =>
  LD [.str, .int .i64] px145 w147 fun (x146_0 : ByteArray) (x146_1 : Int) =>
  NEW T.t_i_textWord #[.string (ByteArray.mk #[]), .int .i64 0] w147 fun (px12 : Addr) w148 =>
  ST px12 0 [.string x146_0, .int .i64 x146_1] w148 fun w149 =>
  LD [.str] (px12.add 0) w149 fun (x149 : ByteArray) =>
  Calls Tryd.prog F.i_ParsePort #[.string x149] w149 (Ret [.agg [.int .i64, .int .i64], .at .bool] fun (x150_0_0 : Int) (x150_0_1 : Int) (x150_1 : Bool) w150 =>
  NEW T.t_i_End #[.int .i64 0, .int .i64 0] w150 fun (px13 : Addr) w151 =>
  ST px13 0 [.int .i64 x150_0_0, .int .i64 x150_0_1] w151 fun w152 =>
  cond (!x150_1) (
  LD [.int .i64] (px12.add 1) w152 fun (x156 : Int) =>
  ST px4 0 [.int .i64 x156, .int .i64 2] w152 fun w153 =>
  LD [.int .i64, .int .i64] px4 w153 fun (r0_0_2 : Int) (r0_1_2 : Int) =>
  Q r0_0_2 r0_1_2 w153) (
  LD [.sl] ((x0.add 0).add 0) w152 fun (x162 : Sl) =>
  IX x162 x19.len 1 fun (px164 : Addr) =>
  LD [.sl] px164 w152 fun (x165 : Sl) =>
  cond ((x165.len : Int) == 6) (
  LD [.int .i64] (px12.add 1) w152 fun (x169 : Int) =>
  ST px4 0 [.int .i64 x169, .int .i64 3] w152 fun w154 =>
  LD [.int .i64, .int .i64] px4 w154 fun (r0_0_3 : Int) (r0_1_3 : Int) =>
  Q r0_0_3 r0_1_3 w154) (
  ∀ w155, Ext w152 w155 → w155.heap = w152.heap → ∃ (D155 : Nat → Prop),
  ¬ D155 ((x0.add 0).add 0).block ∧ (
  LD [.sl] ((x0.add 0).add 0) w155 fun (x175 : Sl) =>
  ¬ D155 ((x0.add 0).add 0).block ∧ (
  LD [.sl] ((x0.add 0).add 0) w155 fun (x181 : Sl) =>
  IX x181 x19.len 1 fun (px183 : Addr) =>
  ¬ D155 px183.block ∧ (
  LD [.sl] px183 w155 fun (x184 : Sl) =>
  LD [.int .i64, .int .i64] px13 w155 fun (x185_0 : Int) (x185_1 : Int) =>
  Chg w155 w155 D155 ∧ (
  RUN Tryd.prog (.at .sl) (Instr.buildSlice T.t_sl_i_End 1 #[(0, .agg #[.int .i64 x185_0, .int .i64 x185_1])]) w155 fun (x186 : Sl) w156 =>
  Chg w155 w156 D155 ∧ (
  RUN Tryd.prog (.at .sl) (bsem .append #[T.t_sl_i_End, T.t_sl_i_End] T.t_sl_i_End #[x184.v, x186.v]) w156 fun (x187 : Sl) w157 =>
  Chg w155 w157 D155 ∧ (
  IX x175 x19.len 1 fun (px188 : Addr) =>
  ST px188 0 [x187.v] w157 fun w158 =>
  ∀ w159, Ext w158 w159 → w159.heap = w158.heap → ∃ (D159 : Nat → Prop),
  ¬ D159 (x0.add 5).block ∧ (
  LD [.sl] (x0.add 5) w159 fun (x192 : Sl) =>
  ¬ D159 (x0.add 5).block ∧ (
  LD [.sl] (x0.add 5) w159 fun (x197 : Sl) =>
  IX x197 x19.len 1 fun (px199 : Addr) =>
  ¬ D159 px199.block ∧ (
  LD [.sl] px199 w159 fun (x200 : Sl) =>
  Chg w159 w159 D159 ∧ (
  LD [.int .i64] (px12.add 1) w159 fun (x202 : Int) =>
  Chg w159 w159 D159 ∧ (
  RUN Tryd.prog (.at .sl) (Instr.buildSlice T.t_sl_int 1 #[(0, .int .i64 x202)]) w159 fun (x203 : Sl) w160 =>
  Chg w159 w160 D159 ∧ (
  RUN Tryd.prog (.at .sl) (bsem .append #[T.t_sl_int, T.t_sl_int] T.t_sl_int #[x200.v, x203.v]) w160 fun (x204 : Sl) w161 =>
  Chg w159 w161 D159 ∧ (
  IX x192 x19.len 1 fun (px205 : Addr) =>
  ST px205 0 [x204.v] w161 fun w162 =>
  I18 (IntKind.i64.wrap (x143 + 1)) w162 ∧ m18 (IntKind.i64.wrap (x143 + 1)) w162 < m18 x143 w147))))))))))))))))) (
  ST px4 0 [.int .i64 0, .int .i64 0] w147 fun w163 =>
  LD [.int .i64, .int .i64] px4 w163 fun (r0_0_4 : Int) (r0_1_4 : Int) =>
  Q r0_0_4 r0_1_4 w163)

def V_ptr_i_networkReader_line_k2 (x0 : Addr) (Q : Int → Int → World → Prop) (px4 : Addr) (x19 : Sl) (x6 : Sl) (w143 : World) : Prop :=
  cond (decide ((x6.len : Int) > 0)) (
  IX x6 0 2 fun (px124 : Addr) =>
  LD [.str] (px124.add 0) w143 fun (x126 : ByteArray) =>
  Calls Tryd.prog F.i_marked #[.string x126, .string (ByteArray.mk #[47]), .int .i64 0, .int .i64 9] w143 (Ret [.at (.int .i64), .at .bool] fun (x127_0 : Int) (x127_1 : Bool) w144 =>
  cond x127_1 (
  LD [.sl] ((x0.add 0).add 2) w144 fun (x135 : Sl) =>
  IX x135 x19.len 1 fun (px138 : Addr) =>
  ST px138 0 [.int .i64 x127_0] w144 fun w145 =>
  SLC x6 (some 1) none 2 fun (x140 : Sl) =>
  V_ptr_i_networkReader_line_k3 x0 Q px4 x19 x140 w145) (
  V_ptr_i_networkReader_line_k3 x0 Q px4 x19 x6 w144))) (
  V_ptr_i_networkReader_line_k3 x0 Q px4 x19 x6 w143)

def V_ptr_i_networkReader_line (Q : Int → Int → World → Prop) (x0 : Addr) (x1_0 : ByteArray) (x1_1 : Int) (w : World) : Prop :=
  NEW T.t_i_textLine #[.string x1_0, .int .i64 x1_1] w fun (px3 : Addr) w1 =>
  NEW T.t_i_fault #[.int .i64 0, .int .i64 0] w1 fun (px4 : Addr) w2 =>
  LD [.sl] ((x0.add 0).add 0) w2 fun (x19 : Sl) =>
  cond ((x19.len : Int) == 40) (
  LD [.int .i64] (px3.add 1) w2 fun (x24 : Int) =>
  ST px4 0 [.int .i64 x24, .int .i64 3] w2 fun w3 =>
  LD [.int .i64, .int .i64] px4 w3 fun (r0_0 : Int) (r0_1 : Int) =>
  Q r0_0 r0_1 w3) (
  ∃ (I4 : World → Prop), (
  ∀ w4, Ext w2 w4 → w4.heap = w2.heap → ∃ (D4 : Nat → Prop),
  ¬ D4 ((x0.add 0).add 0).block ∧ (
  LD [.sl] ((x0.add 0).add 0) w4 fun (x33 : Sl) =>
  ¬ D4 ((x0.add 0).add 1).block ∧ (
  LD [.sl] ((x0.add 0).add 1) w4 fun (x40 : Sl) =>
  ¬ D4 ((x0.add 0).add 2).block ∧ (
  LD [.sl] ((x0.add 0).add 2) w4 fun (x47 : Sl) =>
  (
  RUN Tryd.prog (.at .sl) (Instr.buildSlice T.t_sl_sl_i_End 1 #[(0, .slice none 0 0)]) w4 fun (x34 : Sl) w5 =>
  Chg w4 w5 D4 ∧ (
  (
  RUN Tryd.prog (.at .sl) (bsem .append #[T.t_sl_sl_i_End, T.t_sl_sl_i_End] T.t_sl_sl_i_End #[x33.v, x34.v]) w5 fun (x35 : Sl) w6 =>
  Chg w4 w6 D4 ∧ (
  (
  RUN Tryd.prog (.at .sl) (Instr.buildSlice T.t_sl_int 1 #[(0, .int .i64 0)]) w6 fun (x41 : Sl) w7 =>
  Chg w4 w7 D4 ∧ (
  (
  RUN Tryd.prog (.at .sl) (bsem .append #[T.t_sl_int, T.t_sl_int] T.t_sl_int #[x40.v, x41.v]) w7 fun (x42 : Sl) w8 =>
  Chg w4 w8 D4 ∧ (
  RUN Tryd.prog (.at .sl) (Instr.buildSlice T.t_sl_int 1 #[(0, .int .i64 0)]) w8 fun (x48 : Sl) w9 =>
  Chg w4 w9 D4 ∧ (
  RUN Tryd.prog (.at .sl) (bsem .append #[T.t_sl_int, T.t_sl_int] T.t_sl_int #[x47.v, x48.v]) w9 fun (x49 : Sl) w10 =>
  Chg w4 w10 D4 ∧ (
  ST ((x0.add 0).add 0) 0 [x35.v] w10 fun w11 =>
  ST ((x0.add 0).add 1) 0 [x42.v] w11 fun w12 =>
  ST ((x0.add 0).add 2) 0 [x49.v] w12 fun w13 =>
  I4 w13)))) ∧ (
  RUN Tryd.prog (.at .sl) (Instr.buildSlice T.t_sl_int 1 #[(0, .int .i64 0)]) w7 fun (x48_2 : Sl) w14 =>
  Chg w4 w14 D4 ∧ (
  RUN Tryd.prog (.at .sl) (bsem .append #[T.t_sl_int, T.t_sl_int] T.t_sl_int #[x40.v, x41.v]) w14 fun (x42_2 : Sl) w15 =>
  Chg w4 w15 D4 ∧ (
  RUN Tryd.prog (.at .sl) (bsem .append #[T.t_sl_int, T.t_sl_int] T.t_sl_int #[x47.v, x48_2.v]) w15 fun (x49_2 : Sl) w16 =>
  Chg w4 w16 D4 ∧ (
  ST ((x0.add 0).add 0) 0 [x35.v] w16 fun w17 =>
  ST ((x0.add 0).add 1) 0 [x42_2.v] w17 fun w18 =>
  ST ((x0.add 0).add 2) 0 [x49_2.v] w18 fun w19 =>
  I4 w19)))))) ∧ (
  RUN Tryd.prog (.at .sl) (Instr.buildSlice T.t_sl_int 1 #[(0, .int .i64 0)]) w6 fun (x48_3 : Sl) w20 =>
  Chg w4 w20 D4 ∧ (
  RUN Tryd.prog (.at .sl) (Instr.buildSlice T.t_sl_int 1 #[(0, .int .i64 0)]) w20 fun (x41_2 : Sl) w21 =>
  Chg w4 w21 D4 ∧ (
  RUN Tryd.prog (.at .sl) (bsem .append #[T.t_sl_int, T.t_sl_int] T.t_sl_int #[x40.v, x41_2.v]) w21 fun (x42_3 : Sl) w22 =>
  Chg w4 w22 D4 ∧ (
  RUN Tryd.prog (.at .sl) (bsem .append #[T.t_sl_int, T.t_sl_int] T.t_sl_int #[x47.v, x48_3.v]) w22 fun (x49_3 : Sl) w23 =>
  Chg w4 w23 D4 ∧ (
  ST ((x0.add 0).add 0) 0 [x35.v] w23 fun w24 =>
  ST ((x0.add 0).add 1) 0 [x42_3.v] w24 fun w25 =>
  ST ((x0.add 0).add 2) 0 [x49_3.v] w25 fun w26 =>
  I4 w26))))))) ∧ (
  RUN Tryd.prog (.at .sl) (Instr.buildSlice T.t_sl_int 1 #[(0, .int .i64 0)]) w5 fun (x41_3 : Sl) w27 =>
  Chg w4 w27 D4 ∧ (
  (
  RUN Tryd.prog (.at .sl) (bsem .append #[T.t_sl_sl_i_End, T.t_sl_sl_i_End] T.t_sl_sl_i_End #[x33.v, x34.v]) w27 fun (x35_2 : Sl) w28 =>
  Chg w4 w28 D4 ∧ (
  (
  RUN Tryd.prog (.at .sl) (bsem .append #[T.t_sl_int, T.t_sl_int] T.t_sl_int #[x40.v, x41_3.v]) w28 fun (x42_4 : Sl) w29 =>
  Chg w4 w29 D4 ∧ (
  RUN Tryd.prog (.at .sl) (Instr.buildSlice T.t_sl_int 1 #[(0, .int .i64 0)]) w29 fun (x48_4 : Sl) w30 =>
  Chg w4 w30 D4 ∧ (
  RUN Tryd.prog (.at .sl) (bsem .append #[T.t_sl_int, T.t_sl_int] T.t_sl_int #[x47.v, x48_4.v]) w30 fun (x49_4 : Sl) w31 =>
  Chg w4 w31 D4 ∧ (
  ST ((x0.add 0).add 0) 0 [x35_2.v] w31 fun w32 =>
  ST ((x0.add 0).add 1) 0 [x42_4.v] w32 fun w33 =>
  ST ((x0.add 0).add 2) 0 [x49_4.v] w33 fun w34 =>
  I4 w34)))) ∧ (
  RUN Tryd.prog (.at .sl) (Instr.buildSlice T.t_sl_int 1 #[(0, .int .i64 0)]) w28 fun (x48_5 : Sl) w35 =>
  Chg w4 w35 D4 ∧ (
  RUN Tryd.prog (.at .sl) (bsem .append #[T.t_sl_int, T.t_sl_int] T.t_sl_int #[x40.v, x41_3.v]) w35 fun (x42_5 : Sl) w36 =>
  Chg w4 w36 D4 ∧ (
  RUN Tryd.prog (.at .sl) (bsem .append #[T.t_sl_int, T.t_sl_int] T.t_sl_int #[x47.v, x48_5.v]) w36 fun (x49_5 : Sl) w37 =>
  Chg w4 w37 D4 ∧ (
  ST ((x0.add 0).add 0) 0 [x35_2.v] w37 fun w38 =>
  ST ((x0.add 0).add 1) 0 [x42_5.v] w38 fun w39 =>
  ST ((x0.add 0).add 2) 0 [x49_5.v] w39 fun w40 =>
  I4 w40)))))) ∧ (
  RUN Tryd.prog (.at .sl) (Instr.buildSlice T.t_sl_int 1 #[(0, .int .i64 0)]) w27 fun (x48_6 : Sl) w41 =>
  Chg w4 w41 D4 ∧ (
  RUN Tryd.prog (.at .sl) (bsem .append #[T.t_sl_sl_i_End, T.t_sl_sl_i_End] T.t_sl_sl_i_End #[x33.v, x34.v]) w41 fun (x35_3 : Sl) w42 =>
  Chg w4 w42 D4 ∧ (
  RUN Tryd.prog (.at .sl) (bsem .append #[T.t_sl_int, T.t_sl_int] T.t_sl_int #[x40.v, x41_3.v]) w42 fun (x42_6 : Sl) w43 =>
  Chg w4 w43 D4 ∧ (
  RUN Tryd.prog (.at .sl) (bsem .append #[T.t_sl_int, T.t_sl_int] T.t_sl_int #[x47.v, x48_6.v]) w43 fun (x49_6 : Sl) w44 =>
  Chg w4 w44 D4 ∧ (
  ST ((x0.add 0).add 0) 0 [x35_3.v] w44 fun w45 =>
  ST ((x0.add 0).add 1) 0 [x42_6.v] w45 fun w46 =>
  ST ((x0.add 0).add 2) 0 [x49_6.v] w46 fun w47 =>
  I4 w47))))))) ∧ (
  RUN Tryd.prog (.at .sl) (Instr.buildSlice T.t_sl_int 1 #[(0, .int .i64 0)]) w5 fun (x48_7 : Sl) w48 =>
  Chg w4 w48 D4 ∧ (
  (
  RUN Tryd.prog (.at .sl) (bsem .append #[T.t_sl_sl_i_End, T.t_sl_sl_i_End] T.t_sl_sl_i_End #[x33.v, x34.v]) w48 fun (x35_4 : Sl) w49 =>
  Chg w4 w49 D4 ∧ (
  RUN Tryd.prog (.at .sl) (Instr.buildSlice T.t_sl_int 1 #[(0, .int .i64 0)]) w49 fun (x41_4 : Sl) w50 =>
  Chg w4 w50 D4 ∧ (
  RUN Tryd.prog (.at .sl) (bsem .append #[T.t_sl_int, T.t_sl_int] T.t_sl_int #[x40.v, x41_4.v]) w50 fun (x42_7 : Sl) w51 =>
  Chg w4 w51 D4 ∧ (
  RUN Tryd.prog (.at .sl) (bsem .append #[T.t_sl_int, T.t_sl_int] T.t_sl_int #[x47.v, x48_7.v]) w51 fun (x49_7 : Sl) w52 =>
  Chg w4 w52 D4 ∧ (
  ST ((x0.add 0).add 0) 0 [x35_4.v] w52 fun w53 =>
  ST ((x0.add 0).add 1) 0 [x42_7.v] w53 fun w54 =>
  ST ((x0.add 0).add 2) 0 [x49_7.v] w54 fun w55 =>
  I4 w55))))) ∧ (
  RUN Tryd.prog (.at .sl) (Instr.buildSlice T.t_sl_int 1 #[(0, .int .i64 0)]) w48 fun (x41_5 : Sl) w56 =>
  Chg w4 w56 D4 ∧ (
  RUN Tryd.prog (.at .sl) (bsem .append #[T.t_sl_sl_i_End, T.t_sl_sl_i_End] T.t_sl_sl_i_End #[x33.v, x34.v]) w56 fun (x35_5 : Sl) w57 =>
  Chg w4 w57 D4 ∧ (
  RUN Tryd.prog (.at .sl) (bsem .append #[T.t_sl_int, T.t_sl_int] T.t_sl_int #[x40.v, x41_5.v]) w57 fun (x42_8 : Sl) w58 =>
  Chg w4 w58 D4 ∧ (
  RUN Tryd.prog (.at .sl) (bsem .append #[T.t_sl_int, T.t_sl_int] T.t_sl_int #[x47.v, x48_7.v]) w58 fun (x49_8 : Sl) w59 =>
  Chg w4 w59 D4 ∧ (
  ST ((x0.add 0).add 0) 0 [x35_5.v] w59 fun w60 =>
  ST ((x0.add 0).add 1) 0 [x42_8.v] w60 fun w61 =>
  ST ((x0.add 0).add 2) 0 [x49_8.v] w61 fun w62 =>
  I4 w62))))))))) ∧ (
  RUN Tryd.prog (.at .sl) (Instr.buildSlice T.t_sl_int 1 #[(0, .int .i64 0)]) w4 fun (x41_6 : Sl) w63 =>
  Chg w4 w63 D4 ∧ (
  (
  RUN Tryd.prog (.at .sl) (Instr.buildSlice T.t_sl_sl_i_End 1 #[(0, .slice none 0 0)]) w63 fun (x34_2 : Sl) w64 =>
  Chg w4 w64 D4 ∧ (
  (
  RUN Tryd.prog (.at .sl) (bsem .append #[T.t_sl_sl_i_End, T.t_sl_sl_i_End] T.t_sl_sl_i_End #[x33.v, x34_2.v]) w64 fun (x35_6 : Sl) w65 =>
  Chg w4 w65 D4 ∧ (
  (
  RUN Tryd.prog (.at .sl) (bsem .append #[T.t_sl_int, T.t_sl_int] T.t_sl_int #[x40.v, x41_6.v]) w65 fun (x42_9 : Sl) w66 =>
  Chg w4 w66 D4 ∧ (
  RUN Tryd.prog (.at .sl) (Instr.buildSlice T.t_sl_int 1 #[(0, .int .i64 0)]) w66 fun (x48_8 : Sl) w67 =>
  Chg w4 w67 D4 ∧ (
  RUN Tryd.prog (.at .sl) (bsem .append #[T.t_sl_int, T.t_sl_int] T.t_sl_int #[x47.v, x48_8.v]) w67 fun (x49_9 : Sl) w68 =>
  Chg w4 w68 D4 ∧ (
  ST ((x0.add 0).add 0) 0 [x35_6.v] w68 fun w69 =>
  ST ((x0.add 0).add 1) 0 [x42_9.v] w69 fun w70 =>
  ST ((x0.add 0).add 2) 0 [x49_9.v] w70 fun w71 =>
  I4 w71)))) ∧ (
  RUN Tryd.prog (.at .sl) (Instr.buildSlice T.t_sl_int 1 #[(0, .int .i64 0)]) w65 fun (x48_9 : Sl) w72 =>
  Chg w4 w72 D4 ∧ (
  RUN Tryd.prog (.at .sl) (bsem .append #[T.t_sl_int, T.t_sl_int] T.t_sl_int #[x40.v, x41_6.v]) w72 fun (x42_10 : Sl) w73 =>
  Chg w4 w73 D4 ∧ (
  RUN Tryd.prog (.at .sl) (bsem .append #[T.t_sl_int, T.t_sl_int] T.t_sl_int #[x47.v, x48_9.v]) w73 fun (x49_10 : Sl) w74 =>
  Chg w4 w74 D4 ∧ (
  ST ((x0.add 0).add 0) 0 [x35_6.v] w74 fun w75 =>
  ST ((x0.add 0).add 1) 0 [x42_10.v] w75 fun w76 =>
  ST ((x0.add 0).add 2) 0 [x49_10.v] w76 fun w77 =>
  I4 w77)))))) ∧ (
  RUN Tryd.prog (.at .sl) (Instr.buildSlice T.t_sl_int 1 #[(0, .int .i64 0)]) w64 fun (x48_10 : Sl) w78 =>
  Chg w4 w78 D4 ∧ (
  RUN Tryd.prog (.at .sl) (bsem .append #[T.t_sl_sl_i_End, T.t_sl_sl_i_End] T.t_sl_sl_i_End #[x33.v, x34_2.v]) w78 fun (x35_7 : Sl) w79 =>
  Chg w4 w79 D4 ∧ (
  RUN Tryd.prog (.at .sl) (bsem .append #[T.t_sl_int, T.t_sl_int] T.t_sl_int #[x40.v, x41_6.v]) w79 fun (x42_11 : Sl) w80 =>
  Chg w4 w80 D4 ∧ (
  RUN Tryd.prog (.at .sl) (bsem .append #[T.t_sl_int, T.t_sl_int] T.t_sl_int #[x47.v, x48_10.v]) w80 fun (x49_11 : Sl) w81 =>
  Chg w4 w81 D4 ∧ (
  ST ((x0.add 0).add 0) 0 [x35_7.v] w81 fun w82 =>
  ST ((x0.add 0).add 1) 0 [x42_11.v] w82 fun w83 =>
  ST ((x0.add 0).add 2) 0 [x49_11.v] w83 fun w84 =>
  I4 w84))))))) ∧ (
  RUN Tryd.prog (.at .sl) (Instr.buildSlice T.t_sl_int 1 #[(0, .int .i64 0)]) w63 fun (x48_11 : Sl) w85 =>
  Chg w4 w85 D4 ∧ (
  RUN Tryd.prog (.at .sl) (Instr.buildSlice T.t_sl_sl_i_End 1 #[(0, .slice none 0 0)]) w85 fun (x34_3 : Sl) w86 =>
  Chg w4 w86 D4 ∧ (
  RUN Tryd.prog (.at .sl) (bsem .append #[T.t_sl_sl_i_End, T.t_sl_sl_i_End] T.t_sl_sl_i_End #[x33.v, x34_3.v]) w86 fun (x35_8 : Sl) w87 =>
  Chg w4 w87 D4 ∧ (
  RUN Tryd.prog (.at .sl) (bsem .append #[T.t_sl_int, T.t_sl_int] T.t_sl_int #[x40.v, x41_6.v]) w87 fun (x42_12 : Sl) w88 =>
  Chg w4 w88 D4 ∧ (
  RUN Tryd.prog (.at .sl) (bsem .append #[T.t_sl_int, T.t_sl_int] T.t_sl_int #[x47.v, x48_11.v]) w88 fun (x49_12 : Sl) w89 =>
  Chg w4 w89 D4 ∧ (
  ST ((x0.add 0).add 0) 0 [x35_8.v] w89 fun w90 =>
  ST ((x0.add 0).add 1) 0 [x42_12.v] w90 fun w91 =>
  ST ((x0.add 0).add 2) 0 [x49_12.v] w91 fun w92 =>
  I4 w92)))))))) ∧ (
  RUN Tryd.prog (.at .sl) (Instr.buildSlice T.t_sl_int 1 #[(0, .int .i64 0)]) w4 fun (x48_12 : Sl) w93 =>
  Chg w4 w93 D4 ∧ (
  (
  RUN Tryd.prog (.at .sl) (Instr.buildSlice T.t_sl_sl_i_End 1 #[(0, .slice none 0 0)]) w93 fun (x34_4 : Sl) w94 =>
  Chg w4 w94 D4 ∧ (
  (
  RUN Tryd.prog (.at .sl) (bsem .append #[T.t_sl_sl_i_End, T.t_sl_sl_i_End] T.t_sl_sl_i_End #[x33.v, x34_4.v]) w94 fun (x35_9 : Sl) w95 =>
  Chg w4 w95 D4 ∧ (
  RUN Tryd.prog (.at .sl) (Instr.buildSlice T.t_sl_int 1 #[(0, .int .i64 0)]) w95 fun (x41_7 : Sl) w96 =>
  Chg w4 w96 D4 ∧ (
  RUN Tryd.prog (.at .sl) (bsem .append #[T.t_sl_int, T.t_sl_int] T.t_sl_int #[x40.v, x41_7.v]) w96 fun (x42_13 : Sl) w97 =>
  Chg w4 w97 D4 ∧ (
  RUN Tryd.prog (.at .sl) (bsem .append #[T.t_sl_int, T.t_sl_int] T.t_sl_int #[x47.v, x48_12.v]) w97 fun (x49_13 : Sl) w98 =>
  Chg w4 w98 D4 ∧ (
  ST ((x0.add 0).add 0) 0 [x35_9.v] w98 fun w99 =>
  ST ((x0.add 0).add 1) 0 [x42_13.v] w99 fun w100 =>
  ST ((x0.add 0).add 2) 0 [x49_13.v] w100 fun w101 =>
  I4 w101))))) ∧ (
  RUN Tryd.prog (.at .sl) (Instr.buildSlice T.t_sl_int 1 #[(0, .int .i64 0)]) w94 fun (x41_8 : Sl) w102 =>
  Chg w4 w102 D4 ∧ (
  RUN Tryd.prog (.at .sl) (bsem .append #[T.t_sl_sl_i_End, T.t_sl_sl_i_End] T.t_sl_sl_i_End #[x33.v, x34_4.v]) w102 fun (x35_10 : Sl) w103 =>
  Chg w4 w103 D4 ∧ (
  RUN Tryd.prog (.at .sl) (bsem .append #[T.t_sl_int, T.t_sl_int] T.t_sl_int #[x40.v, x41_8.v]) w103 fun (x42_14 : Sl) w104 =>
  Chg w4 w104 D4 ∧ (
  RUN Tryd.prog (.at .sl) (bsem .append #[T.t_sl_int, T.t_sl_int] T.t_sl_int #[x47.v, x48_12.v]) w104 fun (x49_14 : Sl) w105 =>
  Chg w4 w105 D4 ∧ (
  ST ((x0.add 0).add 0) 0 [x35_10.v] w105 fun w106 =>
  ST ((x0.add 0).add 1) 0 [x42_14.v] w106 fun w107 =>
  ST ((x0.add 0).add 2) 0 [x49_14.v] w107 fun w108 =>
  I4 w108))))))) ∧ (
  RUN Tryd.prog (.at .sl) (Instr.buildSlice T.t_sl_int 1 #[(0, .int .i64 0)]) w93 fun (x41_9 : Sl) w109 =>
  Chg w4 w109 D4 ∧ (
  RUN Tryd.prog (.at .sl) (Instr.buildSlice T.t_sl_sl_i_End 1 #[(0, .slice none 0 0)]) w109 fun (x34_5 : Sl) w110 =>
  Chg w4 w110 D4 ∧ (
  RUN Tryd.prog (.at .sl) (bsem .append #[T.t_sl_sl_i_End, T.t_sl_sl_i_End] T.t_sl_sl_i_End #[x33.v, x34_5.v]) w110 fun (x35_11 : Sl) w111 =>
  Chg w4 w111 D4 ∧ (
  RUN Tryd.prog (.at .sl) (bsem .append #[T.t_sl_int, T.t_sl_int] T.t_sl_int #[x40.v, x41_9.v]) w111 fun (x42_15 : Sl) w112 =>
  Chg w4 w112 D4 ∧ (
  RUN Tryd.prog (.at .sl) (bsem .append #[T.t_sl_int, T.t_sl_int] T.t_sl_int #[x47.v, x48_12.v]) w112 fun (x49_15 : Sl) w113 =>
  Chg w4 w113 D4 ∧ (
  ST ((x0.add 0).add 0) 0 [x35_11.v] w113 fun w114 =>
  ST ((x0.add 0).add 1) 0 [x42_15.v] w114 fun w115 =>
  ST ((x0.add 0).add 2) 0 [x49_15.v] w115 fun w116 =>
  I4 w116)))))))))))) ∧ ∀ w117, I4 w117 → ∀ _ _ _ _ _ _ _ _ _ _ _ _ _ _ _ _ _ _ _ _ _ _ _ _ _ _ _ _ _ _ _ _ _ : Value,
  ∃ (I5 : World → Prop), (
  ∀ w118, Ext w117 w118 → w118.heap = w117.heap → ∃ (D118 : Nat → Prop),
  ¬ D118 (x0.add 4).block ∧ (
  LD [.sl] (x0.add 4) w118 fun (x64 : Sl) =>
  ¬ D118 (px3.add 1).block ∧ (
  LD [.int .i64] (px3.add 1) w118 fun (x66 : Int) =>
  ¬ D118 (x0.add 5).block ∧ (
  LD [.sl] (x0.add 5) w118 fun (x72 : Sl) =>
  (
  RUN Tryd.prog (.at .sl) (Instr.buildSlice T.t_sl_int 1 #[(0, .int .i64 x66)]) w118 fun (x67 : Sl) w119 =>
  Chg w118 w119 D118 ∧ (
  (
  RUN Tryd.prog (.at .sl) (bsem .append #[T.t_sl_int, T.t_sl_int] T.t_sl_int #[x64.v, x67.v]) w119 fun (x68 : Sl) w120 =>
  Chg w118 w120 D118 ∧ (
  RUN Tryd.prog (.at .sl) (Instr.buildSlice T.t_sl_sl_int 1 #[(0, .slice none 0 0)]) w120 fun (x73 : Sl) w121 =>
  Chg w118 w121 D118 ∧ (
  RUN Tryd.prog (.at .sl) (bsem .append #[T.t_sl_sl_int, T.t_sl_sl_int] T.t_sl_sl_int #[x72.v, x73.v]) w121 fun (x74 : Sl) w122 =>
  Chg w118 w122 D118 ∧ (
  ST (x0.add 4) 0 [x68.v] w122 fun w123 =>
  ST (x0.add 5) 0 [x74.v] w123 fun w124 =>
  I5 w124)))) ∧ (
  RUN Tryd.prog (.at .sl) (Instr.buildSlice T.t_sl_sl_int 1 #[(0, .slice none 0 0)]) w119 fun (x73_2 : Sl) w125 =>
  Chg w118 w125 D118 ∧ (
  RUN Tryd.prog (.at .sl) (bsem .append #[T.t_sl_int, T.t_sl_int] T.t_sl_int #[x64.v, x67.v]) w125 fun (x68_2 : Sl) w126 =>
  Chg w118 w126 D118 ∧ (
  RUN Tryd.prog (.at .sl) (bsem .append #[T.t_sl_sl_int, T.t_sl_sl_int] T.t_sl_sl_int #[x72.v, x73_2.v]) w126 fun (x74_2 : Sl) w127 =>
  Chg w118 w127 D118 ∧ (
  ST (x0.add 4) 0 [x68_2.v] w127 fun w128 =>
  ST (x0.add 5) 0 [x74_2.v] w128 fun w129 =>
  I5 w129)))))) ∧ (
  RUN Tryd.prog (.at .sl) (Instr.buildSlice T.t_sl_sl_int 1 #[(0, .slice none 0 0)]) w118 fun (x73_3 : Sl) w130 =>
  Chg w118 w130 D118 ∧ (
  RUN Tryd.prog (.at .sl) (Instr.buildSlice T.t_sl_int 1 #[(0, .int .i64 x66)]) w130 fun (x67_2 : Sl) w131 =>
  Chg w118 w131 D118 ∧ (
  RUN Tryd.prog (.at .sl) (bsem .append #[T.t_sl_int, T.t_sl_int] T.t_sl_int #[x64.v, x67_2.v]) w131 fun (x68_3 : Sl) w132 =>
  Chg w118 w132 D118 ∧ (
  RUN Tryd.prog (.at .sl) (bsem .append #[T.t_sl_sl_int, T.t_sl_sl_int] T.t_sl_sl_int #[x72.v, x73_3.v]) w132 fun (x74_3 : Sl) w133 =>
  Chg w118 w133 D118 ∧ (
  ST (x0.add 4) 0 [x68_3.v] w133 fun w134 =>
  ST (x0.add 5) 0 [x74_3.v] w134 fun w135 =>
  I5 w135))))))))) ∧ ∀ w136, I5 w136 → ∀ _ _ _ _ _ _ _ _ _ _ _ _ _ _ _ _ _ _ _ _ : Value,
  LD [.str] (px3.add 0) w136 fun (x80 : ByteArray) =>
  LD [.int .i64] (px3.add 1) w136 fun (x82 : Int) =>
  Calls Tryd.prog F.i_wordsOf #[.string x80, .int .i64 x82] w136 (Ret [.at .sl] fun (x83 : Sl) w137 =>
  cond (decide ((x83.len : Int) > 0)) (
  IX x83 0 2 fun (px89 : Addr) =>
  LD [.str] (px89.add 0) w137 fun (x91 : ByteArray) =>
  Calls Tryd.prog F.i_marked #[.string x91, .string (ByteArray.mk #[35]), .int .i64 1, .int .i64 999999] w137 (Ret [.at (.int .i64), .at .bool] fun (x92_0 : Int) (x92_1 : Bool) w138 =>
  cond x92_1 (
  ∀ w139, Ext w138 w139 → w139.heap = w138.heap → ∃ (D139 : Nat → Prop),
  ¬ D139 ((x0.add 0).add 1).block ∧ (
  LD [.sl] ((x0.add 0).add 1) w139 fun (x100 : Sl) =>
  ¬ D139 (x0.add 4).block ∧ (
  LD [.sl] (x0.add 4) w139 fun (x105 : Sl) =>
  Chg w139 w139 D139 ∧ (
  IX x83 0 2 fun (px110 : Addr) =>
  Chg w139 w139 D139 ∧ (
  Chg w139 w139 D139 ∧ (
  LD [.int .i64] (px110.add 1) w139 fun (x112 : Int) =>
  Chg w139 w139 D139 ∧ (
  IX x100 x19.len 1 fun (px113 : Addr) =>
  Chg w139 w139 D139 ∧ (
  ST px113 0 [.int .i64 x92_0] w139 fun w140 =>
  Chg w139 w140 D139 ∧ (
  IX x105 x19.len 1 fun (px114 : Addr) =>
  Chg w139 w140 D139 ∧ (
  ST px114 0 [.int .i64 x112] w140 fun w141 =>
  Chg w139 w141 D139 ∧ (
  ST (x0.add 6) 0 [.bool true] w141 fun w142 =>
  SLC x83 (some 1) none 2 fun (x118 : Sl) =>
  V_ptr_i_networkReader_line_k2 x0 Q px4 x19 x118 w142))))))))))) (
  V_ptr_i_networkReader_line_k2 x0 Q px4 x19 x83 w138))) (
  V_ptr_i_networkReader_line_k2 x0 Q px4 x19 x83 w137)))

theorem C_ptr_i_networkReader_line {Q : Int → Int → World → Prop} {x0 : Addr} {x1_0 : ByteArray} {x1_1 : Int} {w : World} (h : V_ptr_i_networkReader_line Q x0 x1_0 x1_1 w) : Calls Tryd.prog F.ptr_i_networkReader_line #[.pointer (some x0), .agg #[.string x1_0, .int .i64 x1_1]] w (Ret [.agg [.int .i64, .int .i64]] Q) :=
  mkC (hint := hint) (ann := annOf [(1100004, ⟨[], [1]⟩), (900004, ⟨[], [26, 27, 28, 29, 30, 31, 32, 33, 34, 35, 36, 37, 38, 39, 40, 41, 42, 43, 44, 45, 46, 47, 48, 49, 50, 51, 52, 53, 54, 55, 56, 57, 58]⟩), (1100005, ⟨[], [1]⟩), (900005, ⟨[], [59, 60, 61, 62, 63, 64, 65, 66, 67, 68, 69, 70, 71, 72, 73, 74, 75, 76, 77, 78]⟩), (18, ⟨[(143, .int .i64)], [12, 13, 14, 144, 145, 146, 147, 148, 149, 150, 151, 152, 153, 154, 155, 156, 157, 158, 159, 160, 161, 162, 163, 164, 165, 166, 167, 168, 169, 170, 171, 172, 173, 174, 175, 176, 177, 178, 179, 180, 181, 182, 183, 184, 185, 186, 187, 188, 189, 190, 191, 192, 193, 194, 195, 196, 197, 198, 199, 200, 201, 202, 203, 204, 205, 206]⟩)]) (args := [.pointer (some x0), .agg #[.string x1_0, .int .i64 x1_1]]) (rs := [.agg [.int .i64, .int .i64]]) Tryd.func34 (by kernel_rfl) (by kernel_rfl) h

def V_ptr_i_networkReader_checkEnds (Q : Int → Int → World → Prop) (x0 : Addr) (w : World) : Prop :=
  NEW T.t_i_fault #[.int .i64 0, .int .i64 0] w fun (px2 : Addr) w1 =>
  LD [.sl] ((x0.add 0).add 0) w1 fun (x11 : Sl) =>
  ∃ (I2 : Int → World → Prop) (m2 : Int → World → Nat), I2 0 w1 ∧ ∀ (x13 : Int) w2, I2 x13 w2 → ∀ _ _ _ _ _ _ _ _ _ _ _ _ _ _ _ _ _ _ _ _ _ _ _ _ _ _ _ _ _ _ _ _ _ _ _ _ _ _ _ _ _ _ _ _ _ _ _ _ _ _ _ _ _ _ _ _ _ : Value,
  cond (decide ((x13 : Int) < x11.len)) (
  IX x11 x13 1 fun (px16 : Addr) =>
  LD [.sl] px16 w2 fun (x17 : Sl) =>
  ∃ (I5 : Int → World → Prop) (m5 : Int → World → Nat), I5 0 w2 ∧ ∀ (x20 : Int) w3, I5 x20 w3 → ∀ _ _ _ _ _ _ _ _ _ _ _ _ _ _ _ _ _ _ _ _ _ _ _ _ _ _ _ _ _ _ _ _ _ _ _ _ _ _ _ _ _ _ _ _ _ _ _ : Value,
  cond (decide ((x20 : Int) < x17.len)) (
  IX x17 x20 2 fun (px23 : Addr) =>
  LD [.int .i64, .int .i64] px23 w3 fun (x24_0 : Int) (x24_1 : Int) =>
  NEW T.t_i_End #[.int .i64 0, .int .i64 0] w3 fun (px6 : Addr) w4 =>
  ST px6 0 [.int .i64 x24_0, .int .i64 x24_1] w4 fun w5 =>
  LD [.sl, .sl, .sl] (x0.add 0) w5 fun (x28_0 : Sl) (x28_1 : Sl) (x28_2 : Sl) =>
  LD [.int .i64] (px6.add 0) w5 fun (x30 : Int) =>
  LD [.int .i64] (px6.add 1) w5 fun (x32 : Int) =>
  QCALL Tryd.prog F.i_Network_hasPort #[.agg #[x28_0.v, x28_1.v, x28_2.v], .int .i64 x30, .int .i64 x32] w5 [.at .bool] fun (x33 : Bool) =>
  cond (!x33) (
  ∀ w6, Ext w5 w6 →
  LD [.sl] (x0.add 5) w6 fun (x57 : Sl) =>
  IX x57 x13 1 fun (px59 : Addr) =>
  LD [.sl] px59 w6 fun (x60 : Sl) =>
  IX x60 x20 1 fun (px62 : Addr) =>
  LD [.int .i64] px62 w6 fun (x63 : Int) =>
  ST px2 0 [.int .i64 x63, .int .i64 4] w6 fun w8 =>
  LD [.int .i64, .int .i64] px2 w8 fun (r0_0 : Int) (r0_1 : Int) =>
  Q r0_0 r0_1 w8) (
  LD [.sl] ((x0.add 0).add 0) w5 fun (x40 : Sl) =>
  LD [.int .i64] (px6.add 0) w5 fun (x42 : Int) =>
  IX x40 x42 1 fun (px43 : Addr) =>
  LD [.sl] px43 w5 fun (x44 : Sl) =>
  LD [.int .i64] (px6.add 1) w5 fun (x46 : Int) =>
  IX x44 x46 2 fun (px47 : Addr) =>
  LD [.int .i64, .int .i64] px47 w5 fun (x48_0 : Int) (x48_1 : Int) =>
  AEQ Tryd.prog (do eqGuard .neq T.t_i_End (.tmp 48) (.tmp 51) (.agg #[.int .i64 x48_0, .int .i64 x48_1]) (.agg #[.int .i64 x13, .int .i64 x20]); binOp .neq T.t_i_End (.agg #[.int .i64 x48_0, .int .i64 x48_1]) (.agg #[.int .i64 x13, .int .i64 x20])) fun (x52 : Bool) =>
  ∀ w7, Ext w5 w7 →
  cond x52 (
  LD [.sl] (x0.add 5) w7 fun (x57_2 : Sl) =>
  IX x57_2 x13 1 fun (px59_2 : Addr) =>
  LD [.sl] px59_2 w7 fun (x60_2 : Sl) =>
  IX x60_2 x20 1 fun (px62_2 : Addr) =>
  LD [.int .i64] px62_2 w7 fun (x63_2 : Int) =>
  ST px2 0 [.int .i64 x63_2, .int .i64 4] w7 fun w9 =>
  LD [.int .i64, .int .i64] px2 w9 fun (r0_0_2 : Int) (r0_1_2 : Int) =>
  Q r0_0_2 r0_1_2 w9) (
  I5 (IntKind.i64.wrap (x20 + 1)) w7 ∧ m5 (IntKind.i64.wrap (x20 + 1)) w7 < m5 x20 w3))) (
  I2 (IntKind.i64.wrap (x13 + 1)) w3 ∧ m2 (IntKind.i64.wrap (x13 + 1)) w3 < m2 x13 w2)) (
  ST px2 0 [.int .i64 0, .int .i64 0] w2 fun w10 =>
  LD [.int .i64, .int .i64] px2 w10 fun (r0_0_3 : Int) (r0_1_3 : Int) =>
  Q r0_0_3 r0_1_3 w10)

theorem C_ptr_i_networkReader_checkEnds {Q : Int → Int → World → Prop} {x0 : Addr} {w : World} (h : V_ptr_i_networkReader_checkEnds Q x0 w) : Calls Tryd.prog F.ptr_i_networkReader_checkEnds #[.pointer (some x0)] w (Ret [.agg [.int .i64, .int .i64]] Q) :=
  mkC (hint := hint) (ann := annOf [(2, ⟨[(13, .int .i64)], [3, 4, 5, 6, 14, 15, 16, 17, 18, 19, 20, 21, 22, 23, 24, 25, 26, 27, 28, 29, 30, 31, 32, 33, 34, 35, 36, 37, 38, 39, 40, 41, 42, 43, 44, 45, 46, 47, 48, 49, 50, 51, 52, 53, 54, 55, 56, 57, 58, 59, 60, 61, 62, 63, 64, 65, 66]⟩), (5, ⟨[(20, .int .i64)], [5, 6, 21, 22, 23, 24, 25, 26, 27, 28, 29, 30, 31, 32, 33, 34, 35, 36, 37, 38, 39, 40, 41, 42, 43, 44, 45, 46, 47, 48, 49, 50, 51, 52, 53, 54, 55, 56, 57, 58, 59, 60, 61, 62, 63, 64, 65]⟩)]) (args := [.pointer (some x0)]) (rs := [.agg [.int .i64, .int .i64]]) Tryd.func35 (by kernel_rfl) (by kernel_rfl) h

def V_ptr_i_networkReader_checkIds (Q : Int → Int → World → Prop) (r : Addr) (w : World) : Prop :=
  NEW T.t_i_fault #[.int .i64 0, .int .i64 0] w fun (px2 : Addr) w1 =>
  LD [.bool] (r.add 6) w1 fun (x8 : Bool) =>
  cond (!x8) (
  ST ((r.add 0).add 1) 0 [.slice none 0 0] w1 fun w2 =>
  ST px2 0 [.int .i64 0, .int .i64 0] w2 fun w3 =>
  LD [.int .i64, .int .i64] px2 w3 fun (r0_0 : Int) (r0_1 : Int) =>
  Q r0_0 r0_1 w3) (
  LD [.sl] ((r.add 0).add 1) w1 fun (x19 : Sl) =>
  ∃ (I5 : Int → World → Prop) (m5 : Int → World → Nat), I5 0 w1 ∧ ∀ (x21 : Int) w4, I5 x21 w4 → ∀ _ _ _ _ _ _ _ _ _ _ _ _ _ _ _ _ _ _ _ _ _ _ _ _ _ _ _ _ _ _ _ _ _ _ _ : Value,
  cond (decide ((x21 : Int) < x19.len)) (
  IX x19 x21 1 fun (px24 : Addr) =>
  LD [.int .i64] px24 w4 fun (x25 : Int) =>
  cond ((x25 : Int) == 0) (
  LD [.sl] (r.add 3) w4 fun (x31 : Sl) =>
  IX x31 x21 2 fun (px33 : Addr) =>
  LD [.int .i64] (px33.add 1) w4 fun (x35 : Int) =>
  ST px2 0 [.int .i64 x35, .int .i64 5] w4 fun w5 =>
  LD [.int .i64, .int .i64] px2 w5 fun (r0_0_2 : Int) (r0_1_2 : Int) =>
  Q r0_0_2 r0_1_2 w5) (
  LD [.sl] ((r.add 0).add 1) w4 fun (x41 : Sl) =>
  SLC x41 none (some x21) 1 fun (x43 : Sl) =>
  Calls Tryd.prog F.slices_Contains_sl_int_int #[x43.v, .int .i64 x25] w4 (Ret [.at .bool] fun (x45 : Bool) w6 =>
  cond x45 (
  LD [.sl] (r.add 4) w6 fun (x49 : Sl) =>
  IX x49 x21 1 fun (px51 : Addr) =>
  LD [.int .i64] px51 w6 fun (x52 : Int) =>
  ST px2 0 [.int .i64 x52, .int .i64 5] w6 fun w7 =>
  LD [.int .i64, .int .i64] px2 w7 fun (r0_0_3 : Int) (r0_1_3 : Int) =>
  Q r0_0_3 r0_1_3 w7) (
  I5 (IntKind.i64.wrap (x21 + 1)) w6 ∧ m5 (IntKind.i64.wrap (x21 + 1)) w6 < m5 x21 w4)))) (
  ST px2 0 [.int .i64 0, .int .i64 0] w4 fun w8 =>
  LD [.int .i64, .int .i64] px2 w8 fun (r0_0_4 : Int) (r0_1_4 : Int) =>
  Q r0_0_4 r0_1_4 w8))

theorem C_ptr_i_networkReader_checkIds {Q : Int → Int → World → Prop} {r : Addr} {w : World} (h : V_ptr_i_networkReader_checkIds Q r w) : Calls Tryd.prog F.ptr_i_networkReader_checkIds #[.pointer (some r)] w (Ret [.agg [.int .i64, .int .i64]] Q) :=
  mkC (hint := hint) (ann := annOf [(5, ⟨[(21, .int .i64)], [3, 4, 22, 23, 24, 25, 26, 27, 28, 29, 30, 31, 32, 33, 34, 35, 36, 37, 38, 39, 40, 41, 42, 43, 44, 45, 46, 47, 48, 49, 50, 51, 52, 53, 54]⟩)]) (args := [.pointer (some r)]) (rs := [.agg [.int .i64, .int .i64]]) Tryd.func36 (by kernel_rfl) (by kernel_rfl) h

def V_i_within (Q : Bool → World → Prop) (n : Int) (low : Int) (high : Int) (w : World) : Prop :=
  cond (decide ((low : Int) ≤ n)) (
  Q (decide ((n : Int) ≤ high)) w) (
  Q false w)

theorem C_i_within {Q : Bool → World → Prop} {n : Int} {low : Int} {high : Int} {w : World} (h : V_i_within Q n low high w) : Calls Tryd.prog F.i_within #[.int .i64 n, .int .i64 low, .int .i64 high] w (Ret [.at .bool] Q) :=
  mkC (hint := hint) (ann := annOf []) (args := [.int .i64 n, .int .i64 low, .int .i64 high]) (rs := [.at .bool]) Tryd.func41 (by kernel_rfl) (by kernel_rfl) h

def V_ptr_s_txRead_word_k5 (x1 : ByteArray) (x2 : Int) (x0 : Addr) (Q : Bool → World → Prop) (x17 : Sl) (x10 : Int) (x64 : Bool) (w11 : World) : Prop :=
  cond x64 (
  LD [.sl] ((x0.add 0).add 2) w11 fun (x98 : Sl) =>
  IX x98 (IntKind.i64.wrap (x17.len - 1)) 1 fun (px101 : Addr) =>
  ST px101 0 [.int .i64 x10] w11 fun w12 =>
  Q true w12) (
  Calls Tryd.prog F.s_txPort #[.string x1] w11 (Ret [.agg [.int .i64, .int .i64], .at .bool] fun (x104_0_0 : Int) (x104_0_1 : Int) (x104_1 : Bool) w13 =>
  NEW T.t_i_End #[.int .i64 0, .int .i64 0] w13 fun (px12 : Addr) w14 =>
  ST px12 0 [.int .i64 x104_0_0, .int .i64 x104_0_1] w14 fun w15 =>
  cond (!x104_1) (
  Calls Tryd.prog F.ptr_s_txRead_fail #[.pointer (some x0), .int .i64 2, .int .i64 x2] w15 (Ret [.at .bool] fun (x111 : Bool) w16 =>
  Q x111 w16)) (
  LD [.sl] (x0.add 4) w15 fun (x115 : Sl) =>
  IX x115 (IntKind.i64.wrap (x17.len - 1)) 1 fun (px117 : Addr) =>
  LD [.sl] px117 w15 fun (x118 : Sl) =>
  cond (decide ((x118.len : Int) ≥ 6)) (
  Calls Tryd.prog F.ptr_s_txRead_fail #[.pointer (some x0), .int .i64 3, .int .i64 x2] w15 (Ret [.at .bool] fun (x123 : Bool) w17 =>
  Q x123 w17)) (
  ∀ w18, Ext w15 w18 → w18.heap = w15.heap → ∃ (D18 : Nat → Prop),
  ¬ D18 ((x0.add 0).add 0).block ∧ (
  LD [.sl] ((x0.add 0).add 0) w18 fun (x128 : Sl) =>
  ¬ D18 ((x0.add 0).add 0).block ∧ (
  LD [.sl] ((x0.add 0).add 0) w18 fun (x134 : Sl) =>
  IX x134 (IntKind.i64.wrap (x17.len - 1)) 1 fun (px136 : Addr) =>
  ¬ D18 px136.block ∧ (
  LD [.sl] px136 w18 fun (x137 : Sl) =>
  LD [.int .i64, .int .i64] px12 w18 fun (x138_0 : Int) (x138_1 : Int) =>
  Chg w18 w18 D18 ∧ (
  RUN Tryd.prog (.at .sl) (Instr.buildSlice T.t_sl_i_End 1 #[(0, .agg #[.int .i64 x138_0, .int .i64 x138_1])]) w18 fun (x139 : Sl) w19 =>
  Chg w18 w19 D18 ∧ (
  RUN Tryd.prog (.at .sl) (bsem .append #[T.t_sl_i_End, T.t_sl_i_End] T.t_sl_i_End #[x137.v, x139.v]) w19 fun (x140 : Sl) w20 =>
  Chg w18 w20 D18 ∧ (
  IX x128 (IntKind.i64.wrap (x17.len - 1)) 1 fun (px141 : Addr) =>
  ST px141 0 [x140.v] w20 fun w21 =>
  ∀ w22, Ext w21 w22 → w22.heap = w21.heap → ∃ (D22 : Nat → Prop),
  ¬ D22 (x0.add 4).block ∧ (
  LD [.sl] (x0.add 4) w22 fun (x145 : Sl) =>
  ¬ D22 (x0.add 4).block ∧ (
  LD [.sl] (x0.add 4) w22 fun (x150 : Sl) =>
  IX x150 (IntKind.i64.wrap (x17.len - 1)) 1 fun (px152 : Addr) =>
  ¬ D22 px152.block ∧ (
  LD [.sl] px152 w22 fun (x153 : Sl) =>
  Chg w22 w22 D22 ∧ (
  RUN Tryd.prog (.at .sl) (Instr.buildSlice T.t_sl_int 1 #[(0, .int .i64 x2)]) w22 fun (x155 : Sl) w23 =>
  Chg w22 w23 D22 ∧ (
  RUN Tryd.prog (.at .sl) (bsem .append #[T.t_sl_int, T.t_sl_int] T.t_sl_int #[x153.v, x155.v]) w23 fun (x156 : Sl) w24 =>
  Chg w22 w24 D22 ∧ (
  IX x145 (IntKind.i64.wrap (x17.len - 1)) 1 fun (px157 : Addr) =>
  ST px157 0 [x156.v] w24 fun w25 =>
  Q true w25))))))))))))))))

def V_ptr_s_txRead_word_k4 (x2 : Int) (x0 : Addr) (x1 : ByteArray) (x3 : Int) (Q : Bool → World → Prop) (x17 : Sl) (x10 : Int) (x41 : Sl) (x44 : Bool) (w7 : World) : Prop :=
  cond x44 (
  LD [.sl] ((x0.add 0).add 1) w7 fun (x60 : Sl) =>
  IX x60 (IntKind.i64.wrap (x17.len - 1)) 1 fun (px63 : Addr) =>
  ST px63 0 [.int .i64 x10] w7 fun w8 =>
  Q true w8) (
  SIX x1 0 fun (x66 : Int) =>
  cond ((x66 : Int) == 47) (
  cond ((x41.len : Int) == 0) (
  cond ((x3 : Int) == 0) (
  Calls Tryd.prog F.s_l1In #[.int .i64 x10, .int .i64 0, .int .i64 9] w7 (Ret [.at .bool] fun (x92 : Bool) w9 =>
  V_ptr_s_txRead_word_k5 x1 x2 x0 Q x17 x10 x92 w9)) (
  cond ((x3 : Int) == 1) (
  LD [.sl] ((x0.add 0).add 1) w7 fun (x82 : Sl) =>
  IX x82 (IntKind.i64.wrap (x17.len - 1)) 1 fun (px84 : Addr) =>
  LD [.int .i64] px84 w7 fun (x85 : Int) =>
  cond (decide ((x85 : Int) > 0)) (
  Calls Tryd.prog F.s_l1In #[.int .i64 x10, .int .i64 0, .int .i64 9] w7 (Ret [.at .bool] fun (x92_2 : Bool) w10 =>
  V_ptr_s_txRead_word_k5 x1 x2 x0 Q x17 x10 x92_2 w10)) (
  V_ptr_s_txRead_word_k5 x1 x2 x0 Q x17 x10 false w7)) (
  V_ptr_s_txRead_word_k5 x1 x2 x0 Q x17 x10 false w7))) (
  V_ptr_s_txRead_word_k5 x1 x2 x0 Q x17 x10 false w7)) (
  V_ptr_s_txRead_word_k5 x1 x2 x0 Q x17 x10 false w7))

def V_ptr_s_txRead_word_k2 (x0 : Addr) (x1 : ByteArray) (x2 : Int) (x3 : Int) (Q : Bool → World → Prop) (x17 : Sl) (x10 : Int) (w5 : World) : Prop :=
  LD [.sl] (x0.add 4) w5 fun (x38 : Sl) =>
  IX x38 (IntKind.i64.wrap (x17.len - 1)) 1 fun (px40 : Addr) =>
  LD [.sl] px40 w5 fun (x41 : Sl) =>
  SIX x1 0 fun (x46 : Int) =>
  cond ((x46 : Int) == 35) (
  cond ((x3 : Int) == 0) (
  Calls Tryd.prog F.s_l1In #[.int .i64 x10, .int .i64 1, .int .i64 999999] w5 (Ret [.at .bool] fun (x54 : Bool) w6 =>
  V_ptr_s_txRead_word_k4 x2 x0 x1 x3 Q x17 x10 x41 x54 w6)) (
  V_ptr_s_txRead_word_k4 x2 x0 x1 x3 Q x17 x10 x41 false w5)) (
  V_ptr_s_txRead_word_k4 x2 x0 x1 x3 Q x17 x10 x41 false w5)

def V_ptr_s_txRead_word_k1 (x0 : Addr) (x1 : ByteArray) (x2 : Int) (x3 : Int) (Q : Bool → World → Prop) (x17 : Sl) (w2 : World) : Prop :=
  cond (decide ((x1.size : Int) > 1)) (
  RUN Tryd.prog (.at .str) (Instr.sliceAt T.t_string (.string x1) (some (.int .i64 1)) none none) w2 fun (x33 : ByteArray) w3 =>
  Calls Tryd.prog F.s_l1Read #[.string x33] w3 (Ret [.at (.int .i64)] fun (x34 : Int) w4 =>
  V_ptr_s_txRead_word_k2 x0 x1 x2 x3 Q x17 x34 w4)) (
  V_ptr_s_txRead_word_k2 x0 x1 x2 x3 Q x17 (-1) w2)

def V_ptr_s_txRead_word (Q : Bool → World → Prop) (x0 : Addr) (x1 : ByteArray) (x2 : Int) (x3 : Int) (w : World) : Prop :=
  LD [.sl] (x0.add 3) w fun (x17 : Sl) =>
  cond ((x3 : Int) == 0) (
  LD [.sl] (x0.add 5) w fun (x25 : Sl) =>
  IX x25 (IntKind.i64.wrap (x17.len - 1)) 1 fun (px28 : Addr) =>
  ST px28 0 [.int .i64 x2] w fun w1 =>
  V_ptr_s_txRead_word_k1 x0 x1 x2 x3 Q x17 w1) (
  V_ptr_s_txRead_word_k1 x0 x1 x2 x3 Q x17 w)

theorem C_ptr_s_txRead_word {Q : Bool → World → Prop} {x0 : Addr} {x1 : ByteArray} {x2 : Int} {x3 : Int} {w : World} (h : V_ptr_s_txRead_word Q x0 x1 x2 x3 w) : Calls Tryd.prog F.ptr_s_txRead_word #[.pointer (some x0), .string x1, .int .i64 x2, .int .i64 x3] w (Ret [.at .bool] Q) :=
  mkC (hint := hint) (ann := annOf []) (args := [.pointer (some x0), .string x1, .int .i64 x2, .int .i64 x3]) (rs := [.at .bool]) Tryd.func44 (by kernel_rfl) (by kernel_rfl) h

def V_s_l1All (Q : Bool → World → Prop) (l : Sl) (lo : Int) (hi : Int) (w : World) : Prop :=
  ∃ (I2 : Int → World → Prop) (m2 : Int → World → Nat), I2 0 w ∧ ∀ (x11 : Int) w1, I2 x11 w1 → ∀ _ _ _ _ _ _ _ _ _ _ _ : Value,
  cond (decide ((x11 : Int) < l.len)) (
  IX l x11 1 fun (px13 : Addr) =>
  LD [.int .i64] px13 w1 fun (x14 : Int) =>
  Calls Tryd.prog F.s_l1In #[.int .i64 x14, .int .i64 lo, .int .i64 hi] w1 (Ret [.at .bool] fun (x18 : Bool) w2 =>
  cond (!x18) (
  Q false w2) (
  I2 (IntKind.i64.wrap (x11 + 1)) w2 ∧ m2 (IntKind.i64.wrap (x11 + 1)) w2 < m2 x11 w1))) (
  Q true w1)

theorem C_s_l1All {Q : Bool → World → Prop} {l : Sl} {lo : Int} {hi : Int} {w : World} (h : V_s_l1All Q l lo hi w) : Calls Tryd.prog F.s_l1All #[l.v, .int .i64 lo, .int .i64 hi] w (Ret [.at .bool] Q) :=
  mkC (hint := hint) (ann := annOf [(2, ⟨[(11, .int .i64)], [6, 8, 12, 13, 14, 15, 16, 17, 18, 19, 20]⟩)]) (args := [l.v, .int .i64 lo, .int .i64 hi]) (rs := [.at .bool]) Tryd.func45 (by kernel_rfl) (by kernel_rfl) h

def V_s_l1Has (Q : Bool → World → Prop) (l : Sl) (n : Int) (w : World) : Prop :=
  ∃ (I2 : Int → World → Prop) (m2 : Int → World → Nat), I2 0 w ∧ ∀ (x9 : Int) w1, I2 x9 w1 → ∀ _ _ _ _ _ _ _ _ _ : Value,
  cond (decide ((x9 : Int) < l.len)) (
  IX l x9 1 fun (px11 : Addr) =>
  LD [.int .i64] px11 w1 fun (x12 : Int) =>
  cond ((x12 : Int) == n) (
  Q true w1) (
  I2 (IntKind.i64.wrap (x9 + 1)) w1 ∧ m2 (IntKind.i64.wrap (x9 + 1)) w1 < m2 x9 w1)) (
  Q false w1)

theorem C_s_l1Has {Q : Bool → World → Prop} {l : Sl} {n : Int} {w : World} (h : V_s_l1Has Q l n w) : Calls Tryd.prog F.s_l1Has #[l.v, .int .i64 n] w (Ret [.at .bool] Q) :=
  mkC (hint := hint) (ann := annOf [(2, ⟨[(9, .int .i64)], [4, 6, 10, 11, 12, 13, 14, 15, 16]⟩)]) (args := [l.v, .int .i64 n]) (rs := [.at .bool]) Tryd.func46 (by kernel_rfl) (by kernel_rfl) h

def V_i_wordsOf (Q : Sl → World → Prop) (line : ByteArray) (at1 : Int) (w : World) : Prop :=
  ∃ (I3 : Sl → Int → World → Prop) (m3 : Sl → Int → World → Nat), I3 (⟨none, 0, 0⟩) 0 w ∧ ∀ (out : Sl) (i : Int) w1, I3 out i w1 → ∀ _ _ _ _ _ _ _ _ _ _ _ _ _ _ _ _ _ _ _ _ _ _ _ _ _ _ _ _ _ _ _ _ _ _ _ _ _ : Value,
  cond (decide ((i : Int) < line.size)) (
  SIX line i fun (x14 : Int) =>
  cond ((x14 : Int) == 32) (
  I3 out (IntKind.i64.wrap (i + 1)) w1 ∧ m3 out (IntKind.i64.wrap (i + 1)) w1 < m3 out i w1) (
  RUN Tryd.prog (.at .str) (Instr.sliceAt T.t_string (.string line) (some (.int .i64 i)) none none) w1 fun (x20 : ByteArray) w2 =>
  Calls Tryd.prog F.strings_IndexByte #[.string x20, .int .u8 32] w2 (Ret [.at (.int .i64)] fun (x21 : Int) w3 =>
  cond (decide ((x21 : Int) < 0)) (
  RUN Tryd.prog (.at .str) (Instr.sliceAt T.t_string (.string line) (some (.int .i64 i)) (some (.int .i64 (IntKind.i64.wrap (i + (IntKind.i64.wrap (line.size - i)))))) none) w3 fun (x34 : ByteArray) w4 =>
  RUN Tryd.prog (.at .sl) (Instr.buildSlice T.t_sl_i_textWord 1 #[(0, .agg #[.string x34, .int .i64 (IntKind.i64.wrap (at1 + i))])]) w4 fun (x39 : Sl) w5 =>
  RUN Tryd.prog (.at .sl) (bsem .append #[T.t_sl_i_textWord, T.t_sl_i_textWord] T.t_sl_i_textWord #[out.v, x39.v]) w5 fun (x40 : Sl) w6 =>
  I3 x40 (IntKind.i64.wrap (i + (IntKind.i64.wrap (line.size - i)))) w6 ∧ m3 x40 (IntKind.i64.wrap (i + (IntKind.i64.wrap (line.size - i)))) w6 < m3 out i w1) (
  RUN Tryd.prog (.at .str) (Instr.sliceAt T.t_string (.string line) (some (.int .i64 i)) (some (.int .i64 (IntKind.i64.wrap (i + x21)))) none) w3 fun (x34_2 : ByteArray) w7 =>
  RUN Tryd.prog (.at .sl) (Instr.buildSlice T.t_sl_i_textWord 1 #[(0, .agg #[.string x34_2, .int .i64 (IntKind.i64.wrap (at1 + i))])]) w7 fun (x39_2 : Sl) w8 =>
  RUN Tryd.prog (.at .sl) (bsem .append #[T.t_sl_i_textWord, T.t_sl_i_textWord] T.t_sl_i_textWord #[out.v, x39_2.v]) w8 fun (x40_2 : Sl) w9 =>
  I3 x40_2 (IntKind.i64.wrap (i + x21)) w9 ∧ m3 x40_2 (IntKind.i64.wrap (i + x21)) w9 < m3 out i w1)))) (
  Q out w1)

theorem C_i_wordsOf {Q : Sl → World → Prop} {line : ByteArray} {at1 : Int} {w : World} (h : V_i_wordsOf Q line at1 w) : Calls Tryd.prog F.i_wordsOf #[.string line, .int .i64 at1] w (Ret [.at .sl] Q) :=
  mkC (hint := hint) (ann := annOf [(3, ⟨[(5, .sl), (6, .int .i64)], [7, 8, 9, 10, 11, 12, 13, 14, 15, 16, 17, 18, 19, 20, 21, 22, 23, 24, 25, 26, 27, 28, 29, 30, 31, 32, 33, 34, 35, 36, 37, 38, 39, 40, 41, 42, 43]⟩)]) (args := [.string line, .int .i64 at1]) (rs := [.at .sl]) Tryd.func48 (by kernel_rfl) (by kernel_rfl) h

def V_i_marked (Q : Int → Bool → World → Prop) (word : ByteArray) (mark : ByteArray) (low : Int) (high : Int) (w : World) : Prop :=
  Calls Tryd.prog F.strings_CutPrefix #[.string word, .string mark] w (Ret [.at .str, .at .bool] fun (x17_0 : ByteArray) (x17_1 : Bool) w1 =>
  Calls Tryd.prog F.i_readNumber #[.string x17_0] w1 (Ret [.at (.int .i64), .at .bool] fun (x22_0 : Int) (x22_1 : Bool) w2 =>
  cond x17_1 (
  cond x22_1 (
  Calls Tryd.prog F.i_within #[.int .i64 x22_0, .int .i64 low, .int .i64 high] w2 (Ret [.at .bool] fun (x34 : Bool) w3 =>
  Q x22_0 x34 w3)) (
  Q x22_0 false w2)) (
  Q x22_0 false w2)))

theorem C_i_marked {Q : Int → Bool → World → Prop} {word : ByteArray} {mark : ByteArray} {low : Int} {high : Int} {w : World} (h : V_i_marked Q word mark low high w) : Calls Tryd.prog F.i_marked #[.string word, .string mark, .int .i64 low, .int .i64 high] w (Ret [.at (.int .i64), .at .bool] Q) :=
  mkC (hint := hint) (ann := annOf []) (args := [.string word, .string mark, .int .i64 low, .int .i64 high]) (rs := [.at (.int .i64), .at .bool]) Tryd.func49 (by kernel_rfl) (by kernel_rfl) h

def V_i_ParsePort (Q : Int → Int → Bool → World → Prop) (s : ByteArray) (w : World) : Prop :=
  NEW T.t_i_End #[.int .i64 0, .int .i64 0] w fun (px2 : Addr) w1 =>
  Calls Tryd.prog F.strings_Cut #[.string s, .string (ByteArray.mk #[46])] w1 (Ret [.at .str, .at .str, .at .bool] fun (x13_0 : ByteArray) (x13_1 : ByteArray) (x13_2 : Bool) w2 =>
  Calls Tryd.prog F.i_readNumber #[.string x13_0] w2 (Ret [.at (.int .i64), .at .bool] fun (x19_0 : Int) (x19_1 : Bool) w3 =>
  Calls Tryd.prog F.i_readNumber #[.string x13_1] w3 (Ret [.at (.int .i64), .at .bool] fun (x24_0 : Int) (x24_1 : Bool) w4 =>
  cond (!x13_2) (
  ST px2 0 [.int .i64 0, .int .i64 0] w4 fun w5 =>
  LD [.int .i64, .int .i64] px2 w5 fun (r0_0 : Int) (r0_1 : Int) =>
  Q r0_0 r0_1 false w5) (
  cond (!x19_1) (
  ST px2 0 [.int .i64 0, .int .i64 0] w4 fun w6 =>
  LD [.int .i64, .int .i64] px2 w6 fun (r0_0_2 : Int) (r0_1_2 : Int) =>
  Q r0_0_2 r0_1_2 false w6) (
  cond (!x24_1) (
  ST px2 0 [.int .i64 0, .int .i64 0] w4 fun w7 =>
  LD [.int .i64, .int .i64] px2 w7 fun (r0_0_3 : Int) (r0_1_3 : Int) =>
  Q r0_0_3 r0_1_3 false w7) (
  ST px2 0 [.int .i64 x19_0, .int .i64 x24_0] w4 fun w9 =>
  LD [.int .i64, .int .i64] px2 w9 fun (r0_0_5 : Int) (r0_1_5 : Int) =>
  Q r0_0_5 r0_1_5 true w9))))))

theorem C_i_ParsePort {Q : Int → Int → Bool → World → Prop} {s : ByteArray} {w : World} (h : V_i_ParsePort Q s w) : Calls Tryd.prog F.i_ParsePort #[.string s] w (Ret [.agg [.int .i64, .int .i64], .at .bool] Q) :=
  mkC (hint := hint) (ann := annOf []) (args := [.string s]) (rs := [.agg [.int .i64, .int .i64], .at .bool]) Tryd.func50 (by kernel_rfl) (by kernel_rfl) h

def V_i_Network_hasPort (Q : Bool → World → Prop) (n_0 : Sl) (n_1 : Sl) (n_2 : Sl) (v : Int) (i : Int) (w : World) : Prop :=
  NEW T.t_i_Network #[n_0.v, n_1.v, n_2.v] w fun (p_n : Addr) w1 =>
  LD [.sl, .sl, .sl] p_n w1 fun (x7_0 : Sl) (x7_1 : Sl) (x7_2 : Sl) =>
  Calls Tryd.prog F.i_Network_hasNode #[.agg #[x7_0.v, x7_1.v, x7_2.v], .int .i64 v] w1 (Ret [.at .bool] fun (x9 : Bool) w2 =>
  cond x9 (
  LD [.sl] (p_n.add 0) w2 fun (x13 : Sl) =>
  IX x13 v 1 fun (px15 : Addr) =>
  LD [.sl] px15 w2 fun (x16 : Sl) =>
  Calls Tryd.prog F.i_within #[.int .i64 i, .int .i64 0, .int .i64 (IntKind.i64.wrap (x16.len - 1))] w2 (Ret [.at .bool] fun (x19 : Bool) w3 =>
  Q x19 w3)) (
  Q false w2))

theorem C_i_Network_hasPort {Q : Bool → World → Prop} {n_0 : Sl} {n_1 : Sl} {n_2 : Sl} {v : Int} {i : Int} {w : World} (h : V_i_Network_hasPort Q n_0 n_1 n_2 v i w) : Calls Tryd.prog F.i_Network_hasPort #[.agg #[n_0.v, n_1.v, n_2.v], .int .i64 v, .int .i64 i] w (Ret [.at .bool] Q) :=
  mkC (hint := hint) (ann := annOf []) (args := [.agg #[n_0.v, n_1.v, n_2.v], .int .i64 v, .int .i64 i]) (rs := [.at .bool]) Tryd.func51 (by kernel_rfl) (by kernel_rfl) h

def V_slices_Contains_sl_int_int (Q : Bool → World → Prop) (s : Sl) (v : Int) (w : World) : Prop :=
  Calls Tryd.prog F.slices_Index_sl_int_int #[s.v, .int .i64 v] w (Ret [.at (.int .i64)] fun (x7 : Int) w1 =>
  Q (decide ((x7 : Int) ≥ 0)) w1)

theorem C_slices_Contains_sl_int_int {Q : Bool → World → Prop} {s : Sl} {v : Int} {w : World} (h : V_slices_Contains_sl_int_int Q s v w) : Calls Tryd.prog F.slices_Contains_sl_int_int #[s.v, .int .i64 v] w (Ret [.at .bool] Q) :=
  mkC (hint := hint) (ann := annOf []) (args := [s.v, .int .i64 v]) (rs := [.at .bool]) Tryd.func52 (by kernel_rfl) (by kernel_rfl) h

def V_s_l1Read_k5 (I5 : Int → Int → World → Prop) (m5 : Int → Int → World → Nat) (n : Int) (i : Int) (w3 : World) (n_2 : Int) (w4 : World) : Prop :=
  I5 n_2 (IntKind.i64.wrap (i + 1)) w4 ∧ m5 n_2 (IntKind.i64.wrap (i + 1)) w4 < m5 n i w3

def V_s_l1Read_k1 (s : ByteArray) (Q : Int → World → Prop) (w2 : World) : Prop :=
  ∃ (I5 : Int → Int → World → Prop) (m5 : Int → Int → World → Nat), I5 0 0 w2 ∧ ∀ (n : Int) (i : Int) w3, I5 n i w3 → ∀ _ _ _ _ _ _ _ _ _ _ _ _ _ _ _ _ _ _ _ _ _ _ _ _ _ : Value,
  cond (decide ((i : Int) < s.size)) (
  SIX s i fun (x27 : Int) =>
  cond (decide ((x27 : Int) < 48)) (
  Q (-1) w3) (
  SIX s i fun (x32 : Int) =>
  cond (decide ((x32 : Int) > 57)) (
  Q (-1) w3) (
  SIX s i fun (x39_2 : Int) =>
  V_s_l1Read_k5 I5 m5 n i w3 (IntKind.i64.wrap ((IntKind.i64.wrap (10 * n)) + (IntKind.i64.wrap (IntKind.u8.wrap (x39_2 - 48))))) w3))) (
  Q n w3)

def V_s_l1Read (Q : Int → World → Prop) (s : ByteArray) (w : World) : Prop :=
  Calls Tryd.prog F.s_l1In #[.int .i64 s.size, .int .i64 1, .int .i64 6] w (Ret [.at .bool] fun (x7 : Bool) w1 =>
  cond (!x7) (
  Q (-1) w1) (
  SIX s 0 fun (x11 : Int) =>
  cond ((x11 : Int) == 48) (
  cond (decide ((s.size : Int) > 1)) (
  Q (-1) w1) (
  V_s_l1Read_k1 s Q w1)) (
  V_s_l1Read_k1 s Q w1)))

theorem C_s_l1Read {Q : Int → World → Prop} {s : ByteArray} {w : World} (h : V_s_l1Read Q s w) : Calls Tryd.prog F.s_l1Read #[.string s] w (Ret [.at (.int .i64)] Q) :=
  mkC (hint := hint) (ann := annOf [(5, ⟨[(3, .int .i64), (4, .int .i64)], [2, 19, 20, 21, 22, 23, 24, 25, 26, 27, 28, 29, 30, 31, 32, 33, 34, 35, 36, 37, 38, 39, 40, 41, 42]⟩)]) (args := [.string s]) (rs := [.at (.int .i64)]) Tryd.func57 (by kernel_rfl) (by kernel_rfl) h

def V_s_l1In (Q : Bool → World → Prop) (n : Int) (lo : Int) (hi : Int) (w : World) : Prop :=
  cond (decide ((n : Int) ≥ lo)) (
  Q (decide ((n : Int) ≤ hi)) w) (
  Q false w)

theorem C_s_l1In {Q : Bool → World → Prop} {n : Int} {lo : Int} {hi : Int} {w : World} (h : V_s_l1In Q n lo hi w) : Calls Tryd.prog F.s_l1In #[.int .i64 n, .int .i64 lo, .int .i64 hi] w (Ret [.at .bool] Q) :=
  mkC (hint := hint) (ann := annOf []) (args := [.int .i64 n, .int .i64 lo, .int .i64 hi]) (rs := [.at .bool]) Tryd.func58 (by kernel_rfl) (by kernel_rfl) h

def V_s_txPort_k2 (Q : Int → Int → Bool → World → Prop) (px2 : Addr) (e : Addr) (w16 : World) : Prop :=
  LD [.int .i64] (e.add 0) w16 fun (x22 : Int) =>
  cond (decide ((x22 : Int) < 0)) (
  ST px2 0 [.int .i64 0, .int .i64 0] w16 fun w17 =>
  LD [.int .i64, .int .i64] px2 w17 fun (r0_0_2 : Int) (r0_1_2 : Int) =>
  Q r0_0_2 r0_1_2 false w17) (
  LD [.int .i64] (e.add 1) w16 fun (x26 : Int) =>
  cond (decide ((x26 : Int) < 0)) (
  ST px2 0 [.int .i64 0, .int .i64 0] w16 fun w18 =>
  LD [.int .i64, .int .i64] px2 w18 fun (r0_0_3 : Int) (r0_1_3 : Int) =>
  Q r0_0_3 r0_1_3 false w18) (
  LD [.int .i64, .int .i64] e w16 fun (x30_0_2 : Int) (x30_1_2 : Int) =>
  ST px2 0 [.int .i64 x30_0_2, .int .i64 x30_1_2] w16 fun w20 =>
  LD [.int .i64, .int .i64] px2 w20 fun (r0_0_5 : Int) (r0_1_5 : Int) =>
  Q r0_0_5 r0_1_5 true w20))

def V_s_txPort (Q : Int → Int → Bool → World → Prop) (s : ByteArray) (w : World) : Prop :=
  NEW T.t_i_End #[.int .i64 0, .int .i64 0] w fun (px2 : Addr) w1 =>
  Calls Tryd.prog F.s_l1Split #[.string s, .int .u8 46] w1 (Ret [.at .sl] fun (x7 : Sl) w2 =>
  cond ((x7.len : Int) != 2) (
  ST px2 0 [.int .i64 0, .int .i64 0] w2 fun w3 =>
  LD [.int .i64, .int .i64] px2 w3 fun (r0_0 : Int) (r0_1 : Int) =>
  Q r0_0 r0_1 false w3) (
  ∀ w4, Ext w2 w4 → w4.heap = w2.heap → ∃ (D4 : Nat → Prop),
  IX x7 0 1 fun (px13 : Addr) =>
  ¬ D4 px13.block ∧ (
  LD [.str] px13 w4 fun (x14 : ByteArray) =>
  IX x7 1 1 fun (px17 : Addr) =>
  ¬ D4 px17.block ∧ (
  LD [.str] px17 w4 fun (x18 : ByteArray) =>
  (
  Calls Tryd.prog F.s_l1Read #[.string x14] w4 (Ret [.at (.int .i64)] fun (x15 : Int) w5 =>
  Chg w4 w5 D4 ∧ (
  (
  Calls Tryd.prog F.s_l1Read #[.string x18] w5 (Ret [.at (.int .i64)] fun (x19 : Int) w6 =>
  Chg w4 w6 D4 ∧ (
  NEW T.t_i_End #[.int .i64 0, .int .i64 0] w6 fun (p_e : Addr) w7 =>
  Chg w4 w7 D4 ∧ (
  ST p_e 0 [.int .i64 x15, .int .i64 x19] w7 fun w8 =>
  Chg w4 w8 D4 ∧ (
  V_s_txPort_k2 Q px2 p_e w8))))) ∧ (
  NEW T.t_i_End #[.int .i64 0, .int .i64 0] w5 fun (p_e_2 : Addr) w9 =>
  Chg w4 w9 D4 ∧ (
  Calls Tryd.prog F.s_l1Read #[.string x18] w9 (Ret [.at (.int .i64)] fun (x19_2 : Int) w10 =>
  Chg w4 w10 D4 ∧ (
  Chg w4 w10 D4 ∧ (
  ST p_e_2 0 [.int .i64 x15, .int .i64 x19_2] w10 fun w11 =>
  Chg w4 w11 D4 ∧ (
  V_s_txPort_k2 Q px2 p_e_2 w11))))))))) ∧ (
  NEW T.t_i_End #[.int .i64 0, .int .i64 0] w4 fun (p_e_3 : Addr) w12 =>
  Chg w4 w12 D4 ∧ (
  Calls Tryd.prog F.s_l1Read #[.string x14] w12 (Ret [.at (.int .i64)] fun (x15_2 : Int) w13 =>
  Chg w4 w13 D4 ∧ (
  Calls Tryd.prog F.s_l1Read #[.string x18] w13 (Ret [.at (.int .i64)] fun (x19_3 : Int) w14 =>
  Chg w4 w14 D4 ∧ (
  Chg w4 w14 D4 ∧ (
  ST p_e_3 0 [.int .i64 x15_2, .int .i64 x19_3] w14 fun w15 =>
  Chg w4 w15 D4 ∧ (
  V_s_txPort_k2 Q px2 p_e_3 w15))))))))))))

theorem C_s_txPort {Q : Int → Int → Bool → World → Prop} {s : ByteArray} {w : World} (h : V_s_txPort Q s w) : Calls Tryd.prog F.s_txPort #[.string s] w (Ret [.agg [.int .i64, .int .i64], .at .bool] Q) :=
  mkC (hint := hint) (ann := annOf []) (args := [.string s]) (rs := [.agg [.int .i64, .int .i64], .at .bool]) Tryd.func59 (by kernel_rfl) (by kernel_rfl) h

def V_i_readNumber (Q : Int → Bool → World → Prop) (s : ByteArray) (w : World) : Prop :=
  cond (decide ((s.size : Int) < 1)) (
  Q 0 false w) (
  cond (decide ((s.size : Int) > 6)) (
  Q 0 false w) (
  Calls Tryd.prog F.strconv_Atoi #[.string s] w (Ret [.at (.int .i64), .at .val] fun (x16_0_2 : Int) (x16_1_2 : Value) w3 =>
  AEQ Tryd.prog (do eqGuard .neq T.t_error (.tmp 19) (.const (.nilIface)) (x16_1_2) (.nilIface); binOp .neq T.t_error (x16_1_2) (.nilIface)) fun (x20_2 : Bool) =>
  cond x20_2 (
  Q 0 false w3) (
  cond (decide ((x16_0_2 : Int) < 0)) (
  Q 0 false w3) (
  Calls Tryd.prog F.strconv_Itoa #[.int .i64 x16_0_2] w3 (Ret [.at .str] fun (x27_2 : ByteArray) w4 =>
  cond (!(x27_2.toList == s.toList)) (
  Q 0 false w4) (
  Q x16_0_2 true w4)))))))

theorem C_i_readNumber {Q : Int → Bool → World → Prop} {s : ByteArray} {w : World} (h : V_i_readNumber Q s w) : Calls Tryd.prog F.i_readNumber #[.string s] w (Ret [.at (.int .i64), .at .bool] Q) :=
  mkC (hint := hint) (ann := annOf []) (args := [.string s]) (rs := [.at (.int .i64), .at .bool]) Tryd.func62 (by kernel_rfl) (by kernel_rfl) h

def V_i_Network_hasNode (Q : Bool → World → Prop) (n_0 : Sl) (n_1 : Sl) (n_2 : Sl) (v : Int) (w : World) : Prop :=
  NEW T.t_i_Network #[n_0.v, n_1.v, n_2.v] w fun (p_n : Addr) w1 =>
  LD [.sl] (p_n.add 0) w1 fun (x7 : Sl) =>
  Calls Tryd.prog F.i_within #[.int .i64 v, .int .i64 0, .int .i64 (IntKind.i64.wrap (x7.len - 1))] w1 (Ret [.at .bool] fun (x10 : Bool) w2 =>
  Q x10 w2)

theorem C_i_Network_hasNode {Q : Bool → World → Prop} {n_0 : Sl} {n_1 : Sl} {n_2 : Sl} {v : Int} {w : World} (h : V_i_Network_hasNode Q n_0 n_1 n_2 v w) : Calls Tryd.prog F.i_Network_hasNode #[.agg #[n_0.v, n_1.v, n_2.v], .int .i64 v] w (Ret [.at .bool] Q) :=
  mkC (hint := hint) (ann := annOf []) (args := [.agg #[n_0.v, n_1.v, n_2.v], .int .i64 v]) (rs := [.at .bool]) Tryd.func64 (by kernel_rfl) (by kernel_rfl) h

def V_slices_Index_sl_int_int (Q : Int → World → Prop) (s : Sl) (v : Int) (w : World) : Prop :=
  ∃ (I2 : Int → World → Prop) (m2 : Int → World → Nat), I2 0 w ∧ ∀ (x8 : Int) w1, I2 x8 w1 → ∀ _ _ _ _ _ _ _ _ _ _ _ _ : Value,
  cond (decide ((x8 : Int) < s.len)) (
  IX s x8 1 fun (px14 : Addr) =>
  LD [.int .i64] px14 w1 fun (x15 : Int) =>
  cond ((v : Int) == x15) (
  Q x8 w1) (
  I2 (IntKind.i64.wrap (x8 + 1)) w1 ∧ m2 (IntKind.i64.wrap (x8 + 1)) w1 < m2 x8 w1)) (
  Q (-1) w1)

theorem C_slices_Index_sl_int_int {Q : Int → World → Prop} {s : Sl} {v : Int} {w : World} (h : V_slices_Index_sl_int_int Q s v w) : Calls Tryd.prog F.slices_Index_sl_int_int #[s.v, .int .i64 v] w (Ret [.at (.int .i64)] Q) :=
  mkC (hint := hint) (ann := annOf [(2, ⟨[(8, .int .i64)], [4, 5, 9, 10, 11, 12, 13, 14, 15, 16, 17, 18]⟩)]) (args := [s.v, .int .i64 v]) (rs := [.at (.int .i64)]) Tryd.func65 (by kernel_rfl) (by kernel_rfl) h

def V_s_l1Split (Q : Sl → World → Prop) (s : ByteArray) (b : Int) (w : World) : Prop :=
  ∃ (I4 : Sl → Int → Int → World → Prop) (m4 : Sl → Int → Int → World → Nat), I4 (⟨none, 0, 0⟩) 0 0 w ∧ ∀ (out : Sl) (from1 : Int) (i : Int) w1, I4 out from1 i w1 → ∀ _ _ _ _ _ _ _ _ _ _ _ _ _ _ _ _ _ _ _ _ : Value,
  cond (decide ((i : Int) < s.size)) (
  SIX s i fun (x16 : Int) =>
  cond ((x16 : Int) == b) (
  RUN Tryd.prog (.at .str) (Instr.sliceAt T.t_string (.string s) (some (.int .i64 from1)) (some (.int .i64 i)) none) w1 fun (x23 : ByteArray) w2 =>
  RUN Tryd.prog (.at .sl) (Instr.buildSlice T.t_sl_string 1 #[(0, .string x23)]) w2 fun (x24 : Sl) w3 =>
  RUN Tryd.prog (.at .sl) (bsem .append #[T.t_sl_string, T.t_sl_string] T.t_sl_string #[out.v, x24.v]) w3 fun (x25 : Sl) w4 =>
  I4 x25 (IntKind.i64.wrap (i + 1)) (IntKind.i64.wrap (i + 1)) w4 ∧ m4 x25 (IntKind.i64.wrap (i + 1)) (IntKind.i64.wrap (i + 1)) w4 < m4 out from1 i w1) (
  I4 out from1 (IntKind.i64.wrap (i + 1)) w1 ∧ m4 out from1 (IntKind.i64.wrap (i + 1)) w1 < m4 out from1 i w1)) (
  RUN Tryd.prog (.at .str) (Instr.sliceAt T.t_string (.string s) (some (.int .i64 from1)) none none) w1 fun (x31 : ByteArray) w5 =>
  RUN Tryd.prog (.at .sl) (Instr.buildSlice T.t_sl_string 1 #[(0, .string x31)]) w5 fun (x32 : Sl) w6 =>
  RUN Tryd.prog (.at .sl) (bsem .append #[T.t_sl_string, T.t_sl_string] T.t_sl_string #[out.v, x32.v]) w6 fun (x33 : Sl) w7 =>
  Q x33 w7)

theorem C_s_l1Split {Q : Sl → World → Prop} {s : ByteArray} {b : Int} {w : World} (h : V_s_l1Split Q s b w) : Calls Tryd.prog F.s_l1Split #[.string s, .int .u8 b] w (Ret [.at .sl] Q) :=
  mkC (hint := hint) (ann := annOf [(4, ⟨[(5, .sl), (6, .int .i64), (7, .int .i64)], [8, 9, 10, 11, 12, 13, 14, 15, 16, 17, 18, 19, 20, 21, 22, 23, 24, 25, 26, 27]⟩)]) (args := [.string s, .int .u8 b]) (rs := [.at .sl]) Tryd.func71 (by kernel_rfl) (by kernel_rfl) h

end Go.Proofs.YtcldmpllpfojhaaDoor
end

section
/- All functions' propositions of this seat. -/
end

section
/- Rules for proving the propositions that functions compute to: memory read as lists, loops over indexes, calls. No program is named here. -/
namespace Go.GX
open Go.RowKit

/-! ### Numbers -/

def I64 (n : Int) : Prop := -9223372036854775808 ≤ n ∧ n ≤ 9223372036854775807

theorem wrap_of {n : Int} (h1 : -9223372036854775808 ≤ n) (h2 : n ≤ 9223372036854775807) : IntKind.i64.wrap n = n := by
  have e1 : (2 : Int) ^ 64 = 18446744073709551616 := rfl
  have e2 : (2 : Int) ^ 63 = 9223372036854775808 := rfl
  simp only [IntKind.wrap, IntKind.bits, IntKind.signed, Bool.true_and, decide_eq_true_eq, Nat.reduceSub, e1, e2]
  by_cases h : 0 ≤ n
  · have : n % 18446744073709551616 = n := Int.emod_eq_of_lt h (by omega)
    rw [this, if_neg (by omega)]
  · have : n % 18446744073709551616 = n + 18446744073709551616 := by omega
    rw [this, if_pos (by omega)]; omega

theorem add_zero' (a : Addr) : a.add 0 = a := rfl
theorem add_add (a : Addr) (m n : Nat) : (a.add m).add n = a.add (m + n) := by
  unfold Addr.add
  by_cases hm : m = 0
  · subst hm; simp
  · by_cases hn : n = 0
    · subst hn; simp [hm]
    · simp [hm, hn, Nat.add_assoc]


/-! ### Worlds -/

theorem Ext.size_le {w w' : World} (h : Ext w w') : w.heap.size ≤ w'.heap.size := h.size

theorem Ext.same {w w' : World} (h : Ext w w') {b : Nat} (hb : b < w.heap.size) : w'.heap[b]? = w.heap[b]? := h.block b hb

theorem cell_lt {w : World} {a : Addr} {v : Value} (h : w.cell? a = some v) : a.block < w.heap.size := World.block_lt_of_cell? w a h

theorem ext_push (w : World) (o : Obj) : Ext w { w with heap := w.heap.push o } :=
  ⟨rfl, rfl, rfl, by simp, fun k hk => by simp [Array.getElem?_push, Nat.ne_of_lt hk]⟩

/-- A block that the call itself has made: its cells, not frozen. -/
def Box (w : World) (p : Addr) (t : TypeId) (cs : List Value) : Prop := p.off = 0 ∧ p.spot = none ∧ w.heap[p.block]? = some (.cells ⟨cs⟩ t (0, 0))

theorem Box.cell {w : World} {p : Addr} {t : TypeId} {cs : List Value} (h : Box w p t cs) {i : Nat} {v : Value} (hi : cs[i]? = some v) : w.cell? (p.add i) = some v := by
  obtain ⟨h1, h2, h3⟩ := h
  unfold Addr.add
  by_cases h0 : i = 0
  · subst h0; simp [World.cell?, h3, h2, h1, hi]
  · simp [World.cell?, h3, h0, h1, hi]

theorem Box.frozen {w : World} {p : Addr} {t : TypeId} {cs : List Value} (h : Box w p t cs) (i : Nat) : w.frozen? (p.add i) = false := by
  obtain ⟨h1, h2, h3⟩ := h
  have : (p.add i).block = p.block := by unfold Addr.add; split <;> rfl
  simp [World.frozen?, this, h3]

theorem Box.lt {w : World} {p : Addr} {t : TypeId} {cs : List Value} (h : Box w p t cs) : p.block < w.heap.size := (Array.getElem?_eq_some_iff.1 h.2.2).1

theorem Box.ext {w w' : World} {p : Addr} {t : TypeId} {cs : List Value} (h : Box w p t cs) (hE : Ext w w') : Box w' p t cs :=
  ⟨h.1, h.2.1, (hE.same h.lt).trans h.2.2⟩

theorem Box.of_block {w w' : World} {p : Addr} {t : TypeId} {cs : List Value} (h : Box w p t cs) (hE : w'.heap[p.block]? = w.heap[p.block]?) : Box w' p t cs :=
  ⟨h.1, h.2.1, hE.trans h.2.2⟩

theorem add_block (p : Addr) (i : Nat) : (p.add i).block = p.block := by unfold Addr.add; split <;> rfl

theorem Box.set {w : World} {p : Addr} {t : TypeId} {cs : List Value} (h : Box w p t cs) (i : Nat) (v : Value) : Box (w.setCell (p.add i) v) p t (cs.set i v) := by
  obtain ⟨h1, h2, h3⟩ := h
  refine ⟨h1, h2, ?_⟩
  have hb : (p.add i).block = p.block := add_block p i
  have ho : (p.add i).off = i := by unfold Addr.add; split <;> simp_all
  have hs : (p.add i).spot = none := by unfold Addr.add; split <;> simp_all
  have hlt := (Array.getElem?_eq_some_iff.1 h3).1
  have hv := (Array.getElem?_eq_some_iff.1 h3).2
  simp only [World.setCell, Array.getElem?_modify, hb, ho, hs]
  simp [h3]

/-- A new variable: its block is the next one. -/
theorem NEW_intro {t : TypeId} {cs : List Value} {w : World} {K : Addr → World → Prop}
    (h : ∀ p w', p.block = w.heap.size → w'.heap.size = w.heap.size + 1 → Ext w w' → Box w' p t cs → K p w') : NEW t ⟨cs⟩ w K :=
  h _ _ rfl (by simp) (ext_push w _) ⟨rfl, rfl, by simp⟩

theorem setCell_size (w : World) (a : Addr) (v : Value) : (w.setCell a v).heap.size = w.heap.size := by simp [World.setCell]

theorem setCell_other (w : World) (a : Addr) (v : Value) {b : Nat} (h : b ≠ a.block) : (w.setCell a v).heap[b]? = w.heap[b]? := Below.heap_setCell w a v b h

/-! ### Loads -/

section
variable {w : World} {a : Addr}

theorem LD_sl {K : Sl → Prop} {s : Sl} (hc : w.cell? a = some s.v) (hk : K s) : LD [.sl] a w K :=
  ⟨[s.v], rfl, fun i v hi => by match i, hi with | 0, hi => simp at hi; subst hi; exact hc, hk⟩
theorem LD_int {K : Int → Prop} {n : Int} (hc : w.cell? a = some (.int .i64 n)) (hk : K n) : LD [.int .i64] a w K :=
  ⟨[.int .i64 n], rfl, fun i v hi => by match i, hi with | 0, hi => simp at hi; subst hi; exact hc, hk⟩
theorem LD_bool {K : Bool → Prop} {n : Bool} (hc : w.cell? a = some (.bool n)) (hk : K n) : LD [.bool] a w K :=
  ⟨[.bool n], rfl, fun i v hi => by match i, hi with | 0, hi => simp at hi; subst hi; exact hc, hk⟩
theorem LD_int2 {K : Int → Int → Prop} {x y : Int} (h0 : w.cell? (a.add 0) = some (.int .i64 x)) (h1 : w.cell? (a.add 1) = some (.int .i64 y)) (hk : K x y) : LD [.int .i64, .int .i64] a w K :=
  ⟨[.int .i64 x, .int .i64 y], rfl, fun i v hi => by
    match i, hi with
    | 0, hi => simp at hi; subst hi; exact h0
    | 1, hi => simp at hi; subst hi; exact h1, hk⟩
theorem LD_sl3 {K : Sl → Sl → Sl → Prop} {x y z : Sl} (h0 : w.cell? (a.add 0) = some x.v) (h1 : w.cell? (a.add 1) = some y.v) (h2 : w.cell? (a.add 2) = some z.v) (hk : K x y z) : LD [.sl, .sl, .sl] a w K :=
  ⟨[x.v, y.v, z.v], rfl, fun i v hi => by
    match i, hi with
    | 0, hi => simp at hi; subst hi; exact h0
    | 1, hi => simp at hi; subst hi; exact h1
    | 2, hi => simp at hi; subst hi; exact h2, hk⟩
end

/-! ### Memory read as data -/

class Rep (α : Type) where
  sz : Nat
  rep : (Nat → Prop) → World → List Value → α → Prop
  len : ∀ {D w cs a}, rep D w cs a → cs.length = sz
  agr : ∀ {D : Nat → Prop} {w w' : World} {cs a}, (∀ b, D b → w'.heap[b]? = w.heap[b]?) → rep D w cs a → rep D w' cs a
  weak : ∀ {D D' : Nat → Prop} {w cs a}, (∀ b, D b → b < w.heap.size → D' b) → rep D w cs a → rep D' w cs a

/-- The slice s reads as the list l, by blocks in D. -/
def SlR {α : Type} [Rep α] (D : Nat → Prop) (w : World) (s : Sl) (l : List α) : Prop :=
  s.len = l.length ∧ (s.len ≤ s.cap ∧ s.cap ≤ 9223372036854775807) ∧ ∀ i x, l[i]? = some x → ∃ a cs, s.a = some a ∧ D a.block ∧ Rep.rep D w cs x ∧ ∀ j v, cs[j]? = some v → w.cell? (a.add (i * Rep.sz α + j)) = some v

instance : Rep Int where
  sz := 1
  rep _ _ cs n := cs = [.int .i64 n] ∧ I64 n
  len h := by rw [h.1]; rfl
  agr _ h := h
  weak _ h := h

instance : Rep Bool where
  sz := 1
  rep _ _ cs n := cs = [.bool n]
  len h := by rw [h]; rfl
  agr _ h := h
  weak _ h := h

instance : Rep (Int × Int) where
  sz := 2
  rep _ _ cs n := cs = [.int .i64 n.1, .int .i64 n.2] ∧ I64 n.1 ∧ I64 n.2
  len h := by rw [h.1]; rfl
  agr _ h := h
  weak _ h := h

instance : Rep (Int × Int × Int × Int) where
  sz := 4
  rep _ _ cs n := cs = [.int .i64 n.1, .int .i64 n.2.1, .int .i64 n.2.2.1, .int .i64 n.2.2.2] ∧ I64 n.1 ∧ I64 n.2.1 ∧ I64 n.2.2.1 ∧ I64 n.2.2.2
  len h := by rw [h.1]; rfl
  agr _ h := h
  weak _ h := h

section
variable {α : Type} [Rep α] {D D' : Nat → Prop} {w w' : World} {s : Sl} {l : List α}

theorem SlR.agr (hE : ∀ b, D b → w'.heap[b]? = w.heap[b]?) (h : SlR D w s l) : SlR D w' s l :=
  ⟨h.1, h.2.1, fun i x hx => by
    obtain ⟨a, cs, h1, h2, h3, h4⟩ := h.2.2 i x hx
    exact ⟨a, cs, h1, h2, Rep.agr hE h3, fun j v hj => by
      have hb : w'.heap[(a.add (i * Rep.sz α + j)).block]? = w.heap[(a.add (i * Rep.sz α + j)).block]? := by rw [add_block]; exact hE _ h2
      rw [World.cell?_of_block hb]; exact h4 j v hj⟩⟩

theorem SlR.weak (hD : ∀ b, D b → b < w.heap.size → D' b) (h : SlR D w s l) (hsz : 0 < Rep.sz α) : SlR D' w s l :=
  ⟨h.1, h.2.1, fun i x hx => by
    obtain ⟨a, cs, h1, h2, h3, h4⟩ := h.2.2 i x hx
    have hl : cs.length = Rep.sz α := Rep.len h3
    have hlt : a.block < w.heap.size := by
      have := cell_lt (h4 0 cs[0] (by simp))
      rwa [add_block] at this
    exact ⟨a, cs, h1, hD _ h2 hlt, Rep.weak hD h3, h4⟩⟩
end

class RepP (α : Type) extends Rep α where
  pos : 0 < sz

instance : RepP Int := ⟨by decide⟩
instance : RepP Bool := ⟨by decide⟩
instance : RepP (Int × Int) := ⟨by decide⟩
instance : RepP (Int × Int × Int × Int) := ⟨by decide⟩

instance {α : Type} [RepP α] : Rep (List α) where
  sz := 1
  rep D w cs l := ∃ s : Sl, cs = [s.v] ∧ SlR D w s l
  len h := by obtain ⟨s, rfl, _⟩ := h; rfl
  agr hE h := by obtain ⟨s, rfl, h⟩ := h; exact ⟨s, rfl, h.agr hE⟩
  weak hD h := by obtain ⟨s, rfl, h⟩ := h; exact ⟨s, rfl, h.weak hD RepP.pos⟩

instance {α : Type} [RepP α] : RepP (List α) := ⟨by show 0 < 1; decide⟩

abbrev R {α : Type} [Rep α] (w : World) (s : Sl) (l : List α) : Prop := SlR (fun _ => True) w s l

section
variable {α : Type} [RepP α] {D : Nat → Prop} {w w' : World} {s : Sl} {l : List α}

theorem SlR.any (h : SlR D w s l) : R w s l := h.weak (fun _ _ _ => trivial) RepP.pos
theorem SlR.below (h : SlR D w s l) : SlR (fun b => D b ∧ b < w.heap.size) w s l := h.weak (fun _ h1 h2 => ⟨h1, h2⟩) RepP.pos
theorem SlR.ext (hE : Ext w w') (h : SlR D w s l) : SlR D w' s l := by
  have h1 := h.below.agr (w' := w') fun b hb => hE.same hb.2
  exact h1.weak (fun _ h2 _ => h2.1) RepP.pos
theorem SlR.len (h : SlR D w s l) : s.len = l.length := h.1
theorem SlR.le (h : SlR D w s l) : l.length ≤ 9223372036854775807 := by have := h.1; have := h.2.1; omega
end

/-- The element of a slice: its address, and what lies there. -/
theorem SlR.ix {α : Type} [RepP α] {D : Nat → Prop} {w : World} {s : Sl} {l : List α} (h : SlR D w s l) {i : Int} {n : Nat} (hn : n = Rep.sz α) (h0 : 0 ≤ i) (hi : i < l.length) {K : Addr → Prop}
    (hk : ∀ p cs, Rep.rep D w cs (l[i.toNat]'(by omega)) → (∀ j v, cs[j]? = some v → w.cell? (p.add j) = some v) → K p) : IX s i n K := by
  obtain ⟨a, cs, h1, h2, h3, h4⟩ := h.2.2 i.toNat (l[i.toNat]'(by omega)) (by simp)
  refine ⟨a, h1, h0, by rw [h.1]; exact hi, hk _ cs h3 fun j v hj => ?_⟩
  subst hn
  rw [add_add]
  exact h4 j v hj

theorem SlR.ixI {D : Nat → Prop} {w : World} {s : Sl} {l : List Int} (h : SlR D w s l) {i : Nat} (hi : i < l.length) {K : Addr → Prop}
    (hk : ∀ p, I64 l[i] → w.cell? p = some (.int .i64 l[i]) → K p) : IX s i 1 K :=
  h.ix rfl (by omega) (by omega) fun p cs hr hc => by
    obtain ⟨rfl, h64⟩ := hr
    exact hk p h64 (hc 0 _ rfl)

theorem SlR.ixE {D : Nat → Prop} {w : World} {s : Sl} {l : List (Int × Int)} (h : SlR D w s l) {i : Nat} (hi : i < l.length) {K : Addr → Prop}
    (hk : ∀ p, I64 l[i].1 → I64 l[i].2 → w.cell? (p.add 0) = some (.int .i64 l[i].1) → w.cell? (p.add 1) = some (.int .i64 l[i].2) → K p) : IX s i 2 K :=
  h.ix rfl (by omega) (by omega) fun p cs hr hc => by
    obtain ⟨rfl, ha, hb⟩ := hr
    exact hk p ha hb (hc 0 _ rfl) (hc 1 _ rfl)

theorem SlR.ixL {α : Type} [RepP α] {D : Nat → Prop} {w : World} {s : Sl} {l : List (List α)} (h : SlR D w s l) {i : Nat} (hi : i < l.length) {K : Addr → Prop}
    (hk : ∀ p (s' : Sl), SlR D w s' l[i] → w.cell? p = some s'.v → K p) : IX s i 1 K :=
  h.ix rfl (by omega) (by omega) fun p cs hr hc => by
    obtain ⟨s', rfl, hs⟩ := hr
    exact hk p s' hs (hc 0 _ rfl)

theorem not_mem_take_succ {α : Type} {l : List α} {n : α} {i : Nat} (hi : i < l.length) (h : n ∉ l.take i) (hne : l[i] ≠ n) : n ∉ l.take (i + 1) := by
  rw [List.take_succ_eq_append_getElem hi]
  intro hm
  rcases List.mem_append.1 hm with h1 | h1
  · exact h h1
  · exact hne (List.mem_singleton.1 h1).symm

/-! ### Loops over an index -/

def IN (N : Nat) (I : Nat → World → Prop) (x : Int) (w : World) : Prop := ∃ i : Nat, x = i ∧ i ≤ N ∧ I i w
def MN (N : Nat) (x : Int) (_ : World) : Nat := N - x.toNat

theorem IN_zero {N : Nat} {I : Nat → World → Prop} {w : World} (h : I 0 w) : IN N I 0 w := ⟨0, rfl, Nat.zero_le _, h⟩

theorem IN_next {N i : Nat} {I : Nat → World → Prop} {w w' : World} (hN : N ≤ 9223372036854775807) (hi : i < N) (h : I (i + 1) w) :
    IN N I (IntKind.i64.wrap ((i : Int) + 1)) w ∧ MN N (IntKind.i64.wrap ((i : Int) + 1)) w < MN N i w' := by
  rw [wrap_of (by omega) (by omega)]
  exact ⟨⟨i + 1, by omega, hi, h⟩, by unfold MN; omega⟩

/-- A call that only computes, or that makes memory, in a region whose order is open. -/
theorem QCALL_bool {P : Program} {f : FuncId} {args : Array Value} {w : World} {K : Bool → Prop} (b : Bool)
    (h : ∀ w', Ext w w' → Calls P f args w' (Ret [.at .bool] fun (c : Bool) w'' => c = b ∧ Ext w' w'')) (hk : K b) : QCALL P f args w [.at .bool] K :=
  ⟨.bool b, [.bool b], rfl, fun w' hw => (h w' hw).mono fun e w'' he => by
    cases e with
    | returned v =>
      simp only [Ret] at he
      cases v <;> simp [unR, Sh.cells, app, At.un, atsR, botW] at he
      obtain ⟨rfl, h2⟩ := he
      exact ⟨rfl, h2⟩
    | panicked _ => exact he.elim
    | outgrown => exact he.elim, hk⟩

/-! ### Branches -/

section
variable {X Y : Prop}
theorem cond_t {b : Bool} (h : b = true) (hx : X) : cond b X Y := by subst h; exact hx
theorem cond_f {b : Bool} (h : b = false) (hy : Y) : cond b X Y := by subst h; exact hy
theorem cond_b {b : Bool} (ht : b = true → X) (hf : b = false → Y) : cond b X Y := by cases b; exact hf rfl; exact ht rfl
theorem cond_not {b : Bool} (hf : b = false → X) (ht : b = true → Y) : cond (!b) X Y := by cases b; exact hf rfl; exact ht rfl
theorem cond_dec {p : Prop} [Decidable p] (ht : p → X) (hf : ¬ p → Y) : cond (decide p) X Y := by
  by_cases h : p
  · rw [decide_eq_true h]; exact ht h
  · rw [decide_eq_false h]; exact hf h
theorem cond_dt {p : Prop} [Decidable p] (h : p) (hx : X) : cond (decide p) X Y := by rw [decide_eq_true h]; exact hx
theorem cond_df {p : Prop} [Decidable p] (h : ¬ p) (hy : Y) : cond (decide p) X Y := by rw [decide_eq_false h]; exact hy
theorem cond_eq {a b : Int} (ht : a = b → X) (hf : a ≠ b → Y) : cond (a == b) X Y := by
  by_cases h : a = b
  · rw [beq_iff_eq.2 h]; exact ht h
  · rw [beq_eq_false_iff_ne.2 h]; exact hf h
theorem cond_ne {a b : Int} (ht : a ≠ b → X) (hf : a = b → Y) : cond (a != b) X Y := by
  by_cases h : a = b
  · rw [bne_eq_false_iff_eq.2 h]; exact hf h
  · rw [bne_iff_ne.2 h]; exact ht h
end

/-! ### Small builtins -/

theorem Ret_bool {Q : Bool → World → Prop} {e : Ending} {w : World} (h : Ret [.at .bool] Q e w) : ∃ b, e = .returned (.bool b) ∧ Q b w := by
  cases e with
  | returned v =>
    simp only [Ret] at h
    cases v <;> simp [unR, Sh.cells, app, At.un, atsR, botW] at h
    exact ⟨_, rfl, h⟩
  | panicked _ => exact h.elim
  | outgrown => exact h.elim


/-! ### Slices of the call's own -/

/-- What is asked of a slice type: its elements' type, their cells and bytes, their zero value. -/
structure SlT (P : Program) (t e : TypeId) (size bytes : Nat) (z : Value) : Prop where
  under : P.underlying t = some (.slice e)
  info : (P.info? e).map (fun i => (i.zero, i.size, i.bytes)) = some (some z, size, bytes)
  zs : z.cells.size = size
  pos : 0 < size

theorem SlT.parts {P : Program} {t e : TypeId} {size bytes : Nat} {z : Value} (h : SlT P t e size bytes z) : ∃ i, P.info? e = some i ∧ i.zero = some z ∧ i.size = size ∧ i.bytes = bytes := by
  have := h.info
  cases hi : P.info? e with
  | none => rw [hi] at this; cases this
  | some i => rw [hi] at this; simp at this; exact ⟨i, rfl, this.1, this.2.1, this.2.2⟩

/-- The slice s is the call's own: its cells. -/
def Own (w : World) (base : Nat) (e : TypeId) (size : Nat) (s : Sl) (xs : List Value) : Prop := w.ownsRow base e size s.v s.len xs

theorem Own.nil (w : World) (base : Nat) (e : TypeId) (size : Nat) : Own w base e size ⟨none, 0, 0⟩ [] := World.ownsRow_nil w base e size

theorem Own.length {w : World} {base : Nat} {e : TypeId} {size : Nat} {s : Sl} {xs : List Value} (h : Own w base e size s xs) : xs.length = s.len * size := h.1

/-- What is behind a step that may write to one block of the call's own, and may make blocks. -/
structure Step (w w' : World) (g : Option Nat) : Prop where
  os : w'.os = w.os
  tape : w'.tape = w.tape
  output : w'.output = w.output
  size : w.heap.size ≤ w'.heap.size
  block : ∀ k, k < w.heap.size → some k ≠ g → w'.heap[k]? = w.heap[k]?

theorem Step.of_grown {w w' : World} {g : Option Nat} (h : w.grownBy w' g) : Step w w' g := ⟨h.os, h.tape, h.output, h.size, h.block⟩
theorem Step.ext {w w' : World} (h : Step w w' none) : Ext w w' := ⟨h.os, h.tape, h.output, h.size, fun k hk => h.block k hk (by simp)⟩
theorem Step.of_ext {w w' : World} (h : Ext w w') (g : Option Nat) : Step w w' g := ⟨h.os, h.tape, h.output, h.size, fun k hk _ => h.block k hk⟩
theorem Step.ext0 {w0 w w' : World} {g : Option Nat} (h : Step w w' g) (hE : Ext w0 w) (hg : ∀ k, g = some k → w0.heap.size ≤ k) : Ext w0 w' :=
  ⟨h.os.trans hE.os, h.tape.trans hE.tape, h.output.trans hE.output, Nat.le_trans hE.size h.size, fun k hk => (h.block k (Nat.lt_of_lt_of_le hk hE.size) (fun e => by have := hg k e.symm; omega)).trans (hE.block k hk)⟩

theorem Step.trans {a b c : World} {g : Option Nat} (h : Step a b g) (k : Step b c g) : Step a c g :=
  ⟨k.os.trans h.os, k.tape.trans h.tape, k.output.trans h.output, Nat.le_trans h.size k.size, fun b hb hne => (k.block b (Nat.lt_of_lt_of_le hb h.size) hne).trans (h.block b hb hne)⟩

theorem Step.refl (w : World) (g : Option Nat) : Step w w g := ⟨rfl, rfl, rfl, Nat.le_refl _, fun _ _ _ => rfl⟩

theorem Own.blk {w : World} {base : Nat} {e : TypeId} {size : Nat} {s : Sl} {xs : List Value} (h : Own w base e size s xs) : ∀ k, s.v.ownBlock = some k → base ≤ k ∧ k < w.heap.size := World.ownsRow.lt h

theorem Own.keep {w w' : World} {base : Nat} {e : TypeId} {size : Nat} {s : Sl} {xs : List Value} (h : Own w base e size s xs) (hb : ∀ k, s.v.ownBlock = some k → w'.heap[k]? = w.heap[k]?) : Own w' base e size s xs := by
  refine ⟨h.1, ?_⟩
  rcases h.2 with hn | ⟨g, cap, cur, hv, hb', hg, rest⟩
  · exact .inl hn
  · refine .inr ⟨g, cap, cur, hv, hb', ?_, rest⟩
    rw [hb g (by rw [hv]; rfl)]; exact hg

theorem Own.ext {w w' : World} {base : Nat} {e : TypeId} {size : Nat} {s : Sl} {xs : List Value} (h : Own w base e size s xs) (hE : Ext w w') : Own w' base e size s xs :=
  h.keep fun k hk => hE.same (h.blk k hk).2

class Flat (α : Type) extends RepP α where
  cells : α → List Value
  ok : α → Prop
  size : ∀ a, (cells a).length = sz
  one : ∀ a, ∀ v ∈ cells a, v.oneCell' = true
  repOk : ∀ {D w a}, ok a → rep D w (cells a) a
  ofRep : ∀ {D w cs a}, rep D w cs a → cs = cells a ∧ ok a

instance : Flat Int where
  cells n := [.int .i64 n]
  ok n := I64 n
  size _ := rfl
  one _ v hv := by simp at hv; subst hv; rfl
  repOk h := ⟨rfl, h⟩
  ofRep h := ⟨h.1, h.2⟩

instance : Flat Bool where
  cells n := [.bool n]
  ok _ := True
  size _ := rfl
  one _ v hv := by simp at hv; subst hv; rfl
  repOk _ := rfl
  ofRep h := ⟨h, trivial⟩

instance : Flat (Int × Int) where
  cells n := [.int .i64 n.1, .int .i64 n.2]
  ok n := I64 n.1 ∧ I64 n.2
  size _ := rfl
  one _ v hv := by simp at hv; rcases hv with rfl | rfl <;> rfl
  repOk h := ⟨rfl, h⟩
  ofRep h := ⟨h.1, h.2⟩

instance : Flat (Int × Int × Int × Int) where
  cells n := [.int .i64 n.1, .int .i64 n.2.1, .int .i64 n.2.2.1, .int .i64 n.2.2.2]
  ok n := I64 n.1 ∧ I64 n.2.1 ∧ I64 n.2.2.1 ∧ I64 n.2.2.2
  size _ := rfl
  one _ v hv := by simp at hv; rcases hv with rfl | rfl | rfl | rfl <;> rfl
  repOk h := ⟨rfl, h⟩
  ofRep h := ⟨h.1, h.2⟩

/-- The call's own slice s holds the list l. -/
def OwnL {α : Type} [Flat α] (w : World) (base : Nat) (e : TypeId) (s : Sl) (l : List α) : Prop :=
  s.len = l.length ∧ Own w base e (Rep.sz α) s (l.flatMap Flat.cells)

section
variable {α : Type} [Flat α] {w w' : World} {base : Nat} {e : TypeId} {s : Sl} {l : List α}

theorem flat_get (l : List α) {i j : Nat} {x : α} {v : Value} (hx : l[i]? = some x) (hv : (Flat.cells x)[j]? = some v) : (l.flatMap Flat.cells)[i * Rep.sz α + j]? = some v := by
  induction l generalizing i with
  | nil => cases hx
  | cons y r ih =>
    simp only [List.flatMap_cons]
    cases i with
    | zero =>
      simp at hx; subst hx
      have hlt := (List.getElem?_eq_some_iff.1 hv).1
      rw [List.getElem?_append_left (by simpa using hlt)]
      simpa using hv
    | succ i =>
      have hl : (Flat.cells y).length = Rep.sz α := Flat.size y
      rw [List.getElem?_append_right (by rw [hl, Nat.succ_mul]; omega), hl, show (i + 1) * Rep.sz α + j - Rep.sz α = i * Rep.sz α + j by rw [Nat.succ_mul]; omega]
      exact ih (by simpa using hx)

theorem OwnL.ext (h : OwnL w base e s l) (hE : Ext w w') : OwnL w' base e s l := ⟨h.1, h.2.ext hE⟩
theorem OwnL.keep (h : OwnL w base e s l) (hb : ∀ k, s.v.ownBlock = some k → w'.heap[k]? = w.heap[k]?) : OwnL w' base e s l := ⟨h.1, h.2.keep hb⟩
theorem OwnL.blk (h : OwnL w base e s l) : ∀ k, s.v.ownBlock = some k → base ≤ k ∧ k < w.heap.size := h.2.blk
theorem OwnL.nil (w : World) (base : Nat) (e : TypeId) : OwnL w base e ⟨none, 0, 0⟩ ([] : List α) := ⟨rfl, Own.nil _ _ _ _⟩

/-- What is owned reads as a list. -/
theorem OwnL.rep (h : OwnL w base e s l) (hok : ∀ x ∈ l, Flat.ok x) : SlR (fun b => base ≤ b) w s l := by
  obtain ⟨h1, h2⟩ := h
  refine ⟨h1, ?_, fun i x hx => ?_⟩
  · rcases h2.2 with ⟨hv, h0⟩ | ⟨g, cap, cur, hv, _, _, hle, hmx, _⟩
    · simp [Sl.v] at hv; omega
    · simp [Sl.v] at hv; obtain ⟨_, rfl⟩ := hv; exact ⟨hle, hmx⟩
  · rcases h2.2 with ⟨hv, h0⟩ | ⟨g, cap, cur, hv, hb, hg, hle, _, hsz, htake⟩
    · rw [h0] at h1; have : l = [] := by cases l; rfl; simp at h1
      subst this; cases hx
    · simp [Sl.v] at hv
      obtain ⟨ha, rfl⟩ := hv
      refine ⟨⟨g, 0, none⟩, Flat.cells x, ha, hb, Flat.repOk (hok x (List.mem_of_getElem? hx)), fun j v hj => ?_⟩
      have hown : w.ownsRow base e (Rep.sz α) s.v s.len (l.flatMap Flat.cells) := h2
      exact World.ownsRow.cells hown (g := g) (by simp [Sl.v, ha, Value.ownBlock]) _ v (flat_get l hx hj)

/-- The place of an element. -/
def Plc (s : Sl) (i size : Nat) (p : Addr) : Prop := ∃ a, s.a = some a ∧ p = a.add (i * size)

theorem IX_own (h : OwnL w base e s l) {i : Nat} (hi : i < l.length) {n : Nat} (hn : n = Rep.sz α) {K : Addr → Prop} (hk : ∀ p, Plc s i (Rep.sz α) p → K p) : IX s i n K := by
  subst hn
  rcases h.2.2 with ⟨hv, h0⟩ | ⟨g, cap, cur, hv, _⟩
  · rw [h.1] at h0; omega
  · simp [Sl.v] at hv
    exact ⟨_, hv.1, by omega, by rw [h.1]; omega, hk _ ⟨_, hv.1, by simp⟩⟩

end

theorem setMany_own {base : Nat} {e : TypeId} {size : Nat} {g n cap : Nat} : ∀ (vs : List Value) (i : Nat) (xs : List Value) (w : World) (K : World → Prop),
    w.ownsRow base e size (.slice (some ⟨g, 0, none⟩) n cap) n xs → (∀ v ∈ vs, v.oneCell' = true) → i + vs.length ≤ xs.length →
    (∀ w', w'.ownsRow base e size (.slice (some ⟨g, 0, none⟩) n cap) n (xs.take i ++ vs ++ xs.drop (i + vs.length)) → Step w w' (some g) → K w') → ∀ (a : Addr) (k : Nat), a.add k = ⟨g, i, none⟩ → ST a k vs w K
  | [], i, xs, w, K, h, _, hl, hk, a, k, _ => by
    refine hk w (by simpa using h) ⟨rfl, rfl, rfl, Nat.le_refl _, fun _ _ _ => rfl⟩
  | v :: vs, i, xs, w, K, h, h1, hl, hk, a, k, ha => by
    have hil : i < xs.length := by simp at hl; omega
    have hin : i < n * size := by rw [← h.1]; exact hil
    refine ⟨h1 v (by simp), ⟨xs[i], ?_⟩, ?_, ?_⟩
    · rw [ha, h.cellAt i hin]; simp [hil]
    · rw [ha]; exact h.frozenAt i
    · rw [ha]
      obtain ⟨hst, hgr⟩ := h.stored i v
      have hak : a.add (k + 1) = ⟨g, i + 1, none⟩ := by rw [← add_add, ha]; rfl
      refine setMany_own vs (i + 1) (xs.set i v) _ K hst (fun u hu => h1 u (by simp [hu])) (by simp at hl ⊢; omega) (fun w' hw' hs' => hk w' ?_ ?_) a (k + 1) hak
      · have e1 : (xs.set i v).take (i + 1) ++ vs ++ (xs.set i v).drop (i + 1 + vs.length) = xs.take i ++ v :: vs ++ xs.drop (i + (v :: vs).length) := by
          rw [List.drop_set_of_lt (by omega), List.take_set, List.take_succ_eq_append_getElem hil, List.set_append_right _ _ (by simp; omega)]
          simp [Nat.min_eq_left (Nat.le_of_lt hil), Nat.add_assoc, Nat.add_comm 1]
        rw [← e1]; exact hw'
      · refine ⟨hs'.os.trans hgr.os, hs'.tape.trans hgr.tape, hs'.output.trans hgr.output, Nat.le_trans hgr.size hs'.size, fun b hb hne => ?_⟩
        rw [hs'.block b (Nat.lt_of_lt_of_le hb hgr.size) hne, hgr.block b hb hne]

theorem flat_set {α : Type} [Flat α] (l : List α) {i : Nat} (hi : i < l.length) (x : α) :
    (l.set i x).flatMap Flat.cells = (l.flatMap Flat.cells).take (i * Rep.sz α) ++ Flat.cells x ++ (l.flatMap Flat.cells).drop (i * Rep.sz α + (Flat.cells x).length) := by
  have hl : ∀ y : α, (Flat.cells y).length = Rep.sz α := Flat.size
  induction l generalizing i with
  | nil => simp at hi
  | cons y r ih =>
    cases i with
    | zero => simp [hl]
    | succ i =>
      have := ih (i := i) (by simpa using hi)
      simp only [List.set_cons_succ, List.flatMap_cons, this, hl]
      rw [show (i + 1) * Rep.sz α = Rep.sz α + i * Rep.sz α by rw [Nat.succ_mul, Nat.add_comm]]
      have e1 : (Flat.cells y ++ List.flatMap Flat.cells r).take (Rep.sz α + i * Rep.sz α) = Flat.cells y ++ (List.flatMap Flat.cells r).take (i * Rep.sz α) := by
        rw [← hl y, List.take_length_add_append]
      have e2 : (Flat.cells y ++ List.flatMap Flat.cells r).drop (Rep.sz α + i * Rep.sz α + Rep.sz α) = (List.flatMap Flat.cells r).drop (i * Rep.sz α + Rep.sz α) := by
        rw [Nat.add_assoc, ← hl y, List.drop_length_add_append]
      rw [e1, e2]
      simp

section
variable {α : Type} [Flat α] {w w' : World} {base : Nat} {e : TypeId} {s : Sl} {l : List α}

/-- A store into the call's own slice. -/
theorem ST_own (h : OwnL w base e s l) {i : Nat} (hi : i < l.length) {p : Addr} (hp : Plc s i (Rep.sz α) p) (x : α) {vs : List Value} (hvs : vs = Flat.cells x) {K : World → Prop}
    (hk : ∀ w', OwnL w' base e s (l.set i x) → Step w w' s.v.ownBlock → K w') : ST p 0 vs w K := by
  subst hvs
  obtain ⟨a, ha, rfl⟩ := hp
  rcases h.2.2 with ⟨hv, h0⟩ | ⟨g, cap, cur, hv, _⟩
  · rw [h.1] at h0; omega
  · have hv' := hv
    simp [Sl.v] at hv
    obtain ⟨hsa, rfl⟩ := hv
    rw [hsa] at ha; cases ha
    have hown : w.ownsRow base e (Rep.sz α) (.slice (some ⟨g, 0, none⟩) s.len s.cap) s.len (l.flatMap Flat.cells) := by
      have := h.2; unfold Own at this; rw [hv'] at this; exact this
    have hlen : (l.flatMap Flat.cells).length = l.length * Rep.sz α := by have := h.2.length; rwa [h.1] at this
    have hcl : (Flat.cells x).length = Rep.sz α := Flat.size x
    refine setMany_own (Flat.cells x) (i * Rep.sz α) _ w K hown (Flat.one x) ?_ (fun w' hw' hs => hk w' ⟨by simp [h.1], ?_⟩ (by rw [hv']; exact hs)) _ 0 (by rw [add_zero']; simp only [Addr.add]; split <;> simp_all)
    · rw [hlen, hcl]
      have : (i + 1) * Rep.sz α ≤ l.length * Rep.sz α := Nat.mul_le_mul_right _ hi
      rw [Nat.succ_mul] at this; omega
    · unfold Own
      rw [hv', flat_set l hi x]
      exact hw'
end

/-! ### Literals and append -/

theorem foldl_sets : ∀ (l : List Value) (k : Nat) (ys : List Value), k + l.length ≤ ys.length →
    (l.zipIdx k).foldl (fun (cs : List Value) x => cs.set (0 + x.2) x.1) ys = ys.take k ++ l ++ ys.drop (k + l.length)
  | [], k, ys, h => by simp
  | v :: l, k, ys, h => by
    have hk : k < ys.length := by simp at h; omega
    simp only [List.zipIdx_cons, List.foldl_cons]
    rw [foldl_sets l (k + 1) _ (by simp at h ⊢; omega)]
    rw [Nat.zero_add, List.drop_set_of_lt (by omega), List.take_set, List.take_succ_eq_append_getElem hk, List.set_append_right _ _ (by simp; omega)]
    simp [Nat.min_eq_left (Nat.le_of_lt hk), Nat.add_assoc, Nat.add_comm 1]

theorem fill_one (arr : Array Value) (v : Value) (sz : Nat) (h1 : arr.size = sz) (h2 : v.cells.size = sz) : Instr.fill (fun i => some (i * sz, sz)) arr [(0, v)] = some v.cells := by
  simp only [Instr.fill, Nat.zero_mul]
  rw [if_neg (by simp [h1, h2])]
  congr 1
  apply Array.ext'
  rw [← Array.foldl_toList]
  have : ∀ (l : List (Value × Nat)) (a : Array Value), (l.foldl (fun (cs : Array Value) x => cs.setIfInBounds (0 + x.2) x.1) a).toList = l.foldl (fun (cs : List Value) x => cs.set (0 + x.2) x.1) a.toList := by
    intro l
    induction l with
    | nil => intro a; rfl
    | cons x r ih => intro a; simp only [List.foldl_cons]; rw [ih]; simp
  have e : v.cells.zipIdx.toList = v.cells.toList.zipIdx 0 := by simp
  rw [e, this, foldl_sets _ _ _ (by simp; omega)]
  simp
  omega

/-- A literal of one element: []T{x}. -/
theorem RUN_lit1 {α : Type} [Flat α] {P : Program} {t e : TypeId} {bytes : Nat} {z v : Value} (hT : SlT P t e (Rep.sz α) bytes z) (x : α) (hv : v.cells.toList = Flat.cells x) (hs : Rep.sz α ≤ 1000) {w : World} {K : Sl → World → Prop}
    (hk : ∀ s w', Ext w w' → OwnL w' w.heap.size e s [x] → K s w') : RUN P (.at .sl) (Instr.buildSlice t 1 #[(0, v)]) w K := by
  obtain ⟨i, hi, hz0, hsz, hby⟩ := hT.parts
  have hvs : v.cells.size = Rep.sz α := by rw [← Array.length_toList, hv, Flat.size]
  have hr := run_buildSlice (P := P) w t e 1 #[(0, v)] v.cells i z hT.under hi hz0 (by rw [hsz]; omega) (by rw [hsz]; have := hT.pos; omega) (by rw [hsz]; exact fill_one _ v _ (by simp) hvs)
  unfold RUN
  rw [hr]
  refine hk ⟨some ⟨w.heap.size, 0, none⟩, 1, 1⟩ _ (ext_push w _) ⟨rfl, ?_⟩
  have := World.ownsRow_lit (base := w.heap.size) (e := e) (size := Rep.sz α) w v.cells 1 (Nat.le_refl _) (by unfold maxLen; omega) (by rw [hvs]; omega)
  unfold Own
  simpa [hv] using this

/-- The cells of a slice that reads as a list. -/
theorem SlR.flat {α : Type} [Flat α] {D : Nat → Prop} {w : World} {y : Sl} {m : List α} (h : SlR D w y m) {a : Addr} (ha : y.a = some a) : ∀ j u, (m.flatMap Flat.cells)[j]? = some u → w.cell? (a.add j) = some u := by
  intro j u hu
  have hpos : 0 < Rep.sz α := RepP.pos
  have hlen : (m.flatMap Flat.cells).length = m.length * Rep.sz α := by
    clear hu h
    induction m with
    | nil => simp
    | cons x r ih => rw [List.flatMap_cons, List.length_append, ih, Flat.size x, List.length_cons, Nat.succ_mul, Nat.add_comm]
  have hj : j < m.length * Rep.sz α := by rw [← hlen]; exact (List.getElem?_eq_some_iff.1 hu).1
  have hi : j / Rep.sz α < m.length := (Nat.div_lt_iff_lt_mul hpos).2 hj
  obtain ⟨a', cs, ha', _, hr, hc⟩ := h.2.2 (j / Rep.sz α) m[j / Rep.sz α] (by simp [hi])
  rw [ha] at ha'; cases ha'
  obtain ⟨rfl, _⟩ := Flat.ofRep hr
  have hmod : j % Rep.sz α < (Flat.cells m[j / Rep.sz α]).length := by rw [Flat.size]; exact Nat.mod_lt _ hpos
  have h2 : (Flat.cells m[j / Rep.sz α])[j % Rep.sz α]? = some (Flat.cells m[j / Rep.sz α])[j % Rep.sz α] := by simp [hmod]
  have h3 := flat_get m (i := j / Rep.sz α) (by simp [hi]) h2
  rw [Nat.div_add_mod' j (Rep.sz α), hu] at h3
  cases h3
  have := hc _ _ h2
  rwa [Nat.div_add_mod' j (Rep.sz α)] at this

/-- What a slice became by appending lies in the same block or in a new one. -/
def NewOr (w : World) (s s' : Sl) : Prop := s'.v.ownBlock = s.v.ownBlock ∨ ∀ k, s'.v.ownBlock = some k → w.heap.size ≤ k

/-- append(s, y...) on a slice of the call's own; what is appended reads as a list. -/
theorem RUN_appendF {α : Type} [Flat α] {P : Program} {t e : TypeId} {bytes : Nat} {z : Value} (hT : SlT P t e (Rep.sz α) bytes z) {w : World} {base : Nat} {s y : Sl} {l m : List α} (h : OwnL w base e s l) (hbase : base ≤ w.heap.size)
    {D : Nat → Prop} (hy : SlR D w y m) (hlen : (l.length + m.length) * bytes ≤ 140737488355328) (hmax : l.length + m.length ≤ maxLen) {K : Sl → World → Prop}
    (hk : ∀ s' w', OwnL w' base e s' (l ++ m) → Step w w' s.v.ownBlock → NewOr w s s' → K s' w') : RUN P (.at .sl) (bsem .append #[t, t] t #[s.v, y.v]) w K := by
  obtain ⟨i, hi, hz0, hsz, hby⟩ := hT.parts
  have hyl : (m.flatMap Flat.cells).length = m.length * Rep.sz α := by
    clear hy hlen hmax hk
    induction m with
    | nil => simp
    | cons x r ih => rw [List.flatMap_cons, List.length_append, ih, Flat.size x, List.length_cons, Nat.succ_mul, Nat.add_comm]
  have hone : ∀ u ∈ m.flatMap Flat.cells, u.oneCell' = true := by
    intro u hu
    obtain ⟨x, _, hx⟩ := List.mem_flatMap.1 hu
    exact Flat.one x u hx
  have hown : w.ownsRow base e (Rep.sz α) s.v l.length (l.flatMap Flat.cells) := by have := h.2; unfold Own at this; rwa [h.1] at this
  have fin : ∀ v' w', (Builtin.append_ #[t, t] t #[s.v, y.v]).run P w = .ok v' w' → w'.ownsRow base e (Rep.sz α) v' (l.length + m.length) (l.flatMap Flat.cells ++ m.flatMap Flat.cells) → Step w w' s.v.ownBlock → (v'.ownBlock = s.v.ownBlock ∨ ∀ k, v'.ownBlock = some k → w.heap.size ≤ k) → RUN P (.at .sl) (bsem .append #[t, t] t #[s.v, y.v]) w K := by
    intro v' w' hr ho hst hnw
    have hsl : ∃ s' : Sl, v' = s'.v ∧ s'.len = l.length + m.length := by
      rcases ho.2 with ⟨rfl, h0⟩ | ⟨g', cap', cur', rfl, _⟩
      · exact ⟨⟨none, 0, 0⟩, rfl, h0.symm⟩
      · exact ⟨⟨some ⟨g', 0, none⟩, l.length + m.length, cap'⟩, rfl, rfl⟩
    obtain ⟨s', rfl, hs'⟩ := hsl
    unfold RUN
    show (match (Builtin.append_ #[t, t] t #[s.v, y.v]).run P w with | .ok v w' => _ | .halt _ _ => False)
    rw [hr]
    refine hk s' w' ⟨by simp [hs'], ?_⟩ hst hnw
    unfold Own
    rw [hs', List.flatMap_append]
    exact ho
  cases hya : y.a with
  | none =>
    have hm : m = [] := by
      cases m with
      | nil => rfl
      | cons x r => obtain ⟨a, _, ha, _⟩ := hy.2.2 0 x rfl; rw [hya] at ha; cases ha
    subst hm
    have hyv : y.v = .slice none 0 y.cap := by have := hy.1; simp at this; simp [Sl.v, hya, this]
    refine fin s.v w ?_ (by simpa using hown) (Step.refl _ _) (.inl rfl)
    rw [hyv]
    obtain ⟨sa, sl, sc⟩ := s
    have hle : sl ≤ sc := by
      rcases hown.2 with ⟨h0, h1⟩ | ⟨g, cap, cur, h0, _, _, h1, _⟩
      · simp [Sl.v] at h0; omega
      · simp [Sl.v] at h0; omega
    cases sa <;> simp [Builtin.append_, underlying_run hT.under, sizeOf_run hi, Builtin.lenOf, hle, Builtin.firstCells, storeCells]
  | some a =>
    have hyv : y.v = .slice (some a) m.length y.cap := by rw [← hy.1]; simp [Sl.v, hya]
    obtain ⟨v', w', hr, ho, hg, _⟩ := run_append_own (P := P) w base t t e i z (Rep.sz α) bytes hT.under hi hz0 hsz hby hT.zs hT.pos s.v l.length _ hown a m.length y.cap (m.flatMap Flat.cells) hyl (hy.flat hya) hone hmax hlen hbase
    refine fin v' w' (by rw [hyv]; exact hr) ho (Step.of_grown hg) ?_
    rcases hown.2 with ⟨h0, h1⟩ | ⟨g, cap, cur, h0, hbg, hgg, hnc, hcm, hcs, htake⟩
    · right
      have hown' : w.ownsRow w.heap.size e (Rep.sz α) s.v l.length (l.flatMap Flat.cells) := ⟨hown.1, .inl ⟨h0, h1⟩⟩
      obtain ⟨v2, w2, hr2, ho2, _⟩ := run_append_own (P := P) w w.heap.size t t e i z (Rep.sz α) bytes hT.under hi hz0 hsz hby hT.zs hT.pos s.v l.length _ hown' a m.length y.cap (m.flatMap Flat.cells) hyl (hy.flat hya) hone hmax hlen (Nat.le_refl _)
      rw [hr] at hr2
      cases hr2
      exact fun k hk => (World.ownsRow.lt ho2 k hk).1
    · have hyl' : (m.flatMap Flat.cells).length = m.length * i.size := by rw [hsz]; exact hyl
      have hol' : (l.flatMap Flat.cells).length = l.length * i.size := by rw [hsz]; exact hown.1
      subst hby
      rw [h0] at hr ⊢
      by_cases hroom : l.length + m.length ≤ cap
      · left
        have hr2 := run_append_room (P := P) w t t e i hT.under hi g l.length cap cur hgg a m.length y.cap (m.flatMap Flat.cells) hyl' (hy.flat hya) hone hroom (by rw [hyl, hcs, hsz, ← Nat.add_mul]; exact Nat.mul_le_mul_right _ hroom)
        rw [hr] at hr2
        cases hr2
        rfl
      · right
        have hr2 := run_append_grow (P := P) w t t e i z hT.under hi hz0 ⟨g, 0, none⟩ l.length cap (l.flatMap Flat.cells) hol' (hown.cells (g := g) (by rw [h0]; rfl)) a m.length y.cap (m.flatMap Flat.cells) hyl' (hy.flat hya) (by omega) (by simp only [maxLen] at hmax; omega) (growslice_fits (by simp only [maxLen] at hmax; omega) hlen)
        rw [hr] at hr2
        cases hr2
        intro k hk
        simp [Value.ownBlock] at hk
        omega

theorem RUN_append {α : Type} [Flat α] {P : Program} {t e : TypeId} {bytes : Nat} {z : Value} (hT : SlT P t e (Rep.sz α) bytes z) {w : World} {base : Nat} {s y : Sl} {l m : List α} (h : OwnL w base e s l) (hbase : base ≤ w.heap.size)
    {D : Nat → Prop} (hy : SlR D w y m) (hlen : (l.length + m.length) * bytes ≤ 140737488355328) (hmax : l.length + m.length ≤ maxLen) {K : Sl → World → Prop}
    (hk : ∀ s' w', OwnL w' base e s' (l ++ m) → Step w w' s.v.ownBlock → K s' w') : RUN P (.at .sl) (bsem .append #[t, t] t #[s.v, y.v]) w K :=
  RUN_appendF hT h hbase hy hlen hmax fun s' w' h1 h2 _ => hk s' w' h1 h2

/-- A slice's first elements. -/
theorem SlR.take {α : Type} [RepP α] {D : Nat → Prop} {w : World} {s : Sl} {l : List α} (h : SlR D w s l) {i : Nat} (hi : i ≤ l.length) {sz : Nat} (_ : sz = Rep.sz α) {K : Sl → Prop} (hk : ∀ s', SlR D w s' (l.take i) → K s') : SLC s none (some (i : Int)) sz K := by
  have h1 := h.1
  have h2 := h.2.1
  refine ⟨by simp, by simp, by simp; omega, hk _ ⟨by simp; omega, by simp; omega, fun j x hx => ?_⟩⟩
  rw [List.getElem?_take] at hx
  split at hx
  · obtain ⟨a, cs, ha, hb, hr, hc⟩ := h.2.2 j x hx
    refine ⟨a, cs, ?_, hb, hr, hc⟩
    simp [ha, add_zero']
  · cases hx

/-- Slices as elements. -/
instance : Rep Sl where
  sz := 1
  rep _ _ cs s := cs = [s.v]
  len h := by rw [h]; rfl
  agr _ h := h
  weak _ h := h
instance : RepP Sl := ⟨by decide⟩
instance : Flat Sl where
  cells s := [s.v]
  ok _ := True
  size _ := rfl
  one _ v hv := by simp at hv; subst hv; rfl
  repOk _ := rfl
  ofRep h := ⟨h, trivial⟩

/-- The call's own slice of slices reads as a list of lists. -/
theorem OwnL.rows {α : Type} [RepP α] {D : Nat → Prop} {w : World} {base : Nat} {e : TypeId} {s : Sl} {ss : List Sl} {l : List (List α)} (h : OwnL w base e s ss) (hlen : ss.length = l.length)
    (hr : ∀ i (h1 : i < ss.length) (h2 : i < l.length), SlR D w ss[i] l[i]) (hD : ∀ b, base ≤ b → D b) : SlR D w s l := by
  have h0 := h.rep (fun _ _ => trivial)
  refine ⟨by rw [h0.1, hlen], h0.2.1, fun i x hx => ?_⟩
  obtain ⟨h2, rfl⟩ := List.getElem?_eq_some_iff.1 hx
  have h1 : i < ss.length := by omega
  obtain ⟨a, cs, ha, hb, hcs, hc⟩ := h0.2.2 i ss[i] (by simp [h1])
  have hcs' : cs = [ss[i].v] := hcs
  subst hcs'
  exact ⟨a, _, ha, hD _ hb, ⟨ss[i], rfl, hr i h1 h2⟩, hc⟩


/-! ### Boxes -/

section
variable {w : World} {p : Addr} {t : TypeId}

theorem LD_box3 {x y z : Sl} {r : List Value} {K : Sl → Sl → Sl → Prop} (hb : Box w p t (x.v :: y.v :: z.v :: r)) (hk : K x y z) : LD [.sl, .sl, .sl] p w K :=
  LD_sl3 (hb.cell (i := 0) rfl) (hb.cell (i := 1) rfl) (hb.cell (i := 2) rfl) hk
theorem LD_bs0 {x : Sl} {r : List Value} {K : Sl → Prop} (hb : Box w p t (x.v :: r)) (hk : K x) : LD [.sl] (p.add 0) w K := LD_sl (hb.cell (i := 0) rfl) hk
theorem LD_bs1 {x : Sl} {v0 : Value} {r : List Value} {K : Sl → Prop} (hb : Box w p t (v0 :: x.v :: r)) (hk : K x) : LD [.sl] (p.add 1) w K := LD_sl (hb.cell (i := 1) rfl) hk
theorem LD_bs2 {x : Sl} {v0 v1 : Value} {r : List Value} {K : Sl → Prop} (hb : Box w p t (v0 :: v1 :: x.v :: r)) (hk : K x) : LD [.sl] (p.add 2) w K := LD_sl (hb.cell (i := 2) rfl) hk
theorem LD_bi0 {x : Int} {r : List Value} {K : Int → Prop} (hb : Box w p t (.int .i64 x :: r)) (hk : K x) : LD [.int .i64] (p.add 0) w K := LD_int (hb.cell (i := 0) rfl) hk
theorem LD_bi1 {x : Int} {v0 : Value} {r : List Value} {K : Int → Prop} (hb : Box w p t (v0 :: .int .i64 x :: r)) (hk : K x) : LD [.int .i64] (p.add 1) w K := LD_int (hb.cell (i := 1) rfl) hk
theorem LD_box2 {x y : Int} {r : List Value} {K : Int → Int → Prop} (hb : Box w p t (.int .i64 x :: .int .i64 y :: r)) (hk : K x y) : LD [.int .i64, .int .i64] p w K :=
  LD_int2 (hb.cell (i := 0) rfl) (hb.cell (i := 1) rfl) hk
end

theorem ST_box {p : Addr} {t : TypeId} : ∀ (vs : List Value) (i : Nat) (cs : List Value) (w : World) (K : World → Prop), Box w p t cs → (∀ v ∈ vs, v.oneCell' = true) → i + vs.length ≤ cs.length →
    (∀ w', Step w w' (some p.block) → w'.heap.size = w.heap.size → Box w' p t (cs.take i ++ vs ++ cs.drop (i + vs.length)) → K w') → ST p i vs w K
  | [], i, cs, w, K, hb, _, _, hk => hk w (Step.refl _ _) rfl (by simpa using hb)
  | v :: vs, i, cs, w, K, hb, h1, hl, hk => by
    have hi : i < cs.length := by simp at hl; omega
    refine ⟨h1 v (by simp), ⟨cs[i], hb.cell (by simp [hi])⟩, hb.frozen i, ?_⟩
    refine ST_box vs (i + 1) (cs.set i v) _ K (hb.set i v) (fun u hu => h1 u (by simp [hu])) (by simp at hl ⊢; omega) fun w' hs hsz hb' => hk w' ?_ ?_ ?_
    · have h0 : Step w (w.setCell (p.add i) v) (some p.block) := ⟨rfl, rfl, rfl, by rw [setCell_size]; exact Nat.le_refl _, fun k _ hne => setCell_other _ _ _ (by rw [add_block]; intro he; exact hne (by rw [he]))⟩
      exact h0.trans hs
    · rw [hsz, setCell_size]
    · have e1 : (cs.set i v).take (i + 1) ++ vs ++ (cs.set i v).drop (i + 1 + vs.length) = cs.take i ++ v :: vs ++ cs.drop (i + (v :: vs).length) := by
        rw [List.drop_set_of_lt (by omega), List.take_set, List.take_succ_eq_append_getElem hi, List.set_append_right _ _ (by simp; omega)]
        simp [Nat.min_eq_left (Nat.le_of_lt hi), Nat.add_assoc, Nat.add_comm 1]
      rw [← e1]; exact hb'

/-- All cells of a box. -/
theorem ST_all {w : World} {p : Addr} {t : TypeId} {cs vs : List Value} {K : World → Prop} (hb : Box w p t cs) (h1 : ∀ v ∈ vs, v.oneCell' = true) (hl : vs.length = cs.length)
    (hk : ∀ w', Step w w' (some p.block) → w'.heap.size = w.heap.size → Box w' p t vs → K w') : ST p 0 vs w K :=
  ST_box vs 0 cs w K hb h1 (by omega) fun w' h2 h3 h4 => hk w' h2 h3 (by simpa [List.drop_of_length_le (Nat.le_of_eq hl.symm)] using h4)

/-- A new variable that is filled at once. -/
theorem NEW_ST {t : TypeId} {zs vs : List Value} {w : World} {K : Addr → World → Prop} (h1 : ∀ v ∈ vs, v.oneCell' = true) (hl : vs.length = zs.length)
    (hk : ∀ p w', p.block = w.heap.size → Ext w w' → Box w' p t vs → K p w') : NEW t ⟨zs⟩ w fun p w1 => ST p 0 vs w1 fun w2 => K p w2 :=
  NEW_intro fun p w1 hp hsz hE hb => ST_all hb h1 hl fun w2 hs _ hb2 => hk p w2 hp (hs.ext0 hE (fun k hk => by cases hk; omega)) hb2

theorem one2 (x y : Int) : ∀ v ∈ [Value.int .i64 x, .int .i64 y], v.oneCell' = true := by intro v hv; simp at hv; rcases hv with rfl | rfl <;> rfl
theorem one3 (x y z : Sl) : ∀ v ∈ [x.v, y.v, z.v], v.oneCell' = true := by intro v hv; simp at hv; rcases hv with rfl | rfl | rfl <;> rfl
/-! ### Structs of numbers compared -/

def intFieldsOk (P : Program) : Nat → List Field → Bool
  | _, [] => true
  | k, f :: fs => f.name != "_" && (match P.underlying f.type with | some (.int _) => true | _ => false) && f.offset == k && intFieldsOk P (k + 1) fs

/-- A struct type of n fields, each a number: '==' goes field by field. -/
def intStruct (P : Program) (t : TypeId) (n : Nat) : Bool :=
  intFieldsOk P 0 (P.fieldsOf t).toList && (P.fieldsOf t).size == n && (match P.underlying t with | some (.struct _) => true | _ => false) && !P.stoodInHeld t && !P.eqGuardType P.depth t

theorem eqFields_run {P : Program} (w : World) (d : Nat) (xs ys : List Int) : ∀ (fs : List Field) (k : Nat), intFieldsOk P k fs = true → k + fs.length = xs.length → xs.length = ys.length →
    (Op.eqFields (d + 1) ⟨xs.map (Value.int .i64)⟩ ⟨ys.map (Value.int .i64)⟩ fs).run P w = .ok (xs.drop k == ys.drop k) w
  | [], k, _, hk, hl => by
    have h1 : xs.drop k = [] := List.drop_of_length_le (by simp at hk; omega)
    have h2 : ys.drop k = [] := List.drop_of_length_le (by simp at hk; omega)
    rw [h1, h2]; simp [Op.eqFields]
  | f :: fs, k, h, hk, hl => by
    simp only [intFieldsOk, Bool.and_eq_true, bne_iff_ne, beq_iff_eq] at h
    obtain ⟨⟨⟨hn, hu⟩, ho⟩, hr⟩ := h
    simp at hk
    have hx : k < xs.length := by omega
    have hy : k < ys.length := by omega
    cases hu' : P.underlying f.type with
    | none => rw [hu'] at hu; cases hu
    | some u =>
      rw [hu'] at hu
      cases u with
      | int kk =>
        have hp : ∀ (zs : List Int) (hz : k < zs.length) (w : World), (part f.type ⟨zs.map (Value.int .i64)⟩ f.offset).run P w = .ok (.int .i64 zs[k]) w := fun zs hz w => by
          simp [part, isAgg, underlying_run hu', ho, hz]
        have ih := eqFields_run (P := P) w d xs ys fs (k + 1) hr (by omega) hl
        have hd : (xs.drop k == ys.drop k) = (xs[k] == ys[k] && (xs.drop (k + 1) == ys.drop (k + 1))) := by
          rw [List.drop_eq_getElem_cons hx, List.drop_eq_getElem_cons hy, List.cons_beq_cons]
        rw [hd]
        simp only [Op.eqFields, ne_eq, hn, not_false_eq_true, if_true, Sem.run_bind, hp xs hx, hp ys hy, Result.andThen_ok, run_equalIn_int w d f.type .i64 kk _ _ hu']
        by_cases he : xs[k] = ys[k]
        · simp [he, ih]
        · simp [he]
      | _ => cases hu

theorem intStruct_eq {P : Program} {t : TypeId} {xs ys : List Int} (h : intStruct P t xs.length = true) (hl : xs.length = ys.length) (w : World) :
    (Op.equalIn 10000 t (.agg ⟨xs.map (Value.int .i64)⟩) (.agg ⟨ys.map (Value.int .i64)⟩)).run P w = .ok (xs == ys) w := by
  simp only [intStruct, Bool.and_eq_true, Bool.not_eq_true', beq_iff_eq] at h
  obtain ⟨⟨⟨⟨h1, h2⟩, h3⟩, h4⟩, _⟩ := h
  have hu : P.underlying t = some (.struct (P.fieldsOf t)) := by
    unfold Program.fieldsOf
    cases hx : P.underlying t with
    | none => rw [hx] at h3; cases h3
    | some u => rw [hx] at h3; cases u <;> first | rfl | cases h3
  rw [show (10000 : Nat) = 9999 + 1 from rfl, run_equalIn_agg w 9999 t _ _ hu h4]
  have := eqFields_run (P := P) w 9998 xs ys (P.fieldsOf t).toList 0 h1 (by simp [h2]) hl
  simpa using this

theorem intStruct_guard {P : Program} {t : TypeId} {n : Nat} (h : intStruct P t n = true) : P.eqGuardType P.depth t = false := by
  simp only [intStruct, Bool.and_eq_true, Bool.not_eq_true'] at h
  exact h.2

theorem AEQ_neq2 {P : Program} {t : TypeId} (h : intStruct P t 2 = true) {x y : Operand} {a b c d : Int} {K : Bool → Prop} (hk : K (!decide ((a, b) = (c, d)))) :
    AEQ P (do eqGuard .neq t x y (.agg #[.int .i64 a, .int .i64 b]) (.agg #[.int .i64 c, .int .i64 d]); binOp .neq t (.agg #[.int .i64 a, .int .i64 b]) (.agg #[.int .i64 c, .int .i64 d])) K :=
  ⟨_, fun w => by
    have := intStruct_eq (xs := [a, b]) (ys := [c, d]) h rfl w
    simp only [List.map_cons, List.map_nil] at this
    rw [Sem.run_bind, run_eqGuard_agg w .neq t x y _ _ (intStruct_guard h), Result.andThen_ok, run_neq_struct w t, this, Result.andThen_ok]
    by_cases h1 : a = c <;> by_cases h2 : b = d <;> simp [h1, h2], hk⟩

/-! ### Loops with an accumulator ahead of the index -/

def IN2 {α : Type} (N : Nat) (I : Nat → α → World → Prop) (a : α) (x : Int) (w : World) : Prop := ∃ i : Nat, x = i ∧ i ≤ N ∧ I i a w
def MN2 {α : Type} (N : Nat) (_ : α) (x : Int) (_ : World) : Nat := N - x.toNat

theorem IN2_zero {α : Type} {N : Nat} {I : Nat → α → World → Prop} {a : α} {w : World} (h : I 0 a w) : IN2 N I a 0 w := ⟨0, rfl, Nat.zero_le _, h⟩

theorem IN2_next {α : Type} {N i : Nat} {I : Nat → α → World → Prop} {a a' : α} {w w' : World} (hN : N ≤ 9223372036854775807) (hi : i < N) (h : I (i + 1) a w) :
    IN2 N I a (IntKind.i64.wrap ((i : Int) + 1)) w ∧ MN2 N a (IntKind.i64.wrap ((i : Int) + 1)) w < MN2 N a' i w' := by
  rw [wrap_of (by omega) (by omega)]
  exact ⟨⟨i + 1, by omega, hi, h⟩, by unfold MN2; omega⟩

theorem Ext.ext {a b c : World} (h : Ext a b) (hE : Ext b c) : Ext a c := h.trans hE

theorem OwnL.low {α : Type} [Flat α] {w : World} {base base' : Nat} {e : TypeId} {s : Sl} {l : List α} (h : OwnL w base e s l) (hb : base' ≤ base) : OwnL w base' e s l := by
  refine ⟨h.1, h.2.1, ?_⟩
  rcases h.2.2 with h1 | ⟨g, cap, cur, h1, h2, h3⟩
  · exact .inl h1
  · exact .inr ⟨g, cap, cur, h1, Nat.le_trans hb h2, h3⟩

/-! ### Literals of several one-cell elements -/

/-! ### Own lists of own lists -/

theorem OwnL.type {α : Type} [Flat α] {w : World} {base : Nat} {e : TypeId} {s : Sl} {l : List α} (h : OwnL w base e s l) {k : Nat} (hk : s.v.ownBlock = some k) : ∃ cs, w.heap[k]? = some (.cells cs e (0, 0)) := by
  rcases h.2.2 with ⟨h1, _⟩ | ⟨g, cap, cur, h1, _, h3, _⟩
  · rw [h1] at hk; cases hk
  · rw [h1] at hk
    cases hk
    exact ⟨cur, h3⟩

/-- A list of another element type is not touched. -/
theorem OwnL.step {α β : Type} [Flat α] [Flat β] {w w' : World} {base base' : Nat} {e e' : TypeId} {s s' : Sl} {l : List α} {l' : List β} (h : OwnL w base e s l) (h' : OwnL w base' e' s' l') (he : e ≠ e') (hs : Step w w' s'.v.ownBlock) : OwnL w' base e s l :=
  h.keep fun k hk => by
    refine hs.block k (h.blk k hk).2 fun hk' => ?_
    obtain ⟨c1, h1⟩ := h.type hk
    obtain ⟨c2, h2⟩ := h'.type hk'.symm
    rw [h1] at h2
    cases h2
    exact he rfl

def Own2 {α : Type} [Flat α] (w : World) (base : Nat) (e e' : TypeId) (s : Sl) (ls : List (List α)) : Prop :=
  ∃ ss : List Sl, OwnL w base e' s ss ∧ ss.length = ls.length ∧ ∀ (i : Nat) (r : Sl) (l : List α), ss[i]? = some r → ls[i]? = some l → OwnL w base e r l

section
variable {α : Type} [Flat α] {w w' : World} {base : Nat} {e e' : TypeId} {s : Sl} {ls : List (List α)}
theorem Own2.nil (w : World) (base : Nat) (e e' : TypeId) : Own2 w base e e' ⟨none, 0, 0⟩ ([] : List (List α)) := ⟨[], OwnL.nil _ _ _, rfl, fun i r l h => by simp at h⟩
theorem Own2.ext (h : Own2 w base e e' s ls) (hE : Ext w w') : Own2 w' base e e' s ls := by
  obtain ⟨ss, h1, h2, h3⟩ := h
  exact ⟨ss, h1.ext hE, h2, fun i r l hr hl => (h3 i r l hr hl).ext hE⟩
theorem Own2.low (h : Own2 w base e e' s ls) {b : Nat} (hb : b ≤ base) : Own2 w b e e' s ls := by
  obtain ⟨ss, h1, h2, h3⟩ := h
  exact ⟨ss, h1.low hb, h2, fun i r l hr hl => (h3 i r l hr hl).low hb⟩
theorem Own2.blk (h : Own2 w base e e' s ls) : ∀ k, s.v.ownBlock = some k → base ≤ k ∧ k < w.heap.size := by
  obtain ⟨ss, h1, _⟩ := h
  exact h1.blk
theorem Own2.repD (h : Own2 w base e e' s ls) (hok : ∀ l ∈ ls, ∀ x ∈ l, Flat.ok x) : SlR (fun b => base ≤ b) w s ls := by
  obtain ⟨ss, h1, h2, h3⟩ := h
  refine (OwnL.rows h1 h2 (fun i hi hj => ?_) (fun _ hb => hb))
  exact (h3 i ss[i] ls[i] (by simp [hi]) (by simp [hj])).rep (hok _ (List.getElem_mem hj))
theorem Own2.rep (h : Own2 w base e e' s ls) (hok : ∀ l ∈ ls, ∀ x ∈ l, Flat.ok x) : R w s ls := (h.repD hok).any
theorem Own2.keep (h : Own2 w base e e' s ls) (hk : ∀ k, base ≤ k → k < w.heap.size → w'.heap[k]? = w.heap[k]?) : Own2 w' base e e' s ls := by
  obtain ⟨ss, h1, h2, h3⟩ := h
  exact ⟨ss, h1.keep fun k hb => hk k (h1.blk k hb).1 (h1.blk k hb).2, h2, fun i r l hr hl => (h3 i r l hr hl).keep fun k hb => hk k ((h3 i r l hr hl).blk k hb).1 ((h3 i r l hr hl).blk k hb).2⟩
end

/-! ### Rows of a list of lists, as they were in an earlier world -/

/-! ### Changes within a set of blocks -/

theorem Chg.of_step {w w' : World} {g : Option Nat} {D : Nat → Prop} (h : Step w w' g) (hg : ∀ k, g = some k → D k) : Chg w w' D :=
  ⟨h.os, h.tape, h.output, h.size, fun k hk hD => h.block k hk (fun he => hD (hg k he.symm))⟩
theorem Chg.of_ext {w w' : World} {D : Nat → Prop} (h : Ext w w') : Chg w w' D := ⟨h.os, h.tape, h.output, h.size, fun k hk _ => h.block k hk⟩
theorem Chg.trans {a b c : World} {D : Nat → Prop} (h : Chg a b D) (k : Chg b c D) : Chg a c D :=
  ⟨k.os.trans h.os, k.tape.trans h.tape, k.output.trans h.output, Nat.le_trans h.size k.size, fun i hi hD => (k.block i (Nat.lt_of_lt_of_le hi h.size) hD).trans (h.block i hi hD)⟩
theorem Chg.mono {a b : World} {D D' : Nat → Prop} (h : Chg a b D) (hD : ∀ k, D k → D' k) : Chg a b D' := ⟨h.os, h.tape, h.output, h.size, fun k hk hn => h.block k hk (fun hd => hn (hD k hd))⟩
theorem Chg.ext0 {w0 w w' : World} {D : Nat → Prop} (h : Chg w w' D) (hE : Ext w0 w) (hD : ∀ k, D k → w0.heap.size ≤ k) : Ext w0 w' :=
  ⟨h.os.trans hE.os, h.tape.trans hE.tape, h.output.trans hE.output, Nat.le_trans hE.size h.size, fun k hk => (h.block k (Nat.lt_of_lt_of_le hk hE.size) (fun hd => by have := hD k hd; omega)).trans (hE.block k hk)⟩

theorem SlR.chg {α : Type} [RepP α] {D0 D : Nat → Prop} {w w' : World} {s : Sl} {l : List α} (h : SlR D0 w s l) (hc : Chg w w' D) (hD : ∀ b, D0 b → b < w.heap.size → ¬ D b) : SlR D0 w' s l :=
  (h.below.agr fun b hb => hc.block b hb.2 (hD b hb.1 hb.2)).weak (fun _ hb _ => hb.1) RepP.pos
theorem OwnL.chg {α : Type} [Flat α] {D : Nat → Prop} {w w' : World} {base : Nat} {e : TypeId} {s : Sl} {l : List α} (h : OwnL w base e s l) (hc : Chg w w' D) (hD : ∀ b, s.v.ownBlock = some b → ¬ D b) : OwnL w' base e s l :=
  h.keep fun k hk => hc.block k (h.blk k hk).2 (hD k hk)
theorem Box.chg {D : Nat → Prop} {w w' : World} {p : Addr} {t : TypeId} {cs : List Value} (h : Box w p t cs) (hc : Chg w w' D) (hD : ¬ D p.block) : Box w' p t cs :=
  h.of_block (hc.block _ h.lt hD)

end Go.GX
end

section
/- Contracts of the small functions. -/
namespace Go.Proofs.YtcldmpllpfojhaaDoor
open Go.GX Go.RowKit

def inR (n lo hi : Int) : Bool := decide (lo ≤ n) && decide (n ≤ hi)

theorem inR_true {n lo hi : Int} (h : inR n lo hi = true) : lo ≤ n ∧ n ≤ hi := by simpa [inR] using h
theorem inR_false {n lo hi : Int} (h : inR n lo hi = false) : ¬ (lo ≤ n ∧ n ≤ hi) := by
  intro ⟨h1, h2⟩; simp [inR, h1, h2] at h

theorem within_ok (n lo hi : Int) (w : World) : Calls Tryd.prog F.i_within #[.int .i64 n, .int .i64 lo, .int .i64 hi] w (Ret [.at .bool] fun (b : Bool) w' => b = inR n lo hi ∧ w = w') := by
  refine C_i_within ?_
  unfold V_i_within inR
  by_cases h : lo ≤ n <;> simp [h]

theorem l1In_ok (n lo hi : Int) (w : World) : Calls Tryd.prog F.s_l1In #[.int .i64 n, .int .i64 lo, .int .i64 hi] w (Ret [.at .bool] fun (b : Bool) w' => b = inR n lo hi ∧ w = w') := by
  refine C_s_l1In ?_
  unfold V_s_l1In inR
  by_cases h : lo ≤ n <;> simp [h]

theorem l1Has_ok {w : World} {s : Sl} {l : List Int} (h : R w s l) (n : Int) :
    Calls Tryd.prog F.s_l1Has #[s.v, .int .i64 n] w (Ret [.at .bool] fun (b : Bool) w' => b = l.contains n ∧ w = w') := by
  refine C_s_l1Has ?_
  unfold V_s_l1Has
  refine ⟨IN l.length fun i w' => w' = w ∧ n ∉ l.take i, MN l.length, IN_zero ⟨rfl, by simp⟩, ?_⟩
  rintro x w1 ⟨i, rfl, hi, rfl, hn⟩
  intros
  rw [h.len]
  refine cond_dec (fun hlt => ?_) (fun hge => ⟨?_, rfl⟩)
  · have hlt' : i < l.length := by omega
    refine h.ixI hlt' fun p _ hc => ?_
    refine LD_int hc ?_
    refine cond_eq (fun he => ⟨?_, rfl⟩) (fun he => ?_)
    · simp [← he]
    · exact IN_next h.le hlt' ⟨rfl, not_mem_take_succ hlt' hn he⟩
  · have hil : i = l.length := by omega
    subst hil
    simp at hn
    simp [hn]

end Go.Proofs.YtcldmpllpfojhaaDoor
end

section
/- Networks: how they lie in memory, and the contracts of the functions that copy, weigh and compare them. -/
namespace Go.Proofs.YtcldmpllpfojhaaDoor
open Go.GX Go.RowKit
set_option maxRecDepth 100000

structure Net where
  ends : List (List (Int × Int))
  ids : List Int
  inputs : List Int

/-- Three slices read as a network. -/
def RNet (w : World) (a b c : Sl) (n : Net) : Prop := R w a n.ends ∧ R w b n.ids ∧ R w c n.inputs

theorem RNet.ext {w w' : World} {a b c : Sl} {n : Net} (h : RNet w a b c n) (hE : Ext w w') : RNet w' a b c n := ⟨h.1.ext hE, h.2.1.ext hE, h.2.2.ext hE⟩

theorem slt_int : SlT Tryd.prog T.t_sl_int T.t_int 1 8 (.int .i64 0) := ⟨by kernel_rfl, by kernel_rfl, rfl, by decide⟩
theorem slt_end : SlT Tryd.prog T.t_sl_i_End T.t_i_End 2 16 (.agg #[.int .i64 0, .int .i64 0]) := ⟨by kernel_rfl, by kernel_rfl, rfl, by decide⟩
theorem slt_ends : SlT Tryd.prog T.t_sl_sl_i_End T.t_sl_i_End 1 24 (.slice none 0 0) := ⟨by kernel_rfl, by kernel_rfl, rfl, by decide⟩

theorem flat_ok {w : World} {s : Sl} {l : List Int} (h : R w s l) : ∀ x ∈ l, I64 x := fun x hx => by
  obtain ⟨i, hi, rfl⟩ := List.mem_iff_getElem.1 hx
  obtain ⟨_, _, _, _, ⟨_, h1⟩, _⟩ := h.2.2 i l[i] (by simp [hi])
  exact h1

theorem flat_okE {w : World} {s : Sl} {l : List (Int × Int)} (h : R w s l) : ∀ x ∈ l, I64 x.1 ∧ I64 x.2 := fun x hx => by
  obtain ⟨i, hi, rfl⟩ := List.mem_iff_getElem.1 hx
  obtain ⟨_, _, _, _, ⟨_, h1⟩, _⟩ := h.2.2 i l[i] (by simp [hi])
  exact h1


theorem flat_okEE {w : World} {s : Sl} {l : List (List (Int × Int))} (h : R w s l) : ∀ r ∈ l, ∀ x ∈ r, Flat.ok x := fun r hr x hx => by
  obtain ⟨i, hi, rfl⟩ := List.mem_iff_getElem.1 hr
  obtain ⟨_, _, _, _, ⟨s', _, h1⟩, _⟩ := h.2.2 i l[i] (by simp [hi])
  exact flat_okE h1 x hx

/-- A network that fits the law's bound. -/
def Small (n : Net) : Prop := n.ends.length ≤ 1048576 ∧ (∀ r ∈ n.ends, r.length ≤ 1048576) ∧ n.ids.length ≤ 1048576 ∧ n.inputs.length ≤ 1048576

/-- A network in the call's own memory. -/
structure OwnNet (w : World) (base : Nat) (x y z : Sl) (n : Net) : Prop where
  ends : Own2 w base T.t_i_End T.t_sl_i_End x n.ends
  ids : OwnL w base T.t_int y n.ids
  inputs : OwnL w base T.t_int z n.inputs

theorem OwnNet.ext {w w' : World} {base : Nat} {x y z : Sl} {n : Net} (h : OwnNet w base x y z n) (hE : Ext w w') : OwnNet w' base x y z n := ⟨h.ends.ext hE, h.ids.ext hE, h.inputs.ext hE⟩
theorem OwnNet.keep {w w' : World} {base : Nat} {x y z : Sl} {n : Net} (h : OwnNet w base x y z n) (hk : ∀ k, base ≤ k → k < w.heap.size → w'.heap[k]? = w.heap[k]?) : OwnNet w' base x y z n :=
  ⟨h.ends.keep hk, h.ids.keep fun k hb => hk k (h.ids.blk k hb).1 (h.ids.blk k hb).2, h.inputs.keep fun k hb => hk k (h.inputs.blk k hb).1 (h.inputs.blk k hb).2⟩
theorem OwnNet.low {w : World} {base b : Nat} {x y z : Sl} {n : Net} (h : OwnNet w base x y z n) (hb : b ≤ base) : OwnNet w b x y z n := ⟨h.ends.low hb, h.ids.low hb, h.inputs.low hb⟩
theorem OwnNet.net {w w0 : World} {base : Nat} {x y z a b c : Sl} {n : Net} (h : OwnNet w base x y z n) (h0 : RNet w0 a b c n) : RNet w x y z n :=
  ⟨h.ends.rep (flat_okEE h0.1), (h.ids.rep (flat_ok h0.2.1)).any, (h.inputs.rep (flat_ok h0.2.2)).any⟩

end Go.Proofs.YtcldmpllpfojhaaDoor
end
