/- What each function's code computes to. Printed by a program. -/
import Derived.Test.YtghibjghjjnchaaNames
namespace Go.Proofs.Ytghibjghjjnchaa
open Go.GX Go.RowKit
set_option linter.unusedVariables false
set_option maxRecDepth 100000

def V_slices_IndexFunc_sl_i_End_i_End (Q : Int → World → Prop) (s : Sl) (f : Value) (w : World) : Prop :=
  ∃ (I2 : Int → World → Prop) (m2 : Int → World → Nat), I2 0 w ∧ ∀ (x8 : Int) w1, I2 x8 w1 → ∀ _ _ _ _ _ _ _ _ _ _ _ _ : Value,
  cond (decide ((x8 : Int) < s.len)) (
  IX s x8 2 fun (px14 : Addr) =>
  LD [.int .i64, .int .i64] px14 w1 fun (x15_0 : Int) (x15_1 : Int) =>
  CALLV Try.prog f #[.agg #[.int .i64 x15_0, .int .i64 x15_1]] w1 (Ret [.at .bool] fun (x16 : Bool) w2 =>
  cond x16 (
  Q x8 w2) (
  I2 (IntKind.i64.wrap (x8 + 1)) w2 ∧ m2 (IntKind.i64.wrap (x8 + 1)) w2 < m2 x8 w1))) (
  Q (-1) w1)

theorem C_slices_IndexFunc_sl_i_End_i_End {Q : Int → World → Prop} {s : Sl} {f : Value} {w : World} (h : V_slices_IndexFunc_sl_i_End_i_End Q s f w) : Calls Try.prog F.slices_IndexFunc_sl_i_End_i_End #[s.v, f] w (Ret [.at (.int .i64)] Q) :=
  mkC (hint := hint) (ann := annOf [(2, ⟨[(8, .int .i64)], [4, 5, 9, 10, 11, 12, 13, 14, 15, 16, 17, 18]⟩)]) (args := [s.v, f]) (rs := [.at (.int .i64)]) Try.func132 (by kernel_rfl) (by kernel_rfl) h

def V_s_meFrom (Q : Sl → World → Prop) (x0_0 : Sl) (x0_1 : Sl) (x0_2 : Sl) (x1 : Int) (w : World) : Prop :=
  NEW T.t_i_Network #[x0_0.v, x0_1.v, x0_2.v] w fun (px2 : Addr) w1 =>
  LD [.sl] (px2.add 0) w1 fun (x12 : Sl) =>
  RUN Try.prog (.at .sl) (Instr.makeSlice T.t_sl_int (.int .i64 x12.len) (.int .i64 x12.len)) w1 fun (x14 : Sl) w2 =>
  ∃ (I3 : Int → World → Prop) (m3 : Int → World → Nat), I3 0 w2 ∧ ∀ (x17 : Int) w3, I3 x17 w3 → ∀ _ _ _ _ _ _ _ : Value,
  cond (decide ((x17 : Int) < x14.len)) (
  IX x14 x17 1 fun (px22 : Addr) =>
  ST px22 0 [.int .i64 (-1)] w3 fun w4 =>
  I3 (IntKind.i64.wrap (x17 + 1)) w4 ∧ m3 (IntKind.i64.wrap (x17 + 1)) w4 < m3 x17 w3) (
  IX x14 x1 1 fun (px26 : Addr) =>
  ST px26 0 [.int .i64 0] w3 fun w5 =>
  RUN Try.prog (.at .sl) (Instr.buildSlice T.t_sl_int 1 #[(0, .int .i64 x1)]) w5 fun (x28 : Sl) w6 =>
  ∃ (I10 : Sl → Int → World → Prop) (m10 : Sl → Int → World → Nat), I10 x28 0 w6 ∧ ∀ (x7 : Sl) (x8 : Int) w7, I10 x7 x8 w7 → ∀ _ _ _ _ _ _ _ _ _ _ _ _ _ _ _ _ _ _ _ _ _ _ _ _ _ _ _ _ _ _ _ _ _ _ _ _ _ _ _ : Value,
  cond (decide ((x8 : Int) < x7.len)) (
  ∀ w8, Ext w7 w8 → w8.heap = w7.heap →
  LD [.sl, .sl, .sl] px2 w8 fun (x35_0 : Sl) (x35_1 : Sl) (x35_2 : Sl) =>
  IX x7 x8 1 fun (px38 : Addr) =>
  LD [.int .i64] px38 w8 fun (x39 : Int) =>
  Calls Try.prog F.s_neNear #[.agg #[x35_0.v, x35_1.v, x35_2.v], .int .i64 x39] w8 (Ret [.at .sl] fun (x40 : Sl) w9 =>
  Ext w8 w9 ∧ (
  Ext w8 w9 ∧ (
  ∃ (I13 : Sl → Int → World → Prop) (m13 : Sl → Int → World → Nat), I13 x7 0 w9 ∧ ∀ (x7_2 : Sl) (x42 : Int) w10, I13 x7_2 x42 w10 → ∀ _ _ _ _ _ _ _ _ _ _ _ _ _ _ _ _ _ _ _ _ _ _ _ _ _ : Value,
  cond (decide ((x42 : Int) < x40.len)) (
  IX x40 x42 1 fun (px44 : Addr) =>
  LD [.int .i64] px44 w10 fun (x45 : Int) =>
  IX x14 x45 1 fun (px48 : Addr) =>
  LD [.int .i64] px48 w10 fun (x49 : Int) =>
  cond (decide ((x49 : Int) < 0)) (
  IX x7_2 x8 1 fun (px56 : Addr) =>
  LD [.int .i64] px56 w10 fun (x57 : Int) =>
  IX x14 x57 1 fun (px58 : Addr) =>
  LD [.int .i64] px58 w10 fun (x59 : Int) =>
  IX x14 x45 1 fun (px61 : Addr) =>
  ST px61 0 [.int .i64 (IntKind.i64.wrap (x59 + 1))] w10 fun w11 =>
  RUN Try.prog (.at .sl) (Instr.buildSlice T.t_sl_int 1 #[(0, .int .i64 x45)]) w11 fun (x64 : Sl) w12 =>
  RUN Try.prog (.at .sl) (bsem .append #[T.t_sl_int, T.t_sl_int] T.t_sl_int #[x7_2.v, x64.v]) w12 fun (x65 : Sl) w13 =>
  I13 x65 (IntKind.i64.wrap (x42 + 1)) w13 ∧ m13 x65 (IntKind.i64.wrap (x42 + 1)) w13 < m13 x7_2 x42 w10) (
  I13 x7_2 (IntKind.i64.wrap (x42 + 1)) w10 ∧ m13 x7_2 (IntKind.i64.wrap (x42 + 1)) w10 < m13 x7_2 x42 w10)) (
  I10 x7_2 (IntKind.i64.wrap (x8 + 1)) w10 ∧ m10 x7_2 (IntKind.i64.wrap (x8 + 1)) w10 < m10 x7 x8 w7))))) (
  Q x14 w7))

theorem C_s_meFrom {Q : Sl → World → Prop} {x0_0 : Sl} {x0_1 : Sl} {x0_2 : Sl} {x1 : Int} {w : World} (h : V_s_meFrom Q x0_0 x0_1 x0_2 x1 w) : Calls Try.prog F.s_meFrom #[.agg #[x0_0.v, x0_1.v, x0_2.v], .int .i64 x1] w (Ret [.at .sl] Q) :=
  mkC (hint := hint) (ann := annOf [(3, ⟨[(17, .int .i64)], [6, 18, 19, 20, 21, 22, 23]⟩), (10, ⟨[(7, .sl), (8, .int .i64)], [10, 29, 30, 31, 32, 33, 34, 35, 36, 37, 38, 39, 40, 41, 42, 43, 44, 45, 46, 47, 48, 49, 50, 51, 52, 53, 54, 55, 56, 57, 58, 59, 60, 61, 62, 63, 64, 65, 66]⟩), (13, ⟨[(7, .sl), (42, .int .i64)], [10, 43, 44, 45, 46, 47, 48, 49, 50, 51, 52, 53, 54, 55, 56, 57, 58, 59, 60, 61, 62, 63, 64, 65, 66]⟩)]) (args := [.agg #[x0_0.v, x0_1.v, x0_2.v], .int .i64 x1]) (rs := [.at .sl]) Try.func133 (by kernel_rfl) (by kernel_rfl) h

def V_slices_IndexFunc_sl_int_int (Q : Int → World → Prop) (s : Sl) (f : Value) (w : World) : Prop :=
  ∃ (I2 : Int → World → Prop) (m2 : Int → World → Nat), I2 0 w ∧ ∀ (x8 : Int) w1, I2 x8 w1 → ∀ _ _ _ _ _ _ _ _ _ _ _ _ : Value,
  cond (decide ((x8 : Int) < s.len)) (
  IX s x8 1 fun (px14 : Addr) =>
  LD [.int .i64] px14 w1 fun (x15 : Int) =>
  CALLV Try.prog f #[.int .i64 x15] w1 (Ret [.at .bool] fun (x16 : Bool) w2 =>
  cond x16 (
  Q x8 w2) (
  I2 (IntKind.i64.wrap (x8 + 1)) w2 ∧ m2 (IntKind.i64.wrap (x8 + 1)) w2 < m2 x8 w1))) (
  Q (-1) w1)

theorem C_slices_IndexFunc_sl_int_int {Q : Int → World → Prop} {s : Sl} {f : Value} {w : World} (h : V_slices_IndexFunc_sl_int_int Q s f w) : Calls Try.prog F.slices_IndexFunc_sl_int_int #[s.v, f] w (Ret [.at (.int .i64)] Q) :=
  mkC (hint := hint) (ann := annOf [(2, ⟨[(8, .int .i64)], [4, 5, 9, 10, 11, 12, 13, 14, 15, 16, 17, 18]⟩)]) (args := [s.v, f]) (rs := [.at (.int .i64)]) Try.func134 (by kernel_rfl) (by kernel_rfl) h

end Go.Proofs.Ytghibjghjjnchaa
