/- Own texts, merged: V1, V2, VCmp, VStable, AllV, Tz, Leaf, Net, Sort, Coll, Good, Near, Dist, WalkPure, At0, CyPure. -/
import Derived.Test.YtaeledhbkdakcaaGreatDoorM1
import Derived.Shelf.Sort.Plain
import Derived.Shelf.Slices.In.SortNone
import Derived.Test.YtaeledhbkdakcaaGreatDoorProg
import Derived.Sort.OwnSortedInts
import Derived.Lib.TrailingZeros
set_option linter.unusedVariables false
section
/- What each function's code computes to. Printed by a program. -/
namespace Go.Proofs.YtaeledhbkdakcaaGreatDoor
open Go.GX Go.RowKit
set_option linter.unusedVariables false
set_option maxRecDepth 100000

def V_i_idsOk (Q : Bool → World → Prop) (ids : Sl) (nodes : Int) (w : World) : Prop :=
  cond ((ids.len : Int) == 0) (
  Q true w) (
  Calls Tryz.prog F.slices_Clone_sl_int_int #[ids.v] w (Ret [.at .sl] fun (x10 : Sl) w1 =>
  Calls Tryz.prog F.slices_Sort_sl_int_int #[x10.v] w1 (Ret [] fun w2 =>
  cond ((ids.len : Int) == nodes) (
  Calls Tryz.prog F.i_increasing #[x10.v, .int .i64 1, .int .i64 999999] w2 (Ret [.at .bool] fun (x19 : Bool) w3 =>
  Q x19 w3)) (
  Q false w2))))

theorem C_i_idsOk {Q : Bool → World → Prop} {ids : Sl} {nodes : Int} {w : World} (h : V_i_idsOk Q ids nodes w) : Calls Tryz.prog F.i_idsOk #[ids.v, .int .i64 nodes] w (Ret [.at .bool] Q) :=
  mkC (hint := hint) (ann := annOf []) (args := [ids.v, .int .i64 nodes]) (rs := [.at .bool]) Tryz.func74 (by kernel_rfl) (by kernel_rfl) h

def V_slices_IndexFunc_sl_int_int (Q : Int → World → Prop) (s : Sl) (f : Value) (w : World) : Prop :=
  ∃ (I2 : Int → World → Prop) (m2 : Int → World → Nat), I2 0 w ∧ ∀ (x8 : Int) w1, I2 x8 w1 → ∀ _ _ _ _ _ _ _ _ _ _ _ _ : Value,
  cond (decide ((x8 : Int) < s.len)) (
  IX s x8 1 fun (px14 : Addr) =>
  LD [.int .i64] px14 w1 fun (x15 : Int) =>
  CALLV Tryz.prog f #[.int .i64 x15] w1 (Ret [.at .bool] fun (x16 : Bool) w2 =>
  cond x16 (
  Q x8 w2) (
  I2 (IntKind.i64.wrap (x8 + 1)) w2 ∧ m2 (IntKind.i64.wrap (x8 + 1)) w2 < m2 x8 w1))) (
  Q (-1) w1)

theorem C_slices_IndexFunc_sl_int_int {Q : Int → World → Prop} {s : Sl} {f : Value} {w : World} (h : V_slices_IndexFunc_sl_int_int Q s f w) : Calls Tryz.prog F.slices_IndexFunc_sl_int_int #[s.v, f] w (Ret [.at (.int .i64)] Q) :=
  mkC (hint := hint) (ann := annOf [(2, ⟨[(8, .int .i64)], [4, 5, 9, 10, 11, 12, 13, 14, 15, 16, 17, 18]⟩)]) (args := [s.v, f]) (rs := [.at (.int .i64)]) Tryz.func75 (by kernel_rfl) (by kernel_rfl) h

def V_i_numbersTo (Q : Sl → World → Prop) (n : Int) (w : World) : Prop :=
  RUN Tryz.prog (.at .sl) (Instr.makeSlice T.t_sl_int (.int .i64 n) (.int .i64 n)) w fun (x6 : Sl) w1 =>
  ∃ (I3 : Int → World → Prop) (m3 : Int → World → Nat), I3 0 w1 ∧ ∀ (x9 : Int) w2, I3 x9 w2 → ∀ _ _ _ _ _ _ _ _ : Value,
  cond (decide ((x9 : Int) < x6.len)) (
  IX x6 x9 1 fun (px15 : Addr) =>
  ST px15 0 [.int .i64 x9] w2 fun w3 =>
  I3 (IntKind.i64.wrap (x9 + 1)) w3 ∧ m3 (IntKind.i64.wrap (x9 + 1)) w3 < m3 x9 w2) (
  Q x6 w2)

theorem C_i_numbersTo {Q : Sl → World → Prop} {n : Int} {w : World} (h : V_i_numbersTo Q n w) : Calls Tryz.prog F.i_numbersTo #[.int .i64 n] w (Ret [.at .sl] Q) :=
  mkC (hint := hint) (ann := annOf [(3, ⟨[(9, .int .i64)], [4, 10, 11, 12, 13, 14, 15, 16]⟩)]) (args := [.int .i64 n]) (rs := [.at .sl]) Tryz.func76 (by kernel_rfl) (by kernel_rfl) h

def V_i_WalkProblem_loopOf_1 (Q : Bool → World → Prop) (a : Int) (cap0 : Addr) (w : World) : Prop :=
  LD [.int .i64, .sl] cap0 w fun (x4_0 : Int) (x4_1 : Sl) =>
  Calls Tryz.prog F.i_WalkProblem_after #[.agg #[.int .i64 x4_0, x4_1.v]] w (Ret [.at .sl] fun (x5 : Sl) w1 =>
  IX x5 a 1 fun (px7 : Addr) =>
  LD [.int .i64] px7 w1 fun (x8 : Int) =>
  (0 : Int) ≤ a ∧ (
  Q (((bitAnd .i64 (shrI .i64 x8 a) 1) : Int) == 1) w1))

theorem C_i_WalkProblem_loopOf_1 {Q : Bool → World → Prop} {a : Int} {cap0 : Addr} {w : World} (h : V_i_WalkProblem_loopOf_1 Q a cap0 w) : Calls Tryz.prog F.i_WalkProblem_loopOf_1 #[.int .i64 a, .pointer (some cap0)] w (Ret [.at .bool] Q) :=
  mkC (hint := hint) (ann := annOf []) (args := [.int .i64 a, .pointer (some cap0)]) (rs := [.at .bool]) Tryz.func77 (by kernel_rfl) (by kernel_rfl) h

def V_i_WalkProblem_after (Q : Sl → World → Prop) (p_0 : Int) (p_1 : Sl) (w : World) : Prop :=
  NEW T.t_i_WalkProblem #[.int .i64 p_0, p_1.v] w fun (p_p : Addr) w1 =>
  LD [.int .i64] (p_p.add 0) w1 fun (x7 : Int) =>
  RUN Tryz.prog (.at .sl) (Instr.makeSlice T.t_sl_int (.int .i64 x7) (.int .i64 x7)) w1 fun (x8 : Sl) w2 =>
  LD [.sl] (p_p.add 1) w2 fun (x10 : Sl) =>
  ∃ (I3 : Int → World → Prop) (m3 : Int → World → Nat), I3 0 w2 ∧ ∀ (x12 : Int) w3, I3 x12 w3 → ∀ _ _ _ _ _ _ _ _ _ _ _ _ _ _ _ _ _ : Value,
  cond (decide ((x12 : Int) < x10.len)) (
  IX x10 x12 1 fun (px14 : Addr) =>
  LD [.sl] px14 w3 fun (x15 : Sl) =>
  ∀ w4, Ext w3 w4 → w4.heap = w3.heap → ∃ (D4 : Nat → Prop),
  IX x15 0 1 fun (px18 : Addr) =>
  ¬ D4 px18.block ∧ (
  LD [.int .i64] px18 w4 fun (x19 : Int) =>
  IX x8 x19 1 fun (px20 : Addr) =>
  ¬ D4 px20.block ∧ (
  LD [.int .i64] px20 w4 fun (x21 : Int) =>
  Chg w4 w4 D4 ∧ (
  IX x15 1 1 fun (px23 : Addr) =>
  Chg w4 w4 D4 ∧ (
  LD [.int .i64] px23 w4 fun (x24 : Int) =>
  Chg w4 w4 D4 ∧ (
  (0 : Int) ≤ x24 ∧ (
  Chg w4 w4 D4 ∧ (
  Chg w4 w4 D4 ∧ (
  IX x8 x19 1 fun (px27 : Addr) =>
  ST px27 0 [.int .i64 (bitOr .i64 x21 (shlI .i64 1 x24))] w4 fun w5 =>
  I3 (IntKind.i64.wrap (x12 + 1)) w5 ∧ m3 (IntKind.i64.wrap (x12 + 1)) w5 < m3 x12 w3))))))))) (
  Q x8 w3)

theorem C_i_WalkProblem_after {Q : Sl → World → Prop} {p_0 : Int} {p_1 : Sl} {w : World} (h : V_i_WalkProblem_after Q p_0 p_1 w) : Calls Tryz.prog F.i_WalkProblem_after #[.agg #[.int .i64 p_0, p_1.v]] w (Ret [.at .sl] Q) :=
  mkC (hint := hint) (ann := annOf [(3, ⟨[(12, .int .i64)], [5, 13, 14, 15, 16, 17, 18, 19, 20, 21, 22, 23, 24, 25, 26, 27, 28]⟩)]) (args := [.agg #[.int .i64 p_0, p_1.v]]) (rs := [.at .sl]) Tryz.func78 (by kernel_rfl) (by kernel_rfl) h

def V_math_bits_Mul (Q : Int → Int → World → Prop) (x : Int) (y : Int) (w : World) : Prop :=
  Calls Tryz.prog F.math_bits_Mul64 #[.int .u64 x, .int .u64 y] w (Ret [.at (.int .u64), .at (.int .u64)] fun (x25_0 : Int) (x25_1 : Int) w1 =>
  Q x25_0 x25_1 w1)

theorem C_math_bits_Mul {Q : Int → Int → World → Prop} {x : Int} {y : Int} {w : World} (h : V_math_bits_Mul Q x y w) : Calls Tryz.prog F.math_bits_Mul #[.int .u64 x, .int .u64 y] w (Ret [.at (.int .u64), .at (.int .u64)] Q) :=
  mkC (hint := hint) (ann := annOf []) (args := [.int .u64 x, .int .u64 y]) (rs := [.at (.int .u64), .at (.int .u64)]) Tryz.func79 (by kernel_rfl) (by kernel_rfl) h

def V_i_WalkProblem_flexibilityOf (Q : Int → World → Prop) (p_0 : Int) (p_1 : Sl) (a : Int) (w : World) : Prop :=
  NEW T.t_i_WalkProblem #[.int .i64 p_0, p_1.v] w fun (p_p : Addr) w1 =>
  LD [.int .i64, .sl] p_p w1 fun (x7_0 : Int) (x7_1 : Sl) =>
  Calls Tryz.prog F.i_WalkProblem_reached #[.agg #[.int .i64 x7_0, x7_1.v], .int .i64 a, .int .i64 288] w1 (Ret [.at .sl] fun (x9 : Sl) w2 =>
  ∃ (I3 : Int → World → Prop) (m3 : Int → World → Nat), I3 (IntKind.i64.wrap (x9.len - 1)) w2 ∧ ∀ (k : Int) w3, I3 k w3 → ∀ _ _ _ _ _ _ _ _ _ _ _ _ _ _ : Value,
  cond (decide ((k : Int) > 0)) (
  IX x9 k 1 fun (px18 : Addr) =>
  LD [.int .i64] px18 w3 fun (x19 : Int) =>
  (0 : Int) ≤ a ∧ (
  cond (((bitAnd .i64 (shrI .i64 x19 a) 1) : Int) == 1) (
  I3 (IntKind.i64.wrap (k - 1)) w3 ∧ m3 (IntKind.i64.wrap (k - 1)) w3 < m3 k w3) (
  Q (IntKind.i64.wrap (k + 1)) w3))) (
  Q (IntKind.i64.wrap (k + 1)) w3))

theorem C_i_WalkProblem_flexibilityOf {Q : Int → World → Prop} {p_0 : Int} {p_1 : Sl} {a : Int} {w : World} (h : V_i_WalkProblem_flexibilityOf Q p_0 p_1 a w) : Calls Tryz.prog F.i_WalkProblem_flexibilityOf #[.agg #[.int .i64 p_0, p_1.v], .int .i64 a] w (Ret [.at (.int .i64)] Q) :=
  mkC (hint := hint) (ann := annOf [(3, ⟨[(6, .int .i64)], [13, 14, 15, 16, 17, 18, 19, 20, 21, 22, 23, 24, 25, 26]⟩)]) (args := [.agg #[.int .i64 p_0, p_1.v], .int .i64 a]) (rs := [.at (.int .i64)]) Tryz.func80 (by kernel_rfl) (by kernel_rfl) h

def V_i_marksOk (Q : Bool → World → Prop) (k : Int) (marks : Sl) (w : World) : Prop :=
  Calls Tryz.prog F.i_within #[.int .i64 k, .int .i64 2, .int .i64 180] w (Ret [.at .bool] fun (x6 : Bool) w1 =>
  cond x6 (
  cond (decide ((marks.len : Int) > 0)) (
  Calls Tryz.prog F.i_increasing #[marks.v, .int .i64 0, .int .i64 (IntKind.i64.wrap (k - 1))] w1 (Ret [.at .bool] fun (x16 : Bool) w2 =>
  Q x16 w2)) (
  Q false w1)) (
  Q false w1))

theorem C_i_marksOk {Q : Bool → World → Prop} {k : Int} {marks : Sl} {w : World} (h : V_i_marksOk Q k marks w) : Calls Tryz.prog F.i_marksOk #[.int .i64 k, marks.v] w (Ret [.at .bool] Q) :=
  mkC (hint := hint) (ann := annOf []) (args := [.int .i64 k, marks.v]) (rs := [.at .bool]) Tryz.func81 (by kernel_rfl) (by kernel_rfl) h

def V_i_gapsOf (Q : Sl → World → Prop) (k : Int) (marks : Sl) (w : World) : Prop :=
  ∃ (I3 : Sl → Int → World → Prop) (m3 : Sl → Int → World → Nat), I3 (⟨none, 0, 0⟩) 0 w ∧ ∀ (out : Sl) (x11 : Int) w1, I3 out x11 w1 → ∀ _ _ _ _ _ _ _ _ _ _ _ _ _ _ _ _ _ _ _ _ _ _ _ _ _ _ _ _ _ : Value,
  cond (decide ((x11 : Int) < marks.len)) (
  IX marks x11 1 fun (px14 : Addr) =>
  LD [.int .i64] px14 w1 fun (x15 : Int) =>
  IX marks 0 1 fun (px18 : Addr) =>
  LD [.int .i64] px18 w1 fun (x19 : Int) =>
  cond (decide (((IntKind.i64.wrap (x11 + 1)) : Int) < marks.len)) (
  IX marks (IntKind.i64.wrap (x11 + 1)) 1 fun (px29 : Addr) =>
  LD [.int .i64] px29 w1 fun (x30 : Int) =>
  RUN Tryz.prog (.at .sl) (Instr.buildSlice T.t_sl_int 1 #[(0, .int .i64 (IntKind.i64.wrap (x30 - x15)))]) w1 fun (x35 : Sl) w2 =>
  RUN Tryz.prog (.at .sl) (bsem .append #[T.t_sl_int, T.t_sl_int] T.t_sl_int #[out.v, x35.v]) w2 fun (x36 : Sl) w3 =>
  I3 x36 (IntKind.i64.wrap (x11 + 1)) w3 ∧ m3 x36 (IntKind.i64.wrap (x11 + 1)) w3 < m3 out x11 w1) (
  RUN Tryz.prog (.at .sl) (Instr.buildSlice T.t_sl_int 1 #[(0, .int .i64 (IntKind.i64.wrap ((IntKind.i64.wrap (k + x19)) - x15)))]) w1 fun (x35_2 : Sl) w4 =>
  RUN Tryz.prog (.at .sl) (bsem .append #[T.t_sl_int, T.t_sl_int] T.t_sl_int #[out.v, x35_2.v]) w4 fun (x36_2 : Sl) w5 =>
  I3 x36_2 (IntKind.i64.wrap (x11 + 1)) w5 ∧ m3 x36_2 (IntKind.i64.wrap (x11 + 1)) w5 < m3 out x11 w1)) (
  Q out w1)

theorem C_i_gapsOf {Q : Sl → World → Prop} {k : Int} {marks : Sl} {w : World} (h : V_i_gapsOf Q k marks w) : Calls Tryz.prog F.i_gapsOf #[.int .i64 k, marks.v] w (Ret [.at .sl] Q) :=
  mkC (hint := hint) (ann := annOf [(3, ⟨[(5, .sl), (11, .int .i64)], [6, 7, 8, 12, 13, 14, 15, 16, 17, 18, 19, 20, 21, 22, 23, 24, 25, 26, 27, 28, 29, 30, 31, 32, 33, 34, 35, 36, 37]⟩)]) (args := [.int .i64 k, marks.v]) (rs := [.at .sl]) Tryz.func82 (by kernel_rfl) (by kernel_rfl) h

def V_i_WalkProblem_walkBetween (Q : Sl → World → Prop) (x0_0 : Int) (x0_1 : Sl) (x1 : Int) (x2 : Int) (x3 : Int) (w : World) : Prop :=
  NEW T.t_i_WalkProblem #[.int .i64 x0_0, x0_1.v] w fun (px4 : Addr) w1 =>
  LD [.int .i64] (px4.add 0) w1 fun (x21 : Int) =>
  RUN Tryz.prog (.at .sl) (Instr.makeSlice T.t_sl_int (.int .i64 x21) (.int .i64 x21)) w1 fun (x22 : Sl) w2 =>
  LD [.sl] (px4.add 1) w2 fun (x24 : Sl) =>
  ∃ (I3 : Int → World → Prop) (m3 : Int → World → Nat), I3 0 w2 ∧ ∀ (x26 : Int) w3, I3 x26 w3 → ∀ _ _ _ _ _ _ _ _ _ _ _ _ _ _ _ _ _ : Value,
  cond (decide ((x26 : Int) < x24.len)) (
  IX x24 x26 1 fun (px28 : Addr) =>
  LD [.sl] px28 w3 fun (x29 : Sl) =>
  ∀ w4, Ext w3 w4 → w4.heap = w3.heap → ∃ (D4 : Nat → Prop),
  IX x29 1 1 fun (px32 : Addr) =>
  ¬ D4 px32.block ∧ (
  LD [.int .i64] px32 w4 fun (x33 : Int) =>
  IX x22 x33 1 fun (px34 : Addr) =>
  ¬ D4 px34.block ∧ (
  LD [.int .i64] px34 w4 fun (x35 : Int) =>
  Chg w4 w4 D4 ∧ (
  IX x29 0 1 fun (px37 : Addr) =>
  Chg w4 w4 D4 ∧ (
  LD [.int .i64] px37 w4 fun (x38 : Int) =>
  Chg w4 w4 D4 ∧ (
  (0 : Int) ≤ x38 ∧ (
  Chg w4 w4 D4 ∧ (
  Chg w4 w4 D4 ∧ (
  IX x22 x33 1 fun (px41 : Addr) =>
  ST px41 0 [.int .i64 (bitOr .i64 x35 (shlI .i64 1 x38))] w4 fun w5 =>
  I3 (IntKind.i64.wrap (x26 + 1)) w5 ∧ m3 (IntKind.i64.wrap (x26 + 1)) w5 < m3 x26 w3))))))))) (
  (0 : Int) ≤ x2 ∧ (
  RUN Tryz.prog (.at .sl) (Instr.buildSlice T.t_sl_int 1 #[(0, .int .i64 (shlI .i64 1 x2))]) w3 fun (x45 : Sl) w6 =>
  ∃ (I9 : Sl → Int → World → Prop) (m9 : Sl → Int → World → Nat), I9 x45 0 w6 ∧ ∀ (x12 : Sl) (x47 : Int) w7, I9 x12 x47 w7 → ∀ _ _ _ _ _ _ _ _ _ _ _ _ _ _ _ _ _ _ _ _ _ _ _ _ _ _ _ : Value,
  cond (decide ((x47 : Int) < x3)) (
  IX x12 x47 1 fun (px52 : Addr) =>
  LD [.int .i64] px52 w7 fun (x53 : Int) =>
  Calls Tryz.prog F.i_labelsIn #[.int .i64 x53] w7 (Ret [.at .sl] fun (x54 : Sl) w8 =>
  ∃ (I13 : Int → Int → World → Prop) (m13 : Int → Int → World → Nat), I13 0 0 w8 ∧ ∀ (x14 : Int) (x56 : Int) w9, I13 x14 x56 w9 → ∀ _ _ _ _ _ _ _ _ _ _ _ : Value,
  cond (decide ((x56 : Int) < x54.len)) (
  IX x54 x56 1 fun (px58 : Addr) =>
  LD [.int .i64] px58 w9 fun (x59 : Int) =>
  IX x22 x59 1 fun (px63 : Addr) =>
  LD [.int .i64] px63 w9 fun (x64 : Int) =>
  I13 (bitOr .i64 x14 x64) (IntKind.i64.wrap (x56 + 1)) w9 ∧ m13 (bitOr .i64 x14 x64) (IntKind.i64.wrap (x56 + 1)) w9 < m13 x14 x56 w9) (
  RUN Tryz.prog (.at .sl) (Instr.buildSlice T.t_sl_int 1 #[(0, .int .i64 x14)]) w9 fun (x69 : Sl) w10 =>
  RUN Tryz.prog (.at .sl) (bsem .append #[T.t_sl_int, T.t_sl_int] T.t_sl_int #[x12.v, x69.v]) w10 fun (x70 : Sl) w11 =>
  I9 x70 (IntKind.i64.wrap (x47 + 1)) w11 ∧ m9 x70 (IntKind.i64.wrap (x47 + 1)) w11 < m9 x12 x47 w7))) (
  IX x12 x3 1 fun (px74 : Addr) =>
  LD [.int .i64] px74 w7 fun (x75 : Int) =>
  (0 : Int) ≤ x1 ∧ (
  cond (((bitAnd .i64 (shrI .i64 x75 x1) 1) : Int) == 0) (
  Q (⟨none, 0, 0⟩) w7) (
  LD [.int .i64, .sl] px4 w7 fun (x80_0 : Int) (x80_1 : Sl) =>
  Calls Tryz.prog F.i_WalkProblem_after #[.agg #[.int .i64 x80_0, x80_1.v]] w7 (Ret [.at .sl] fun (x81 : Sl) w12 =>
  RUN Tryz.prog (.at .sl) (Instr.buildSlice T.t_sl_int 1 #[(0, .int .i64 x1)]) w12 fun (x83 : Sl) w13 =>
  ∃ (I24 : Sl → Int → World → Prop) (m24 : Sl → Int → World → Nat), I24 x83 (IntKind.i64.wrap (x3 - 1)) w13 ∧ ∀ (x18 : Sl) (x19 : Int) w14, I24 x18 x19 w14 → ∀ _ _ _ _ _ _ _ _ _ _ _ _ _ _ _ _ _ _ _ _ _ _ _ _ : Value,
  cond (decide ((x19 : Int) ≥ 0)) (
  ∀ w15, Ext w14 w15 → w15.heap = w14.heap →
  IX x18 (IntKind.i64.wrap (x18.len - 1)) 1 fun (px96 : Addr) =>
  IX x12 x19 1 fun (px102 : Addr) =>
  (
  LD [.int .i64] px96 w15 fun (x97 : Int) =>
  IX x81 x97 1 fun (px98 : Addr) =>
  (
  LD [.int .i64] px98 w15 fun (x99 : Int) =>
  LD [.int .i64] px102 w15 fun (x103 : Int) =>
  Calls Tryz.prog F.i_labelsIn #[.int .i64 (bitAnd .i64 x99 x103)] w15 (Ret [.at .sl] fun (x105 : Sl) w16 =>
  IX x105 0 1 fun (px106 : Addr) =>
  LD [.int .i64] px106 w16 fun (x107 : Int) =>
  RUN Tryz.prog (.at .sl) (Instr.buildSlice T.t_sl_int 1 #[(0, .int .i64 x107)]) w16 fun (x108 : Sl) w17 =>
  RUN Tryz.prog (.at .sl) (bsem .append #[T.t_sl_int, T.t_sl_int] T.t_sl_int #[x18.v, x108.v]) w17 fun (x109 : Sl) w18 =>
  I24 x109 (IntKind.i64.wrap (x19 - 1)) w18 ∧ m24 x109 (IntKind.i64.wrap (x19 - 1)) w18 < m24 x18 x19 w14)) ∧ (
  LD [.int .i64] px102 w15 fun (x103_2 : Int) =>
  LD [.int .i64] px98 w15 fun (x99_2 : Int) =>
  Calls Tryz.prog F.i_labelsIn #[.int .i64 (bitAnd .i64 x99_2 x103_2)] w15 (Ret [.at .sl] fun (x105_2 : Sl) w19 =>
  IX x105_2 0 1 fun (px106_2 : Addr) =>
  LD [.int .i64] px106_2 w19 fun (x107_2 : Int) =>
  RUN Tryz.prog (.at .sl) (Instr.buildSlice T.t_sl_int 1 #[(0, .int .i64 x107_2)]) w19 fun (x108_2 : Sl) w20 =>
  RUN Tryz.prog (.at .sl) (bsem .append #[T.t_sl_int, T.t_sl_int] T.t_sl_int #[x18.v, x108_2.v]) w20 fun (x109_2 : Sl) w21 =>
  I24 x109_2 (IntKind.i64.wrap (x19 - 1)) w21 ∧ m24 x109_2 (IntKind.i64.wrap (x19 - 1)) w21 < m24 x18 x19 w14))) ∧ (
  LD [.int .i64] px102 w15 fun (x103_3 : Int) =>
  LD [.int .i64] px96 w15 fun (x97_2 : Int) =>
  IX x81 x97_2 1 fun (px98_2 : Addr) =>
  LD [.int .i64] px98_2 w15 fun (x99_3 : Int) =>
  Calls Tryz.prog F.i_labelsIn #[.int .i64 (bitAnd .i64 x99_3 x103_3)] w15 (Ret [.at .sl] fun (x105_3 : Sl) w22 =>
  IX x105_3 0 1 fun (px106_3 : Addr) =>
  LD [.int .i64] px106_3 w22 fun (x107_3 : Int) =>
  RUN Tryz.prog (.at .sl) (Instr.buildSlice T.t_sl_int 1 #[(0, .int .i64 x107_3)]) w22 fun (x108_3 : Sl) w23 =>
  RUN Tryz.prog (.at .sl) (bsem .append #[T.t_sl_int, T.t_sl_int] T.t_sl_int #[x18.v, x108_3.v]) w23 fun (x109_3 : Sl) w24 =>
  I24 x109_3 (IntKind.i64.wrap (x19 - 1)) w24 ∧ m24 x109_3 (IntKind.i64.wrap (x19 - 1)) w24 < m24 x18 x19 w14))) (
  Q x18 w14)))))))

theorem C_i_WalkProblem_walkBetween {Q : Sl → World → Prop} {x0_0 : Int} {x0_1 : Sl} {x1 : Int} {x2 : Int} {x3 : Int} {w : World} (h : V_i_WalkProblem_walkBetween Q x0_0 x0_1 x1 x2 x3 w) : Calls Tryz.prog F.i_WalkProblem_walkBetween #[.agg #[.int .i64 x0_0, x0_1.v], .int .i64 x1, .int .i64 x2, .int .i64 x3] w (Ret [.at .sl] Q) :=
  mkC (hint := hint) (ann := annOf [(3, ⟨[(26, .int .i64)], [11, 27, 28, 29, 30, 31, 32, 33, 34, 35, 36, 37, 38, 39, 40, 41, 42]⟩), (9, ⟨[(12, .sl), (47, .int .i64)], [13, 14, 16, 48, 49, 50, 51, 52, 53, 54, 55, 56, 57, 58, 59, 60, 61, 62, 63, 64, 65, 66, 67, 68, 69, 70, 71]⟩), (13, ⟨[(14, .int .i64), (56, .int .i64)], [16, 57, 58, 59, 60, 61, 62, 63, 64, 65, 66]⟩), (24, ⟨[(18, .sl), (19, .int .i64)], [86, 87, 88, 89, 90, 91, 92, 93, 94, 95, 96, 97, 98, 99, 100, 101, 102, 103, 104, 105, 106, 107, 108, 109]⟩), (600026, ⟨[], [1]⟩)]) (args := [.agg #[.int .i64 x0_0, x0_1.v], .int .i64 x1, .int .i64 x2, .int .i64 x3]) (rs := [.at .sl]) Tryz.func83 (by kernel_rfl) (by kernel_rfl) h

def V_i_WalkProblem_walkComponents (Q : Sl → Sl → World → Prop) (x0_0 : Int) (x0_1 : Sl) (w : World) : Prop :=
  NEW T.t_i_WalkProblem #[.int .i64 x0_0, x0_1.v] w fun (px1 : Addr) w1 =>
  ∀ w2, Ext w1 w2 → w2.heap = w1.heap →
  LD [.int .i64, .sl] px1 w2 fun (x16_0 : Int) (x16_1 : Sl) =>
  LD [.int .i64, .sl] px1 w2 fun (x18_0 : Int) (x18_1 : Sl) =>
  Calls Tryz.prog F.i_WalkProblem_closure #[.agg #[.int .i64 x16_0, x16_1.v]] w2 (Ret [.at .sl] fun (x17 : Sl) w3 =>
  Ext w2 w3 ∧ (
  Calls Tryz.prog F.i_WalkProblem_after #[.agg #[.int .i64 x18_0, x18_1.v]] w3 (Ret [.at .sl] fun (x19 : Sl) w4 =>
  Ext w2 w4 ∧ (
  Ext w2 w4 ∧ (
  ∃ (I6 : Sl → Sl → Int → Int → World → Prop) (m6 : Sl → Sl → Int → Int → World → Nat), I6 (⟨none, 0, 0⟩) (⟨none, 0, 0⟩) 0 0 w4 ∧ ∀ (x6 : Sl) (x7 : Sl) (x8 : Int) (x22 : Int) w5, I6 x6 x7 x8 x22 w5 → ∀ _ _ _ _ _ _ _ _ _ _ _ _ _ _ _ _ _ _ _ _ _ _ _ _ _ _ _ _ _ _ _ _ _ _ _ _ _ _ _ _ _ _ _ _ _ _ _ _ _ _ _ _ _ _ _ _ _ _ _ _ _ _ _ _ _ _ _ _ _ : Value,
  cond (decide ((x22 : Int) < x17.len)) (
  (0 : Int) ≤ x22 ∧ (
  cond (((bitAnd .i64 (shrI .i64 x8 x22) 1) : Int) == 1) (
  I6 x6 x7 x8 (IntKind.i64.wrap (x22 + 1)) w5 ∧ m6 x6 x7 x8 (IntKind.i64.wrap (x22 + 1)) w5 < m6 x6 x7 x8 x22 w5) (
  IX x17 x22 1 fun (px32 : Addr) =>
  LD [.int .i64] px32 w5 fun (x33 : Int) =>
  Calls Tryz.prog F.i_labelsIn #[.int .i64 x33] w5 (Ret [.at .sl] fun (x34 : Sl) w6 =>
  ∃ (I12 : Sl → Int → World → Prop) (m12 : Sl → Int → World → Nat), I12 (⟨none, 0, 0⟩) 0 w6 ∧ ∀ (x10 : Sl) (x36 : Int) w7, I12 x10 x36 w7 → ∀ _ _ _ _ _ _ _ _ _ _ _ _ _ _ _ _ _ : Value,
  cond (decide ((x36 : Int) < x34.len)) (
  IX x34 x36 1 fun (px38 : Addr) =>
  LD [.int .i64] px38 w7 fun (x39 : Int) =>
  IX x17 x39 1 fun (px42 : Addr) =>
  LD [.int .i64] px42 w7 fun (x43 : Int) =>
  (0 : Int) ≤ x22 ∧ (
  cond (((bitAnd .i64 (shrI .i64 x43 x22) 1) : Int) == 1) (
  RUN Tryz.prog (.at .sl) (Instr.buildSlice T.t_sl_int 1 #[(0, .int .i64 x39)]) w7 fun (x50 : Sl) w8 =>
  RUN Tryz.prog (.at .sl) (bsem .append #[T.t_sl_int, T.t_sl_int] T.t_sl_int #[x10.v, x50.v]) w8 fun (x51 : Sl) w9 =>
  I12 x51 (IntKind.i64.wrap (x36 + 1)) w9 ∧ m12 x51 (IntKind.i64.wrap (x36 + 1)) w9 < m12 x10 x36 w7) (
  I12 x10 (IntKind.i64.wrap (x36 + 1)) w7 ∧ m12 x10 (IntKind.i64.wrap (x36 + 1)) w7 < m12 x10 x36 w7))) (
  Calls Tryz.prog F.i_setOf #[x10.v] w7 (Ret [.at (.int .i64)] fun (x55 : Int) w10 =>
  ∃ (I19 : Bool → Int → World → Prop) (m19 : Bool → Int → World → Nat), I19 false 0 w10 ∧ ∀ (x11 : Bool) (x59 : Int) w11, I19 x11 x59 w11 → ∀ _ _ _ _ _ _ _ _ _ _ _ _ _ _ _ _ : Value,
  cond (decide ((x59 : Int) < x10.len)) (
  IX x10 x59 1 fun (px61 : Addr) =>
  LD [.int .i64] px61 w11 fun (x62 : Int) =>
  cond x11 (
  ∀ w12, Ext w11 w12 →
  I19 true (IntKind.i64.wrap (x59 + 1)) w12 ∧ m19 true (IntKind.i64.wrap (x59 + 1)) w12 < m19 x11 x59 w11) (
  IX x19 x62 1 fun (px67 : Addr) =>
  LD [.int .i64] px67 w11 fun (x68 : Int) =>
  QCALL Tryz.prog F.i_setOf #[x10.v] w11 [.at (.int .i64)] fun (x70 : Int) =>
  ∀ w13, Ext w11 w13 →
  I19 (((bitAnd .i64 x68 x70) : Int) != 0) (IntKind.i64.wrap (x59 + 1)) w13 ∧ m19 (((bitAnd .i64 x68 x70) : Int) != 0) (IntKind.i64.wrap (x59 + 1)) w13 < m19 x11 x59 w11)) (
  cond x11 (
  ∀ w14, Ext w11 w14 → w14.heap = w11.heap → ∃ (D14 : Nat → Prop),
  ¬ D14 px1.block ∧ (
  LD [.int .i64, .sl] px1 w14 fun (x81_0 : Int) (x81_1 : Sl) =>
  RUN Tryz.prog (.at .sl) (Instr.buildSlice T.t_sl_sl_int 1 #[(0, x10.v)]) w14 fun (x78 : Sl) w15 =>
  Chg w14 w15 D14 ∧ (
  RUN Tryz.prog (.at .sl) (bsem .append #[T.t_sl_sl_int, T.t_sl_sl_int] T.t_sl_sl_int #[x6.v, x78.v]) w15 fun (x79 : Sl) w16 =>
  Chg w14 w16 D14 ∧ (
  Calls Tryz.prog F.i_WalkProblem_periodOf #[.agg #[.int .i64 x81_0, x81_1.v], x10.v] w16 (Ret [.at (.int .i64)] fun (x83 : Int) w17 =>
  Chg w14 w17 D14 ∧ (
  RUN Tryz.prog (.at .sl) (Instr.buildSlice T.t_sl_int 1 #[(0, .int .i64 x83)]) w17 fun (x84 : Sl) w18 =>
  Chg w14 w18 D14 ∧ (
  RUN Tryz.prog (.at .sl) (bsem .append #[T.t_sl_int, T.t_sl_int] T.t_sl_int #[x7.v, x84.v]) w18 fun (x85 : Sl) w19 =>
  Chg w14 w19 D14 ∧ (
  Chg w14 w19 D14 ∧ (
  I6 x79 x85 (bitOr .i64 x8 x55) (IntKind.i64.wrap (x22 + 1)) w19 ∧ m6 x79 x85 (bitOr .i64 x8 x55) (IntKind.i64.wrap (x22 + 1)) w19 < m6 x6 x7 x8 x22 w5))))))))) (
  I6 x6 x7 (bitOr .i64 x8 x55) (IntKind.i64.wrap (x22 + 1)) w11 ∧ m6 x6 x7 (bitOr .i64 x8 x55) (IntKind.i64.wrap (x22 + 1)) w11 < m6 x6 x7 x8 x22 w5)))))))) (
  Q x6 x7 w5))))))

theorem C_i_WalkProblem_walkComponents {Q : Sl → Sl → World → Prop} {x0_0 : Int} {x0_1 : Sl} {w : World} (h : V_i_WalkProblem_walkComponents Q x0_0 x0_1 w) : Calls Tryz.prog F.i_WalkProblem_walkComponents #[.agg #[.int .i64 x0_0, x0_1.v]] w (Ret [.at .sl, .at .sl] Q) :=
  mkC (hint := hint) (ann := annOf [(6, ⟨[(6, .sl), (7, .sl), (8, .int .i64), (22, .int .i64)], [9, 10, 11, 13, 15, 23, 24, 25, 26, 27, 28, 29, 30, 31, 32, 33, 34, 35, 36, 37, 38, 39, 40, 41, 42, 43, 44, 45, 46, 47, 48, 49, 50, 51, 52, 53, 54, 55, 56, 57, 58, 59, 60, 61, 62, 63, 64, 65, 66, 67, 68, 69, 70, 71, 72, 73, 74, 75, 76, 77, 78, 79, 80, 81, 82, 83, 84, 85, 86]⟩), (12, ⟨[(10, .sl), (36, .int .i64)], [13, 37, 38, 39, 40, 41, 42, 43, 44, 45, 46, 47, 48, 49, 50, 51, 52]⟩), (19, ⟨[(11, .bool), (59, .int .i64)], [15, 60, 61, 62, 63, 64, 65, 66, 67, 68, 69, 70, 71, 72, 73, 74]⟩)]) (args := [.agg #[.int .i64 x0_0, x0_1.v]]) (rs := [.at .sl, .at .sl]) Tryz.func84 (by kernel_rfl) (by kernel_rfl) h

def V_i_threeColours (Q : Sl → Int → World → Prop) (x0 : Sl) (w : World) : Prop :=
  Calls Tryz.prog F.slices_Clone_sl_int_int #[x0.v] w (Ret [.at .sl] fun (x11 : Sl) w1 =>
  ∃ (I2 : Sl → Int → World → Prop) (m2 : Sl → Int → World → Nat), I2 x11 0 w1 ∧ ∀ (x4 : Sl) (x5 : Int) w2, I2 x4 x5 w2 → ∀ _ _ _ _ _ _ _ : Value,
  Calls Tryz.prog F.slices_Max_sl_int_int #[x4.v] w2 (Ret [.at (.int .i64)] fun (x13 : Int) w3 =>
  cond (decide ((x13 : Int) > 5)) (
  Calls Tryz.prog F.i_bitStep #[x4.v] w3 (Ret [.at .sl] fun (x18 : Sl) w4 =>
  I2 x18 (IntKind.i64.wrap (x5 + 1)) w4 ∧ m2 x18 (IntKind.i64.wrap (x5 + 1)) w4 < m2 x4 x5 w2)) (
  ∃ (I7 : Int → Int → World → Prop) (m7 : Int → Int → World → Nat), I7 x5 5 w3 ∧ ∀ (x5_2 : Int) (x7 : Int) w5, I7 x5_2 x7 w5 → ∀ _ _ _ _ _ _ _ _ _ _ _ _ _ _ _ _ _ _ _ _ _ _ _ _ _ _ _ _ _ _ _ _ _ _ _ _ _ _ _ _ _ _ _ _ _ _ _ _ : Value,
  cond (decide ((x7 : Int) > 2)) (
  ∃ (I10 : Int → World → Prop) (m10 : Int → World → Nat), I10 0 w5 ∧ ∀ (x27 : Int) w6, I10 x27 w6 → ∀ _ _ _ _ _ _ _ _ _ _ _ _ _ _ _ _ _ _ _ _ _ _ _ _ _ _ _ _ _ _ _ _ _ _ _ _ _ _ _ : Value,
  cond (decide ((x27 : Int) < x4.len)) (
  IX x4 x27 1 fun (px32 : Addr) =>
  LD [.int .i64] px32 w6 fun (x33 : Int) =>
  cond ((x33 : Int) != x7) (
  I10 (IntKind.i64.wrap (x27 + 1)) w6 ∧ m10 (IntKind.i64.wrap (x27 + 1)) w6 < m10 x27 w6) (
  ∃ (I14 : Int → World → Prop) (m14 : Int → World → Nat), I14 0 w6 ∧ ∀ (x9 : Int) w7, I14 x9 w7 → ∀ _ _ _ _ _ _ _ _ _ _ _ _ _ _ _ _ _ _ _ _ _ _ _ _ : Value,
  (x4.len : Int) ≠ 0 ∧ (
  IX x4 (Int.tmod (IntKind.i64.wrap ((IntKind.i64.wrap (x27 + x4.len)) - 1)) x4.len) 1 fun (px44 : Addr) =>
  LD [.int .i64] px44 w7 fun (x45 : Int) =>
  cond ((x9 : Int) == x45) (
  I14 (IntKind.i64.wrap (x9 + 1)) w7 ∧ m14 (IntKind.i64.wrap (x9 + 1)) w7 < m14 x9 w7) (
  (x4.len : Int) ≠ 0 ∧ (
  IX x4 (Int.tmod (IntKind.i64.wrap (x27 + 1)) x4.len) 1 fun (px54 : Addr) =>
  LD [.int .i64] px54 w7 fun (x55 : Int) =>
  cond ((x9 : Int) == x55) (
  I14 (IntKind.i64.wrap (x9 + 1)) w7 ∧ m14 (IntKind.i64.wrap (x9 + 1)) w7 < m14 x9 w7) (
  IX x4 x27 1 fun (px63_2 : Addr) =>
  ST px63_2 0 [.int .i64 x9] w7 fun w9 =>
  I10 (IntKind.i64.wrap (x27 + 1)) w9 ∧ m10 (IntKind.i64.wrap (x27 + 1)) w9 < m10 x27 w6)))))) (
  I7 (IntKind.i64.wrap (x5_2 + 1)) (IntKind.i64.wrap (x7 - 1)) w6 ∧ m7 (IntKind.i64.wrap (x5_2 + 1)) (IntKind.i64.wrap (x7 - 1)) w6 < m7 x5_2 x7 w5)) (
  Q x4 x5_2 w5))))

theorem C_i_threeColours {Q : Sl → Int → World → Prop} {x0 : Sl} {w : World} (h : V_i_threeColours Q x0 w) : Calls Tryz.prog F.i_threeColours #[x0.v] w (Ret [.at .sl, .at (.int .i64)] Q) :=
  mkC (hint := hint) (ann := annOf [(2, ⟨[(4, .sl), (5, .int .i64)], [12, 13, 14, 15, 16, 17, 18]⟩), (7, ⟨[(5, .int .i64), (7, .int .i64)], [8, 9, 21, 22, 23, 24, 25, 26, 27, 28, 29, 30, 31, 32, 33, 34, 35, 36, 37, 38, 39, 40, 41, 42, 43, 44, 45, 46, 47, 48, 49, 50, 51, 52, 53, 54, 55, 56, 57, 58, 59, 60, 61, 62, 63, 64, 65, 66]⟩), (10, ⟨[(27, .int .i64)], [8, 9, 28, 29, 30, 31, 32, 33, 34, 35, 36, 37, 38, 39, 40, 41, 42, 43, 44, 45, 46, 47, 48, 49, 50, 51, 52, 53, 54, 55, 56, 57, 58, 59, 60, 61, 62, 63, 64]⟩), (14, ⟨[(9, .int .i64)], [36, 37, 38, 39, 40, 41, 42, 43, 44, 45, 46, 47, 48, 49, 50, 51, 52, 53, 54, 55, 56, 57, 58, 59]⟩)]) (args := [x0.v]) (rs := [.at .sl, .at (.int .i64)]) Tryz.func86 (by kernel_rfl) (by kernel_rfl) h

def V_i_images (Q : Sl → World → Prop) (labels : Sl) (f : Sl) (w : World) : Prop :=
  ∃ (I3 : Sl → Int → World → Prop) (m3 : Sl → Int → World → Nat), I3 (⟨none, 0, 0⟩) 0 w ∧ ∀ (out : Sl) (x10 : Int) w1, I3 out x10 w1 → ∀ _ _ _ _ _ _ _ _ _ _ _ _ : Value,
  cond (decide ((x10 : Int) < labels.len)) (
  IX labels x10 1 fun (px12 : Addr) =>
  LD [.int .i64] px12 w1 fun (x13 : Int) =>
  IX f x13 1 fun (px17 : Addr) =>
  LD [.int .i64] px17 w1 fun (x18 : Int) =>
  RUN Tryz.prog (.at .sl) (Instr.buildSlice T.t_sl_int 1 #[(0, .int .i64 x18)]) w1 fun (x19 : Sl) w2 =>
  RUN Tryz.prog (.at .sl) (bsem .append #[T.t_sl_int, T.t_sl_int] T.t_sl_int #[out.v, x19.v]) w2 fun (x20 : Sl) w3 =>
  I3 x20 (IntKind.i64.wrap (x10 + 1)) w3 ∧ m3 x20 (IntKind.i64.wrap (x10 + 1)) w3 < m3 out x10 w1) (
  Q out w1)

theorem C_i_images {Q : Sl → World → Prop} {labels : Sl} {f : Sl} {w : World} (h : V_i_images Q labels f w) : Calls Tryz.prog F.i_images #[labels.v, f.v] w (Ret [.at .sl] Q) :=
  mkC (hint := hint) (ann := annOf [(3, ⟨[(5, .sl), (10, .int .i64)], [7, 11, 12, 13, 14, 15, 16, 17, 18, 19, 20, 21]⟩)]) (args := [labels.v, f.v]) (rs := [.at .sl]) Tryz.func87 (by kernel_rfl) (by kernel_rfl) h

def V_i_cycleMarks (Q : Sl → World → Prop) (x0 : Sl) (w : World) : Prop :=
  RUN Tryz.prog (.at .sl) (Instr.makeSlice T.t_sl_bool (.int .i64 x0.len) (.int .i64 x0.len)) w fun (x12 : Sl) w1 =>
  ∃ (I4 : Int → World → Prop) (m4 : Int → World → Nat), I4 0 w1 ∧ ∀ (x13 : Int) w2, I4 x13 w2 → ∀ _ _ _ _ _ _ _ _ _ _ _ _ _ _ _ _ _ _ _ _ _ _ _ _ _ _ _ _ _ _ _ _ _ _ _ _ _ _ _ _ _ _ : Value,
  cond (decide ((x13 : Int) < 3)) (
  ∃ (I7 : Int → World → Prop) (m7 : Int → World → Nat), I7 0 w2 ∧ ∀ (x18 : Int) w3, I7 x18 w3 → ∀ _ _ _ _ _ _ _ _ _ _ _ _ _ _ _ _ _ _ _ _ _ _ _ _ _ _ _ _ _ _ _ _ _ _ _ : Value,
  cond (decide ((x18 : Int) < x0.len)) (
  IX x0 x18 1 fun (px23 : Addr) =>
  LD [.int .i64] px23 w3 fun (x24 : Int) =>
  cond ((x24 : Int) == x13) (
  (x0.len : Int) ≠ 0 ∧ (
  IX x12 (Int.tmod (IntKind.i64.wrap ((IntKind.i64.wrap (x18 + x0.len)) - 1)) x0.len) 1 fun (px35 : Addr) =>
  LD [.bool] px35 w3 fun (x36 : Bool) =>
  cond (!x36) (
  (x0.len : Int) ≠ 0 ∧ (
  IX x12 (Int.tmod (IntKind.i64.wrap (x18 + 1)) x0.len) 1 fun (px45 : Addr) =>
  LD [.bool] px45 w3 fun (x46 : Bool) =>
  cond (!x46) (
  IX x12 x18 1 fun (px51 : Addr) =>
  ST px51 0 [.bool true] w3 fun w4 =>
  I7 (IntKind.i64.wrap (x18 + 1)) w4 ∧ m7 (IntKind.i64.wrap (x18 + 1)) w4 < m7 x18 w3) (
  I7 (IntKind.i64.wrap (x18 + 1)) w3 ∧ m7 (IntKind.i64.wrap (x18 + 1)) w3 < m7 x18 w3))) (
  I7 (IntKind.i64.wrap (x18 + 1)) w3 ∧ m7 (IntKind.i64.wrap (x18 + 1)) w3 < m7 x18 w3))) (
  I7 (IntKind.i64.wrap (x18 + 1)) w3 ∧ m7 (IntKind.i64.wrap (x18 + 1)) w3 < m7 x18 w3)) (
  I4 (IntKind.i64.wrap (x13 + 1)) w3 ∧ m4 (IntKind.i64.wrap (x13 + 1)) w3 < m4 x13 w2)) (
  ∃ (I15 : Sl → Int → World → Prop) (m15 : Sl → Int → World → Nat), I15 (⟨none, 0, 0⟩) 0 w2 ∧ ∀ (x7 : Sl) (x56 : Int) w5, I15 x7 x56 w5 → ∀ _ _ _ _ _ _ _ _ _ _ _ _ : Value,
  cond (decide ((x56 : Int) < x12.len)) (
  IX x12 x56 1 fun (px61 : Addr) =>
  LD [.bool] px61 w5 fun (x62 : Bool) =>
  cond x62 (
  RUN Tryz.prog (.at .sl) (Instr.buildSlice T.t_sl_int 1 #[(0, .int .i64 x56)]) w5 fun (x65 : Sl) w6 =>
  RUN Tryz.prog (.at .sl) (bsem .append #[T.t_sl_int, T.t_sl_int] T.t_sl_int #[x7.v, x65.v]) w6 fun (x66 : Sl) w7 =>
  I15 x66 (IntKind.i64.wrap (x56 + 1)) w7 ∧ m15 x66 (IntKind.i64.wrap (x56 + 1)) w7 < m15 x7 x56 w5) (
  I15 x7 (IntKind.i64.wrap (x56 + 1)) w5 ∧ m15 x7 (IntKind.i64.wrap (x56 + 1)) w5 < m15 x7 x56 w5)) (
  Q x7 w5))

theorem C_i_cycleMarks {Q : Sl → World → Prop} {x0 : Sl} {w : World} (h : V_i_cycleMarks Q x0 w) : Calls Tryz.prog F.i_cycleMarks #[x0.v] w (Ret [.at .sl] Q) :=
  mkC (hint := hint) (ann := annOf [(4, ⟨[(13, .int .i64)], [5, 6, 14, 15, 16, 17, 18, 19, 20, 21, 22, 23, 24, 25, 26, 27, 28, 29, 30, 31, 32, 33, 34, 35, 36, 37, 38, 39, 40, 41, 42, 43, 44, 45, 46, 47, 48, 49, 50, 51, 52, 53]⟩), (7, ⟨[(18, .int .i64)], [6, 19, 20, 21, 22, 23, 24, 25, 26, 27, 28, 29, 30, 31, 32, 33, 34, 35, 36, 37, 38, 39, 40, 41, 42, 43, 44, 45, 46, 47, 48, 49, 50, 51, 52]⟩), (15, ⟨[(7, .sl), (56, .int .i64)], [8, 57, 58, 59, 60, 61, 62, 63, 64, 65, 66, 67]⟩)]) (args := [x0.v]) (rs := [.at .sl]) Tryz.func88 (by kernel_rfl) (by kernel_rfl) h

def V_slices_Grow_sl_int_int (Q : Sl → World → Prop) (s : Sl) (n : Int) (w : World) : Prop :=
  cond (decide ((n : Int) < 0)) (
  False) (
  RUN Tryz.prog (.at (.int .i64)) (bsem .cap #[T.t_sl_int] T.t_int #[s.v]) w fun (x10 : Int) w1 =>
  cond (decide (((IntKind.i64.wrap (n - (IntKind.i64.wrap (x10 - s.len)))) : Int) > 0)) (
  RUN Tryz.prog (.at (.int .i64)) (bsem .cap #[T.t_sl_int] T.t_int #[s.v]) w1 fun (x19 : Int) w2 =>
  SLC s none (some x19) 1 fun (x20 : Sl) =>
  RUN Tryz.prog (.at .sl) (bsem .append #[T.t_sl_int, T.t_int] T.t_sl_int #[x20.v, .int .i64 (IntKind.i64.wrap (n - (IntKind.i64.wrap (x10 - s.len))))]) w2 fun (x22 : Sl) w3 =>
  SLC x22 none (some s.len) 1 fun (x25 : Sl) =>
  Q x25 w3) (
  Q s w1))

theorem C_slices_Grow_sl_int_int {Q : Sl → World → Prop} {s : Sl} {n : Int} {w : World} (h : V_slices_Grow_sl_int_int Q s n w) : Calls Tryz.prog F.slices_Grow_sl_int_int #[s.v, .int .i64 n] w (Ret [.at .sl] Q) :=
  mkC (hint := hint) (ann := annOf []) (args := [s.v, .int .i64 n]) (rs := [.at .sl]) Tryz.func89 (by kernel_rfl) (by kernel_rfl) h

def V_s_l1All (Q : Bool → World → Prop) (l : Sl) (lo : Int) (hi : Int) (w : World) : Prop :=
  ∃ (I2 : Int → World → Prop) (m2 : Int → World → Nat), I2 0 w ∧ ∀ (x11 : Int) w1, I2 x11 w1 → ∀ _ _ _ _ _ _ _ _ _ _ _ : Value,
  cond (decide ((x11 : Int) < l.len)) (
  IX l x11 1 fun (px13 : Addr) =>
  LD [.int .i64] px13 w1 fun (x14 : Int) =>
  Calls Tryz.prog F.s_l1In #[.int .i64 x14, .int .i64 lo, .int .i64 hi] w1 (Ret [.at .bool] fun (x18 : Bool) w2 =>
  cond (!x18) (
  Q false w2) (
  I2 (IntKind.i64.wrap (x11 + 1)) w2 ∧ m2 (IntKind.i64.wrap (x11 + 1)) w2 < m2 x11 w1))) (
  Q true w1)

theorem C_s_l1All {Q : Bool → World → Prop} {l : Sl} {lo : Int} {hi : Int} {w : World} (h : V_s_l1All Q l lo hi w) : Calls Tryz.prog F.s_l1All #[l.v, .int .i64 lo, .int .i64 hi] w (Ret [.at .bool] Q) :=
  mkC (hint := hint) (ann := annOf [(2, ⟨[(11, .int .i64)], [6, 8, 12, 13, 14, 15, 16, 17, 18, 19, 20]⟩)]) (args := [l.v, .int .i64 lo, .int .i64 hi]) (rs := [.at .bool]) Tryz.func106 (by kernel_rfl) (by kernel_rfl) h

def V_s_prOrder (Q : Int → World → Prop) (a : Sl) (b : Sl) (w : World) : Prop :=
  ∃ (I2 : Int → World → Prop) (m2 : Int → World → Nat), I2 0 w ∧ ∀ (x9 : Int) w1, I2 x9 w1 → ∀ _ _ _ _ _ _ _ _ _ _ _ _ _ _ _ _ _ _ _ _ _ : Value,
  cond (decide ((x9 : Int) < a.len)) (
  IX a x9 1 fun (px12 : Addr) =>
  LD [.int .i64] px12 w1 fun (x13 : Int) =>
  IX b x9 1 fun (px17 : Addr) =>
  LD [.int .i64] px17 w1 fun (x18 : Int) =>
  cond ((x13 : Int) != x18) (
  IX b x9 1 fun (px23 : Addr) =>
  LD [.int .i64] px23 w1 fun (x24 : Int) =>
  Calls Tryz.prog F.s_l1Sign #[.int .i64 (IntKind.i64.wrap (x13 - x24))] w1 (Ret [.at (.int .i64)] fun (x26 : Int) w2 =>
  Q x26 w2)) (
  I2 (IntKind.i64.wrap (x9 + 1)) w1 ∧ m2 (IntKind.i64.wrap (x9 + 1)) w1 < m2 x9 w1)) (
  Q 0 w1)

theorem C_s_prOrder {Q : Int → World → Prop} {a : Sl} {b : Sl} {w : World} (h : V_s_prOrder Q a b w) : Calls Tryz.prog F.s_prOrder #[a.v, b.v] w (Ret [.at (.int .i64)] Q) :=
  mkC (hint := hint) (ann := annOf [(2, ⟨[(9, .int .i64)], [4, 5, 6, 10, 11, 12, 13, 14, 15, 16, 17, 18, 19, 20, 21, 22, 23, 24, 25, 26, 27]⟩)]) (args := [a.v, b.v]) (rs := [.at (.int .i64)]) Tryz.func107 (by kernel_rfl) (by kernel_rfl) h

def V_s_waFlexible (Q : Sl → World → Prop) (p_0 : Int) (p_1 : Sl) (w : World) : Prop :=
  NEW T.t_i_WalkProblem #[.int .i64 p_0, p_1.v] w fun (p_p : Addr) w1 =>
  LD [.int .i64, .sl] p_p w1 fun (x8_0 : Int) (x8_1 : Sl) =>
  Calls Tryz.prog F.s_waParts #[.agg #[.int .i64 x8_0, x8_1.v]] w1 (Ret [.at .sl] fun (x9 : Sl) w2 =>
  ∃ (I3 : Sl → Int → World → Prop) (m3 : Sl → Int → World → Nat), I3 (⟨none, 0, 0⟩) 0 w2 ∧ ∀ (out : Sl) (x11 : Int) w3, I3 out x11 w3 → ∀ _ _ _ _ _ _ _ _ _ _ _ _ _ _ _ _ _ _ _ _ : Value,
  cond (decide ((x11 : Int) < x9.len)) (
  IX x9 x11 3 fun (px13 : Addr) =>
  LD [.sl, .int .i64, .sl] px13 w3 fun (x14_0 : Sl) (x14_1 : Int) (x14_2 : Sl) =>
  NEW T.t_s_waPart #[.slice none 0 0, .int .i64 0, .slice none 0 0] w3 fun (px : Addr) w4 =>
  ST px 0 [x14_0.v, .int .i64 x14_1, x14_2.v] w4 fun w5 =>
  LD [.sl] (px.add 0) w5 fun (x16 : Sl) =>
  ∃ (I6 : Sl → Int → World → Prop) (m6 : Sl → Int → World → Nat), I6 out 0 w5 ∧ ∀ (out_2 : Sl) (x18 : Int) w6, I6 out_2 x18 w6 → ∀ _ _ _ _ _ _ _ _ _ _ _ : Value,
  cond (decide ((x18 : Int) < x16.len)) (
  IX x16 x18 1 fun (px20 : Addr) =>
  LD [.int .i64] px20 w6 fun (x21 : Int) =>
  LD [.int .i64] (px.add 1) w6 fun (x23 : Int) =>
  cond ((x23 : Int) == 1) (
  Calls Tryz.prog F.s_l1Put #[out_2.v, .int .i64 x21] w6 (Ret [.at .sl] fun (x27 : Sl) w7 =>
  I6 x27 (IntKind.i64.wrap (x18 + 1)) w7 ∧ m6 x27 (IntKind.i64.wrap (x18 + 1)) w7 < m6 out_2 x18 w6)) (
  I6 out_2 (IntKind.i64.wrap (x18 + 1)) w6 ∧ m6 out_2 (IntKind.i64.wrap (x18 + 1)) w6 < m6 out_2 x18 w6)) (
  I3 out_2 (IntKind.i64.wrap (x11 + 1)) w6 ∧ m3 out_2 (IntKind.i64.wrap (x11 + 1)) w6 < m3 out x11 w3)) (
  Q out w3))

theorem C_s_waFlexible {Q : Sl → World → Prop} {p_0 : Int} {p_1 : Sl} {w : World} (h : V_s_waFlexible Q p_0 p_1 w) : Calls Tryz.prog F.s_waFlexible #[.agg #[.int .i64 p_0, p_1.v]] w (Ret [.at .sl] Q) :=
  mkC (hint := hint) (ann := annOf [(3, ⟨[(3, .sl), (11, .int .i64)], [5, 7, 12, 13, 14, 15, 16, 17, 18, 19, 20, 21, 22, 23, 24, 25, 26, 27, 28, 29]⟩), (6, ⟨[(3, .sl), (18, .int .i64)], [7, 19, 20, 21, 22, 23, 24, 25, 26, 27, 28]⟩)]) (args := [.agg #[.int .i64 p_0, p_1.v]]) (rs := [.at .sl]) Tryz.func108 (by kernel_rfl) (by kernel_rfl) h

def V_s_waFlexibility (Q : Int → World → Prop) (p_0 : Int) (p_1 : Sl) (a : Int) (w : World) : Prop :=
  NEW T.t_i_WalkProblem #[.int .i64 p_0, p_1.v] w fun (p_p : Addr) w1 =>
  LD [.int .i64, .sl] p_p w1 fun (x7_0 : Int) (x7_1 : Sl) =>
  LD [.int .i64] (p_p.add 0) w1 fun (x9 : Int) =>
  LD [.int .i64] (p_p.add 0) w1 fun (x11 : Int) =>
  Calls Tryz.prog F.s_waPowers #[.agg #[.int .i64 x7_0, x7_1.v], .int .i64 (IntKind.i64.wrap ((IntKind.i64.wrap (x9 * x11)) + 1))] w1 (Ret [.at .sl] fun (x14 : Sl) w2 =>
  ∃ (I3 : Int → World → Prop) (m3 : Int → World → Nat), I3 (IntKind.i64.wrap (x14.len - 1)) w2 ∧ ∀ (k : Int) w3, I3 k w3 → ∀ _ _ _ _ _ _ _ _ _ _ _ _ _ _ _ _ : Value,
  cond (decide ((k : Int) > 0)) (
  IX x14 k 1 fun (px23 : Addr) =>
  LD [.sl] px23 w3 fun (x24 : Sl) =>
  IX x24 a 1 fun (px26 : Addr) =>
  LD [.sl] px26 w3 fun (x27 : Sl) =>
  IX x27 a 1 fun (px29 : Addr) =>
  LD [.bool] px29 w3 fun (x30 : Bool) =>
  cond x30 (
  I3 (IntKind.i64.wrap (k - 1)) w3 ∧ m3 (IntKind.i64.wrap (k - 1)) w3 < m3 k w3) (
  Q (IntKind.i64.wrap (k + 1)) w3)) (
  Q (IntKind.i64.wrap (k + 1)) w3))

theorem C_s_waFlexibility {Q : Int → World → Prop} {p_0 : Int} {p_1 : Sl} {a : Int} {w : World} (h : V_s_waFlexibility Q p_0 p_1 a w) : Calls Tryz.prog F.s_waFlexibility #[.agg #[.int .i64 p_0, p_1.v], .int .i64 a] w (Ret [.at (.int .i64)] Q) :=
  mkC (hint := hint) (ann := annOf [(3, ⟨[(6, .int .i64)], [18, 19, 20, 21, 22, 23, 24, 25, 26, 27, 28, 29, 30, 31, 32, 33]⟩)]) (args := [.agg #[.int .i64 p_0, p_1.v], .int .i64 a]) (rs := [.at (.int .i64)]) Tryz.func109 (by kernel_rfl) (by kernel_rfl) h

def V_s_cyBit (Q : Sl → World → Prop) (l : Sl) (w : World) : Prop :=
  ∃ (I3 : Sl → Int → World → Prop) (m3 : Sl → Int → World → Nat), I3 (⟨none, 0, 0⟩) 0 w ∧ ∀ (out : Sl) (x9 : Int) w1, I3 out x9 w1 → ∀ _ _ _ _ _ _ _ _ _ _ _ _ _ _ _ _ _ _ _ _ _ _ _ _ _ _ _ : Value,
  cond (decide ((x9 : Int) < l.len)) (
  IX l x9 1 fun (px12 : Addr) =>
  LD [.int .i64] px12 w1 fun (x13 : Int) =>
  (l.len : Int) ≠ 0 ∧ (
  IX l (Int.tmod (IntKind.i64.wrap (x9 + 1)) l.len) 1 fun (px21 : Addr) =>
  LD [.int .i64] px21 w1 fun (x22 : Int) =>
  Calls Tryz.prog F.s_nuDiffer #[.int .i64 x13, .int .i64 x22] w1 (Ret [.at (.int .i64)] fun (x23 : Int) w2 =>
  Calls Tryz.prog F.s_nuBit #[.int .i64 x13, .int .i64 x23] w2 (Ret [.at (.int .i64)] fun (x29 : Int) w3 =>
  RUN Tryz.prog (.at .sl) (Instr.buildSlice T.t_sl_int 1 #[(0, .int .i64 (IntKind.i64.wrap ((IntKind.i64.wrap (2 * x23)) + x29)))]) w3 fun (x31 : Sl) w4 =>
  RUN Tryz.prog (.at .sl) (bsem .append #[T.t_sl_int, T.t_sl_int] T.t_sl_int #[out.v, x31.v]) w4 fun (x32 : Sl) w5 =>
  I3 x32 (IntKind.i64.wrap (x9 + 1)) w5 ∧ m3 x32 (IntKind.i64.wrap (x9 + 1)) w5 < m3 out x9 w1)))) (
  Q out w1)

theorem C_s_cyBit {Q : Sl → World → Prop} {l : Sl} {w : World} (h : V_s_cyBit Q l w) : Calls Tryz.prog F.s_cyBit #[l.v] w (Ret [.at .sl] Q) :=
  mkC (hint := hint) (ann := annOf [(3, ⟨[(3, .sl), (9, .int .i64)], [4, 5, 6, 10, 11, 12, 13, 14, 15, 16, 17, 18, 19, 20, 21, 22, 23, 24, 25, 26, 27, 28, 29, 30, 31, 32, 33]⟩)]) (args := [l.v]) (rs := [.at .sl]) Tryz.func110 (by kernel_rfl) (by kernel_rfl) h

def V_s_cyFree (Q : Int → World → Prop) (a : Int) (b : Int) (w : World) : Prop :=
  ∃ (I2 : Int → World → Prop) (m2 : Int → World → Nat), I2 0 w ∧ ∀ (x : Int) w1, I2 x w1 → ∀ _ _ _ _ _ _ _ _ _ _ _ _ _ _ : Value,
  cond (decide ((x : Int) < 2)) (
  cond ((x : Int) != a) (
  cond ((x : Int) != b) (
  Q x w1) (
  I2 (IntKind.i64.wrap (x + 1)) w1 ∧ m2 (IntKind.i64.wrap (x + 1)) w1 < m2 x w1)) (
  I2 (IntKind.i64.wrap (x + 1)) w1 ∧ m2 (IntKind.i64.wrap (x + 1)) w1 < m2 x w1)) (
  Q 2 w1)

theorem C_s_cyFree {Q : Int → World → Prop} {a : Int} {b : Int} {w : World} (h : V_s_cyFree Q a b w) : Calls Tryz.prog F.s_cyFree #[.int .i64 a, .int .i64 b] w (Ret [.at (.int .i64)] Q) :=
  mkC (hint := hint) (ann := annOf [(2, ⟨[(5, .int .i64)], [4, 6, 7, 8, 9, 10, 11, 12, 13, 14, 15, 16, 17, 18]⟩)]) (args := [.int .i64 a, .int .i64 b]) (rs := [.at (.int .i64)]) Tryz.func111 (by kernel_rfl) (by kernel_rfl) h

def V_s_waPowers (Q : Sl → World → Prop) (p_0 : Int) (p_1 : Sl) (most : Int) (w : World) : Prop :=
  NEW T.t_i_WalkProblem #[.int .i64 p_0, p_1.v] w fun (p_p : Addr) w1 =>
  LD [.int .i64] (p_p.add 0) w1 fun (x10 : Int) =>
  Calls Tryz.prog F.s_waMay #[.agg #[.int .i64 x10, .slice none 0 0]] w1 (Ret [.at .sl] fun (x12 : Sl) w2 =>
  ∃ (I3 : Int → World → Prop) (m3 : Int → World → Nat), I3 0 w2 ∧ ∀ (x15 : Int) w3, I3 x15 w3 → ∀ _ _ _ _ _ _ _ _ _ _ : Value,
  cond (decide ((x15 : Int) < x12.len)) (
  IX x12 x15 1 fun (px20 : Addr) =>
  LD [.sl] px20 w3 fun (x21 : Sl) =>
  IX x21 x15 1 fun (px23 : Addr) =>
  ST px23 0 [.bool true] w3 fun w4 =>
  I3 (IntKind.i64.wrap (x15 + 1)) w4 ∧ m3 (IntKind.i64.wrap (x15 + 1)) w4 < m3 x15 w3) (
  RUN Tryz.prog (.at .sl) (Instr.buildSlice T.t_sl_sl_sl_bool 1 #[(0, x12.v)]) w3 fun (x26 : Sl) w5 =>
  LD [.int .i64, .sl] p_p w5 fun (x27_0 : Int) (x27_1 : Sl) =>
  Calls Tryz.prog F.s_waMay #[.agg #[.int .i64 x27_0, x27_1.v]] w5 (Ret [.at .sl] fun (x28 : Sl) w6 =>
  ∃ (I9 : Sl → World → Prop) (m9 : Sl → World → Nat), I9 x26 w6 ∧ ∀ (out : Sl) w7, I9 out w7 → ∀ _ _ _ _ _ _ _ _ _ _ _ _ _ _ _ : Value,
  cond (decide ((out.len : Int) ≤ most)) (
  IX out (IntKind.i64.wrap (out.len - 1)) 1 fun (px38 : Addr) =>
  LD [.sl] px38 w7 fun (x39 : Sl) =>
  Calls Tryz.prog F.s_waTimes #[x39.v, x28.v] w7 (Ret [.at .sl] fun (x41 : Sl) w8 =>
  RUN Tryz.prog (.at .sl) (Instr.buildSlice T.t_sl_sl_sl_bool 1 #[(0, x41.v)]) w8 fun (x42 : Sl) w9 =>
  RUN Tryz.prog (.at .sl) (bsem .append #[T.t_sl_sl_sl_bool, T.t_sl_sl_sl_bool] T.t_sl_sl_sl_bool #[out.v, x42.v]) w9 fun (x43 : Sl) w10 =>
  I9 x43 w10 ∧ m9 x43 w10 < m9 out w7)) (
  Q out w7))))

theorem C_s_waPowers {Q : Sl → World → Prop} {p_0 : Int} {p_1 : Sl} {most : Int} {w : World} (h : V_s_waPowers Q p_0 p_1 most w) : Calls Tryz.prog F.s_waPowers #[.agg #[.int .i64 p_0, p_1.v], .int .i64 most] w (Ret [.at .sl] Q) :=
  mkC (hint := hint) (ann := annOf [(3, ⟨[(15, .int .i64)], [6, 16, 17, 18, 19, 20, 21, 22, 23, 24]⟩), (9, ⟨[(7, .sl)], [29, 30, 31, 32, 33, 34, 35, 36, 37, 38, 39, 40, 41, 42, 43]⟩)]) (args := [.agg #[.int .i64 p_0, p_1.v], .int .i64 most]) (rs := [.at .sl]) Tryz.func112 (by kernel_rfl) (by kernel_rfl) h

def V_s_waMay (Q : Sl → World → Prop) (p_0 : Int) (p_1 : Sl) (w : World) : Prop :=
  NEW T.t_i_WalkProblem #[.int .i64 p_0, p_1.v] w fun (p_p : Addr) w1 =>
  ∃ (I3 : Sl → Int → World → Prop) (m3 : Sl → Int → World → Nat), I3 (⟨none, 0, 0⟩) 0 w1 ∧ ∀ (out : Sl) (a : Int) w2, I3 out a w2 → ∀ _ _ _ _ _ _ _ _ _ _ _ _ : Value,
  LD [.int .i64] (p_p.add 0) w2 fun (x9 : Int) =>
  cond (decide ((a : Int) < x9)) (
  LD [.int .i64] (p_p.add 0) w2 fun (x15 : Int) =>
  RUN Tryz.prog (.at .sl) (Instr.makeSlice T.t_sl_bool (.int .i64 x15) (.int .i64 x15)) w2 fun (x16 : Sl) w3 =>
  RUN Tryz.prog (.at .sl) (Instr.buildSlice T.t_sl_sl_bool 1 #[(0, x16.v)]) w3 fun (x17 : Sl) w4 =>
  RUN Tryz.prog (.at .sl) (bsem .append #[T.t_sl_sl_bool, T.t_sl_sl_bool] T.t_sl_sl_bool #[out.v, x17.v]) w4 fun (x18 : Sl) w5 =>
  I3 x18 (IntKind.i64.wrap (a + 1)) w5 ∧ m3 x18 (IntKind.i64.wrap (a + 1)) w5 < m3 out a w2) (
  LD [.sl] (p_p.add 1) w2 fun (x20 : Sl) =>
  ∃ (I7 : Int → World → Prop) (m7 : Int → World → Nat), I7 0 w2 ∧ ∀ (x22 : Int) w6, I7 x22 w6 → ∀ _ _ _ _ _ _ _ _ _ _ _ _ _ _ _ : Value,
  cond (decide ((x22 : Int) < x20.len)) (
  IX x20 x22 1 fun (px24 : Addr) =>
  LD [.sl] px24 w6 fun (x25 : Sl) =>
  ∀ w7, Ext w6 w7 → w7.heap = w6.heap → ∃ (D7 : Nat → Prop),
  IX x25 0 1 fun (px28 : Addr) =>
  ¬ D7 px28.block ∧ (
  LD [.int .i64] px28 w7 fun (x29 : Int) =>
  IX out x29 1 fun (px30 : Addr) =>
  ¬ D7 px30.block ∧ (
  LD [.sl] px30 w7 fun (x31 : Sl) =>
  Chg w7 w7 D7 ∧ (
  IX x25 1 1 fun (px33 : Addr) =>
  Chg w7 w7 D7 ∧ (
  LD [.int .i64] px33 w7 fun (x34 : Int) =>
  Chg w7 w7 D7 ∧ (
  IX x31 x34 1 fun (px35 : Addr) =>
  ST px35 0 [.bool true] w7 fun w8 =>
  I7 (IntKind.i64.wrap (x22 + 1)) w8 ∧ m7 (IntKind.i64.wrap (x22 + 1)) w8 < m7 x22 w6)))))) (
  Q out w6))

theorem C_s_waMay {Q : Sl → World → Prop} {p_0 : Int} {p_1 : Sl} {w : World} (h : V_s_waMay Q p_0 p_1 w) : Calls Tryz.prog F.s_waMay #[.agg #[.int .i64 p_0, p_1.v]] w (Ret [.at .sl] Q) :=
  mkC (hint := hint) (ann := annOf [(3, ⟨[(3, .sl), (4, .int .i64)], [7, 8, 9, 10, 11, 12, 13, 14, 15, 16, 17, 18]⟩), (7, ⟨[(22, .int .i64)], [6, 23, 24, 25, 26, 27, 28, 29, 30, 31, 32, 33, 34, 35, 36]⟩)]) (args := [.agg #[.int .i64 p_0, p_1.v]]) (rs := [.at .sl]) Tryz.func113 (by kernel_rfl) (by kernel_rfl) h

def V_i_allWithin (Q : Bool → World → Prop) (list : Sl) (low : Int) (high : Int) (w : World) : Prop :=
  NEW T.t_int #[.int .i64 low] w fun (p_low : Addr) w1 =>
  NEW T.t_int #[.int .i64 high] w1 fun (p_high : Addr) w2 =>
  Calls Tryz.prog F.slices_ContainsFunc_sl_int_int #[list.v, .func (.func F.i_allWithin_1) #[] #[.pointer (some p_low), .pointer (some p_high)]] w2 (Ret [.at .bool] fun (x9 : Bool) w3 =>
  Q (!x9) w3)

theorem C_i_allWithin {Q : Bool → World → Prop} {list : Sl} {low : Int} {high : Int} {w : World} (h : V_i_allWithin Q list low high w) : Calls Tryz.prog F.i_allWithin #[list.v, .int .i64 low, .int .i64 high] w (Ret [.at .bool] Q) :=
  mkC (hint := hint) (ann := annOf []) (args := [list.v, .int .i64 low, .int .i64 high]) (rs := [.at .bool]) Tryz.func114 (by kernel_rfl) (by kernel_rfl) h

def V_slices_Clone_sl_int_int (Q : Sl → World → Prop) (s : Sl) (w : World) : Prop :=
  cond s.a.isNone (
  Q (⟨none, 0, 0⟩) w) (
  RUN Tryz.prog (.at .sl) (Instr.buildSlice T.t_sl_int 0 #[]) w fun (x5 : Sl) w1 =>
  RUN Tryz.prog (.at .sl) (bsem .append #[T.t_sl_int, T.t_sl_int] T.t_sl_int #[x5.v, s.v]) w1 fun (x7 : Sl) w2 =>
  Q x7 w2)

theorem C_slices_Clone_sl_int_int {Q : Sl → World → Prop} {s : Sl} {w : World} (h : V_slices_Clone_sl_int_int Q s w) : Calls Tryz.prog F.slices_Clone_sl_int_int #[s.v] w (Ret [.at .sl] Q) :=
  mkC (hint := hint) (ann := annOf []) (args := [s.v]) (rs := [.at .sl]) Tryz.func116 (by kernel_rfl) (by kernel_rfl) h

def V_i_increasing (Q : Bool → World → Prop) (list : Sl) (low : Int) (high : Int) (w : World) : Prop :=
  ∃ (I2 : Int → World → Prop) (m2 : Int → World → Nat), I2 0 w ∧ ∀ (x11 : Int) w1, I2 x11 w1 → ∀ _ _ _ _ _ _ _ _ _ _ _ _ _ _ _ _ _ _ _ _ _ _ _ _ _ _ : Value,
  cond (decide ((x11 : Int) < list.len)) (
  IX list x11 1 fun (px14 : Addr) =>
  LD [.int .i64] px14 w1 fun (x15 : Int) =>
  Calls Tryz.prog F.i_within #[.int .i64 x15, .int .i64 low, .int .i64 high] w1 (Ret [.at .bool] fun (x19 : Bool) w2 =>
  cond (!x19) (
  Q false w2) (
  cond (decide ((x11 : Int) > 0)) (
  IX list (IntKind.i64.wrap (x11 - 1)) 1 fun (px28 : Addr) =>
  LD [.int .i64] px28 w2 fun (x29 : Int) =>
  cond (decide ((x29 : Int) ≥ x15)) (
  Q false w2) (
  I2 (IntKind.i64.wrap (x11 + 1)) w2 ∧ m2 (IntKind.i64.wrap (x11 + 1)) w2 < m2 x11 w1)) (
  I2 (IntKind.i64.wrap (x11 + 1)) w2 ∧ m2 (IntKind.i64.wrap (x11 + 1)) w2 < m2 x11 w1)))) (
  Q true w1)

theorem C_i_increasing {Q : Bool → World → Prop} {list : Sl} {low : Int} {high : Int} {w : World} (h : V_i_increasing Q list low high w) : Calls Tryz.prog F.i_increasing #[list.v, .int .i64 low, .int .i64 high] w (Ret [.at .bool] Q) :=
  mkC (hint := hint) (ann := annOf [(2, ⟨[(11, .int .i64)], [6, 7, 8, 12, 13, 14, 15, 16, 17, 18, 19, 20, 21, 22, 23, 24, 25, 26, 27, 28, 29, 30, 31, 32, 33, 34]⟩)]) (args := [list.v, .int .i64 low, .int .i64 high]) (rs := [.at .bool]) Tryz.func117 (by kernel_rfl) (by kernel_rfl) h

def V_math_bits_Mul64 (Q : Int → Int → World → Prop) (x : Int) (y : Int) (w : World) : Prop :=
  (0 : Int) ≤ 32 ∧ (
  (0 : Int) ≤ 32 ∧ (
  (0 : Int) ≤ 32 ∧ (
  (0 : Int) ≤ 32 ∧ (
  (0 : Int) ≤ 32 ∧ (
  Q (IntKind.u64.wrap ((IntKind.u64.wrap ((IntKind.u64.wrap ((shrI .u64 x 32) * (shrI .u64 y 32))) + (shrI .u64 (IntKind.u64.wrap ((IntKind.u64.wrap ((shrI .u64 x 32) * (bitAnd .u64 y 4294967295))) + (shrI .u64 (IntKind.u64.wrap ((bitAnd .u64 x 4294967295) * (bitAnd .u64 y 4294967295))) 32))) 32))) + (shrI .u64 (IntKind.u64.wrap ((bitAnd .u64 (IntKind.u64.wrap ((IntKind.u64.wrap ((shrI .u64 x 32) * (bitAnd .u64 y 4294967295))) + (shrI .u64 (IntKind.u64.wrap ((bitAnd .u64 x 4294967295) * (bitAnd .u64 y 4294967295))) 32))) 4294967295) + (IntKind.u64.wrap ((bitAnd .u64 x 4294967295) * (shrI .u64 y 32))))) 32))) (IntKind.u64.wrap (x * y)) w)))))

theorem C_math_bits_Mul64 {Q : Int → Int → World → Prop} {x : Int} {y : Int} {w : World} (h : V_math_bits_Mul64 Q x y w) : Calls Tryz.prog F.math_bits_Mul64 #[.int .u64 x, .int .u64 y] w (Ret [.at (.int .u64), .at (.int .u64)] Q) :=
  mkC (hint := hint) (ann := annOf []) (args := [.int .u64 x, .int .u64 y]) (rs := [.at (.int .u64), .at (.int .u64)]) Tryz.func119 (by kernel_rfl) (by kernel_rfl) h

def V_i_WalkProblem_reached (Q : Sl → World → Prop) (p_0 : Int) (p_1 : Sl) (a : Int) (most : Int) (w : World) : Prop :=
  NEW T.t_i_WalkProblem #[.int .i64 p_0, p_1.v] w fun (p_p : Addr) w1 =>
  LD [.int .i64, .sl] p_p w1 fun (x13_0 : Int) (x13_1 : Sl) =>
  Calls Tryz.prog F.i_WalkProblem_after #[.agg #[.int .i64 x13_0, x13_1.v]] w1 (Ret [.at .sl] fun (x14 : Sl) w2 =>
  (0 : Int) ≤ a ∧ (
  RUN Tryz.prog (.at .sl) (Instr.buildSlice T.t_sl_int 1 #[(0, .int .i64 (shlI .i64 1 a))]) w2 fun (x17 : Sl) w3 =>
  ∃ (I4 : Sl → Int → World → Prop) (m4 : Sl → Int → World → Nat), I4 x17 0 w3 ∧ ∀ (out : Sl) (x19 : Int) w4, I4 out x19 w4 → ∀ _ _ _ _ _ _ _ _ _ _ _ _ _ _ _ _ _ _ _ _ _ _ _ _ _ _ _ : Value,
  cond (decide ((x19 : Int) < most)) (
  IX out x19 1 fun (px24 : Addr) =>
  LD [.int .i64] px24 w4 fun (x25 : Int) =>
  Calls Tryz.prog F.i_labelsIn #[.int .i64 x25] w4 (Ret [.at .sl] fun (x26 : Sl) w5 =>
  ∃ (I8 : Int → Int → World → Prop) (m8 : Int → Int → World → Nat), I8 0 0 w5 ∧ ∀ (next1 : Int) (x28 : Int) w6, I8 next1 x28 w6 → ∀ _ _ _ _ _ _ _ _ _ _ _ : Value,
  cond (decide ((x28 : Int) < x26.len)) (
  IX x26 x28 1 fun (px30 : Addr) =>
  LD [.int .i64] px30 w6 fun (x31 : Int) =>
  IX x14 x31 1 fun (px35 : Addr) =>
  LD [.int .i64] px35 w6 fun (x36 : Int) =>
  I8 (bitOr .i64 next1 x36) (IntKind.i64.wrap (x28 + 1)) w6 ∧ m8 (bitOr .i64 next1 x36) (IntKind.i64.wrap (x28 + 1)) w6 < m8 next1 x28 w6) (
  RUN Tryz.prog (.at .sl) (Instr.buildSlice T.t_sl_int 1 #[(0, .int .i64 next1)]) w6 fun (x41 : Sl) w7 =>
  RUN Tryz.prog (.at .sl) (bsem .append #[T.t_sl_int, T.t_sl_int] T.t_sl_int #[out.v, x41.v]) w7 fun (x42 : Sl) w8 =>
  I4 x42 (IntKind.i64.wrap (x19 + 1)) w8 ∧ m4 x42 (IntKind.i64.wrap (x19 + 1)) w8 < m4 out x19 w4))) (
  Q out w4)))

theorem C_i_WalkProblem_reached {Q : Sl → World → Prop} {p_0 : Int} {p_1 : Sl} {a : Int} {most : Int} {w : World} (h : V_i_WalkProblem_reached Q p_0 p_1 a most w) : Calls Tryz.prog F.i_WalkProblem_reached #[.agg #[.int .i64 p_0, p_1.v], .int .i64 a, .int .i64 most] w (Ret [.at .sl] Q) :=
  mkC (hint := hint) (ann := annOf [(4, ⟨[(8, .sl), (19, .int .i64)], [9, 10, 12, 20, 21, 22, 23, 24, 25, 26, 27, 28, 29, 30, 31, 32, 33, 34, 35, 36, 37, 38, 39, 40, 41, 42, 43]⟩), (8, ⟨[(10, .int .i64), (28, .int .i64)], [12, 29, 30, 31, 32, 33, 34, 35, 36, 37, 38]⟩)]) (args := [.agg #[.int .i64 p_0, p_1.v], .int .i64 a, .int .i64 most]) (rs := [.at .sl]) Tryz.func120 (by kernel_rfl) (by kernel_rfl) h

def V_i_labelsIn (Q : Sl → World → Prop) (set1 : Int) (w : World) : Prop :=
  ∃ (I3 : Sl → Int → World → Prop) (m3 : Sl → Int → World → Nat), I3 (⟨none, 0, 0⟩) 0 w ∧ ∀ (out : Sl) (a : Int) w1, I3 out a w1 → ∀ _ _ _ _ _ _ _ _ _ _ _ _ _ _ _ : Value,
  (0 : Int) ≤ a ∧ (
  cond (((shrI .i64 set1 a) : Int) != 0) (
  (0 : Int) ≤ a ∧ (
  cond (((bitAnd .i64 (shrI .i64 set1 a) 1) : Int) == 1) (
  RUN Tryz.prog (.at .sl) (Instr.buildSlice T.t_sl_int 1 #[(0, .int .i64 a)]) w1 fun (x18 : Sl) w2 =>
  RUN Tryz.prog (.at .sl) (bsem .append #[T.t_sl_int, T.t_sl_int] T.t_sl_int #[out.v, x18.v]) w2 fun (x19 : Sl) w3 =>
  I3 x19 (IntKind.i64.wrap (a + 1)) w3 ∧ m3 x19 (IntKind.i64.wrap (a + 1)) w3 < m3 out a w1) (
  I3 out (IntKind.i64.wrap (a + 1)) w1 ∧ m3 out (IntKind.i64.wrap (a + 1)) w1 < m3 out a w1))) (
  Q out w1))

theorem C_i_labelsIn {Q : Sl → World → Prop} {set1 : Int} {w : World} (h : V_i_labelsIn Q set1 w) : Calls Tryz.prog F.i_labelsIn #[.int .i64 set1] w (Ret [.at .sl] Q) :=
  mkC (hint := hint) (ann := annOf [(3, ⟨[(3, .sl), (4, .int .i64)], [5, 6, 7, 8, 9, 10, 11, 12, 13, 14, 15, 16, 17, 18, 19]⟩)]) (args := [.int .i64 set1]) (rs := [.at .sl]) Tryz.func121 (by kernel_rfl) (by kernel_rfl) h

def V_i_WalkProblem_closure (Q : Sl → World → Prop) (p_0 : Int) (p_1 : Sl) (w : World) : Prop :=
  NEW T.t_i_WalkProblem #[.int .i64 p_0, p_1.v] w fun (p_p : Addr) w1 =>
  LD [.int .i64] (p_p.add 0) w1 fun (x8 : Int) =>
  RUN Tryz.prog (.at .sl) (Instr.makeSlice T.t_sl_int (.int .i64 x8) (.int .i64 x8)) w1 fun (x9 : Sl) w2 =>
  ∃ (I3 : Int → World → Prop) (m3 : Int → World → Nat), I3 0 w2 ∧ ∀ (x12 : Int) w3, I3 x12 w3 → ∀ _ _ _ _ _ _ _ _ _ _ _ _ _ _ _ _ _ _ _ _ _ _ _ : Value,
  cond (decide ((x12 : Int) < x9.len)) (
  LD [.int .i64, .sl] p_p w3 fun (x15_0 : Int) (x15_1 : Sl) =>
  LD [.int .i64] (p_p.add 0) w3 fun (x18 : Int) =>
  Calls Tryz.prog F.i_WalkProblem_reached #[.agg #[.int .i64 x15_0, x15_1.v], .int .i64 x12, .int .i64 x18] w3 (Ret [.at .sl] fun (x19 : Sl) w4 =>
  ∃ (I6 : Int → World → Prop) (m6 : Int → World → Nat), I6 0 w4 ∧ ∀ (x21 : Int) w5, I6 x21 w5 → ∀ _ _ _ _ _ _ _ _ _ _ _ _ : Value,
  cond (decide ((x21 : Int) < x19.len)) (
  IX x19 x21 1 fun (px23 : Addr) =>
  LD [.int .i64] px23 w5 fun (x24 : Int) =>
  IX x9 x12 1 fun (px27 : Addr) =>
  LD [.int .i64] px27 w5 fun (x28 : Int) =>
  IX x9 x12 1 fun (px31 : Addr) =>
  ST px31 0 [.int .i64 (bitOr .i64 x28 x24)] w5 fun w6 =>
  I6 (IntKind.i64.wrap (x21 + 1)) w6 ∧ m6 (IntKind.i64.wrap (x21 + 1)) w6 < m6 x21 w5) (
  I3 (IntKind.i64.wrap (x12 + 1)) w5 ∧ m3 (IntKind.i64.wrap (x12 + 1)) w5 < m3 x12 w3))) (
  Q x9 w3)

theorem C_i_WalkProblem_closure {Q : Sl → World → Prop} {p_0 : Int} {p_1 : Sl} {w : World} (h : V_i_WalkProblem_closure Q p_0 p_1 w) : Calls Tryz.prog F.i_WalkProblem_closure #[.agg #[.int .i64 p_0, p_1.v]] w (Ret [.at .sl] Q) :=
  mkC (hint := hint) (ann := annOf [(3, ⟨[(12, .int .i64)], [4, 6, 13, 14, 15, 16, 17, 18, 19, 20, 21, 22, 23, 24, 25, 26, 27, 28, 29, 30, 31, 32, 33]⟩), (6, ⟨[(21, .int .i64)], [6, 22, 23, 24, 25, 26, 27, 28, 29, 30, 31, 32]⟩)]) (args := [.agg #[.int .i64 p_0, p_1.v]]) (rs := [.at .sl]) Tryz.func122 (by kernel_rfl) (by kernel_rfl) h

def V_i_setOf (Q : Int → World → Prop) (labels : Sl) (w : World) : Prop :=
  ∃ (I3 : Int → Int → World → Prop) (m3 : Int → Int → World → Nat), I3 0 0 w ∧ ∀ (set1 : Int) (x8 : Int) w1, I3 set1 x8 w1 → ∀ _ _ _ _ _ _ _ _ _ : Value,
  cond (decide ((x8 : Int) < labels.len)) (
  IX labels x8 1 fun (px10 : Addr) =>
  LD [.int .i64] px10 w1 fun (x11 : Int) =>
  (0 : Int) ≤ x11 ∧ (
  I3 (bitOr .i64 set1 (shlI .i64 1 x11)) (IntKind.i64.wrap (x8 + 1)) w1 ∧ m3 (bitOr .i64 set1 (shlI .i64 1 x11)) (IntKind.i64.wrap (x8 + 1)) w1 < m3 set1 x8 w1)) (
  Q set1 w1)

theorem C_i_setOf {Q : Int → World → Prop} {labels : Sl} {w : World} (h : V_i_setOf Q labels w) : Calls Tryz.prog F.i_setOf #[labels.v] w (Ret [.at (.int .i64)] Q) :=
  mkC (hint := hint) (ann := annOf [(3, ⟨[(3, .int .i64), (8, .int .i64)], [5, 9, 10, 11, 12, 13, 14, 15, 16]⟩)]) (args := [labels.v]) (rs := [.at (.int .i64)]) Tryz.func123 (by kernel_rfl) (by kernel_rfl) h

def V_i_WalkProblem_periodOf (Q : Int → World → Prop) (p_0 : Int) (p_1 : Sl) (component : Sl) (w : World) : Prop :=
  NEW T.t_i_WalkProblem #[.int .i64 p_0, p_1.v] w fun (p_p : Addr) w1 =>
  ∀ w2, Ext w1 w2 → w2.heap = w1.heap →
  LD [.int .i64, .sl] p_p w2 fun (x10_0 : Int) (x10_1 : Sl) =>
  Ext w2 w2 ∧ (
  IX component 0 1 fun (px12 : Addr) =>
  Ext w2 w2 ∧ (
  LD [.int .i64] px12 w2 fun (x13 : Int) =>
  Ext w2 w2 ∧ (
  Calls Tryz.prog F.i_WalkProblem_distancesIn #[.agg #[.int .i64 x10_0, x10_1.v], .int .i64 x13] w2 (Ret [.at .sl] fun (x14 : Sl) w3 =>
  LD [.sl] (p_p.add 1) w3 fun (x16 : Sl) =>
  ∃ (I4 : Int → Int → World → Prop) (m4 : Int → Int → World → Nat), I4 0 0 w3 ∧ ∀ (d : Int) (x18 : Int) w4, I4 d x18 w4 → ∀ _ _ _ _ _ _ _ _ _ _ _ _ _ _ _ _ _ _ _ _ _ _ _ _ _ _ _ _ _ _ _ _ _ _ _ _ _ _ _ : Value,
  cond (decide ((x18 : Int) < x16.len)) (
  IX x16 x18 1 fun (px20 : Addr) =>
  LD [.sl] px20 w4 fun (x21 : Sl) =>
  IX x21 0 1 fun (px24 : Addr) =>
  LD [.int .i64] px24 w4 fun (x25 : Int) =>
  Calls Tryz.prog F.slices_Contains_sl_int_int #[component.v, .int .i64 x25] w4 (Ret [.at .bool] fun (x26 : Bool) w5 =>
  cond x26 (
  IX x21 1 1 fun (px30 : Addr) =>
  LD [.int .i64] px30 w5 fun (x31 : Int) =>
  Calls Tryz.prog F.slices_Contains_sl_int_int #[component.v, .int .i64 x31] w5 (Ret [.at .bool] fun (x32 : Bool) w6 =>
  cond x32 (
  IX x21 0 1 fun (px36 : Addr) =>
  LD [.int .i64] px36 w6 fun (x37 : Int) =>
  IX x14 x37 1 fun (px38 : Addr) =>
  LD [.int .i64] px38 w6 fun (x39 : Int) =>
  IX x21 1 1 fun (px43 : Addr) =>
  LD [.int .i64] px43 w6 fun (x44 : Int) =>
  IX x14 x44 1 fun (px45 : Addr) =>
  LD [.int .i64] px45 w6 fun (x46 : Int) =>
  ∀ w7, Ext w6 w7 →
  RUN Tryz.prog (.at (.int .i64)) (bsem .max #[T.t_int, T.t_int] T.t_int #[.int .i64 (IntKind.i64.wrap ((IntKind.i64.wrap (x39 + 1)) - x46)), .int .i64 (IntKind.i64.wrap (0 - (IntKind.i64.wrap ((IntKind.i64.wrap (x39 + 1)) - x46))))]) w7 fun (x52 : Int) w8 =>
  RUN Tryz.prog (.at .sl) (Instr.buildSlice T.t_sl_int 2 #[(0, .int .i64 d), (1, .int .i64 x52)]) w8 fun (x53 : Sl) w9 =>
  Calls Tryz.prog F.i_gcd #[x53.v] w9 (Ret [.at (.int .i64)] fun (x54 : Int) w10 =>
  I4 x54 (IntKind.i64.wrap (x18 + 1)) w10 ∧ m4 x54 (IntKind.i64.wrap (x18 + 1)) w10 < m4 d x18 w4)) (
  I4 d (IntKind.i64.wrap (x18 + 1)) w6 ∧ m4 d (IntKind.i64.wrap (x18 + 1)) w6 < m4 d x18 w4))) (
  I4 d (IntKind.i64.wrap (x18 + 1)) w5 ∧ m4 d (IntKind.i64.wrap (x18 + 1)) w5 < m4 d x18 w4))) (
  Q d w4)))))

theorem C_i_WalkProblem_periodOf {Q : Int → World → Prop} {p_0 : Int} {p_1 : Sl} {component : Sl} {w : World} (h : V_i_WalkProblem_periodOf Q p_0 p_1 component w) : Calls Tryz.prog F.i_WalkProblem_periodOf #[.agg #[.int .i64 p_0, p_1.v], component.v] w (Ret [.at (.int .i64)] Q) :=
  mkC (hint := hint) (ann := annOf [(4, ⟨[(6, .int .i64), (18, .int .i64)], [8, 9, 19, 20, 21, 22, 23, 24, 25, 26, 27, 28, 29, 30, 31, 32, 33, 34, 35, 36, 37, 38, 39, 40, 41, 42, 43, 44, 45, 46, 47, 48, 49, 50, 51, 52, 53, 54, 55]⟩)]) (args := [.agg #[.int .i64 p_0, p_1.v], component.v]) (rs := [.at (.int .i64)]) Tryz.func124 (by kernel_rfl) (by kernel_rfl) h

def V_slices_Max_sl_int_int (Q : Int → World → Prop) (x : Sl) (w : World) : Prop :=
  cond (decide ((x.len : Int) < 1)) (
  False) (
  IX x 0 1 fun (px10 : Addr) =>
  LD [.int .i64] px10 w fun (x11 : Int) =>
  ∃ (I5 : Int → Int → World → Prop) (m5 : Int → Int → World → Nat), I5 x11 1 w ∧ ∀ (m : Int) (i : Int) w1, I5 m i w1 → ∀ _ _ _ _ _ _ _ _ _ _ _ _ : Value,
  cond (decide ((i : Int) < x.len)) (
  IX x i 1 fun (px21 : Addr) =>
  LD [.int .i64] px21 w1 fun (x22 : Int) =>
  RUN Tryz.prog (.at (.int .i64)) (bsem .max #[T.t_int, T.t_int] T.t_int #[.int .i64 m, .int .i64 x22]) w1 fun (x23 : Int) w2 =>
  I5 x23 (IntKind.i64.wrap (i + 1)) w2 ∧ m5 x23 (IntKind.i64.wrap (i + 1)) w2 < m5 m i w1) (
  Q m w1))

theorem C_slices_Max_sl_int_int {Q : Int → World → Prop} {x : Sl} {w : World} (h : V_slices_Max_sl_int_int Q x w) : Calls Tryz.prog F.slices_Max_sl_int_int #[x.v] w (Ret [.at (.int .i64)] Q) :=
  mkC (hint := hint) (ann := annOf [(5, ⟨[(3, .int .i64), (4, .int .i64)], [12, 13, 14, 15, 16, 17, 18, 19, 20, 21, 22, 23]⟩)]) (args := [x.v]) (rs := [.at (.int .i64)]) Tryz.func127 (by kernel_rfl) (by kernel_rfl) h

def V_i_bitStep (Q : Sl → World → Prop) (colours : Sl) (w : World) : Prop :=
  ∃ (I3 : Sl → Int → World → Prop) (m3 : Sl → Int → World → Nat), I3 (⟨none, 0, 0⟩) 0 w ∧ ∀ (out : Sl) (x9 : Int) w1, I3 out x9 w1 → ∀ _ _ _ _ _ _ _ _ _ _ _ _ _ _ _ _ _ _ _ _ _ _ _ _ _ _ _ _ _ _ : Value,
  cond (decide ((x9 : Int) < colours.len)) (
  IX colours x9 1 fun (px12 : Addr) =>
  LD [.int .i64] px12 w1 fun (x13 : Int) =>
  (colours.len : Int) ≠ 0 ∧ (
  IX colours (Int.tmod (IntKind.i64.wrap (x9 + 1)) colours.len) 1 fun (px21 : Addr) =>
  LD [.int .i64] px21 w1 fun (x22 : Int) =>
  Calls Tryz.prog F.math_bits_TrailingZeros64 #[.int .u64 (IntKind.u64.wrap (bitXor .i64 x13 x22))] w1 (Ret [.at (.int .i64)] fun (x25 : Int) w2 =>
  (0 : Int) ≤ x25 ∧ (
  RUN Tryz.prog (.at .sl) (Instr.buildSlice T.t_sl_int 1 #[(0, .int .i64 (IntKind.i64.wrap ((IntKind.i64.wrap (2 * x25)) + (bitAnd .i64 (shrI .i64 x13 x25) 1))))]) w2 fun (x34 : Sl) w3 =>
  RUN Tryz.prog (.at .sl) (bsem .append #[T.t_sl_int, T.t_sl_int] T.t_sl_int #[out.v, x34.v]) w3 fun (x35 : Sl) w4 =>
  I3 x35 (IntKind.i64.wrap (x9 + 1)) w4 ∧ m3 x35 (IntKind.i64.wrap (x9 + 1)) w4 < m3 out x9 w1)))) (
  Q out w1)

theorem C_i_bitStep {Q : Sl → World → Prop} {colours : Sl} {w : World} (h : V_i_bitStep Q colours w) : Calls Tryz.prog F.i_bitStep #[colours.v] w (Ret [.at .sl] Q) :=
  mkC (hint := hint) (ann := annOf [(3, ⟨[(3, .sl), (9, .int .i64)], [4, 5, 6, 10, 11, 12, 13, 14, 15, 16, 17, 18, 19, 20, 21, 22, 23, 24, 25, 26, 27, 28, 29, 30, 31, 32, 33, 34, 35, 36]⟩)]) (args := [colours.v]) (rs := [.at .sl]) Tryz.func128 (by kernel_rfl) (by kernel_rfl) h

def V_s_l1Sign (Q : Int → World → Prop) (n : Int) (w : World) : Prop :=
  cond (decide ((n : Int) > 0)) (
  Q 1 w) (
  cond (decide ((n : Int) < 0)) (
  Q (-1) w) (
  Q 0 w))

theorem C_s_l1Sign {Q : Int → World → Prop} {n : Int} {w : World} (h : V_s_l1Sign Q n w) : Calls Tryz.prog F.s_l1Sign #[.int .i64 n] w (Ret [.at (.int .i64)] Q) :=
  mkC (hint := hint) (ann := annOf []) (args := [.int .i64 n]) (rs := [.at (.int .i64)]) Tryz.func141 (by kernel_rfl) (by kernel_rfl) h

def V_s_waParts_k4 (I5 : Sl → Int → World → Prop) (m5 : Sl → Int → World → Nat) (w4 : World) (px1 : Addr) (x15 : Sl) (x18 : Sl) (x4 : Sl) (x6 : Int) (w5 : World) : Prop :=
  NEW T.t_s_waPart #[.slice none 0 0, .int .i64 0, .slice none 0 0] w5 fun (px7 : Addr) w6 =>
  ST px7 0 [.slice none 0 0, .int .i64 0, .slice none 0 0] w6 fun w7 =>
  ∃ (I10 : Int → World → Prop) (m10 : Int → World → Nat), I10 0 w7 ∧ ∀ (x8 : Int) w8, I10 x8 w8 → ∀ _ _ _ _ _ _ _ _ _ _ _ _ _ _ _ _ _ _ _ _ _ _ _ _ _ _ _ _ _ _ _ : Value,
  LD [.int .i64] (px1.add 0) w8 fun (x42 : Int) =>
  cond (decide ((x8 : Int) < x42)) (
  IX x15 x6 1 fun (px48 : Addr) =>
  LD [.sl] px48 w8 fun (x49 : Sl) =>
  IX x49 x8 1 fun (px51 : Addr) =>
  LD [.bool] px51 w8 fun (x52 : Bool) =>
  cond x52 (
  IX x15 x8 1 fun (px56 : Addr) =>
  LD [.sl] px56 w8 fun (x57 : Sl) =>
  IX x57 x6 1 fun (px59 : Addr) =>
  LD [.bool] px59 w8 fun (x60 : Bool) =>
  cond x60 (
  LD [.sl] (px7.add 0) w8 fun (x63 : Sl) =>
  RUN Tryz.prog (.at .sl) (Instr.buildSlice T.t_sl_int 1 #[(0, .int .i64 x8)]) w8 fun (x65 : Sl) w9 =>
  RUN Tryz.prog (.at .sl) (bsem .append #[T.t_sl_int, T.t_sl_int] T.t_sl_int #[x63.v, x65.v]) w9 fun (x66 : Sl) w10 =>
  ST (px7.add 0) 0 [x66.v] w10 fun w11 =>
  IX x18 x8 1 fun (px70 : Addr) =>
  ST px70 0 [.bool true] w11 fun w12 =>
  I10 (IntKind.i64.wrap (x8 + 1)) w12 ∧ m10 (IntKind.i64.wrap (x8 + 1)) w12 < m10 x8 w8) (
  I10 (IntKind.i64.wrap (x8 + 1)) w8 ∧ m10 (IntKind.i64.wrap (x8 + 1)) w8 < m10 x8 w8)) (
  I10 (IntKind.i64.wrap (x8 + 1)) w8 ∧ m10 (IntKind.i64.wrap (x8 + 1)) w8 < m10 x8 w8)) (
  LD [.int .i64, .sl] px1 w8 fun (x71_0 : Int) (x71_1 : Sl) =>
  LD [.sl] (px7.add 0) w8 fun (x73 : Sl) =>
  Calls Tryz.prog F.s_waDepths #[.agg #[.int .i64 x71_0, x71_1.v], x73.v] w8 (Ret [.at .sl] fun (x74 : Sl) w13 =>
  LD [.sl] (px1.add 1) w13 fun (x76 : Sl) =>
  ∃ (I17 : Int → World → Prop) (m17 : Int → World → Nat), I17 0 w13 ∧ ∀ (x78 : Int) w14, I17 x78 w14 → ∀ _ _ _ _ _ _ _ _ _ _ _ _ _ _ _ _ _ _ _ _ _ _ _ _ _ _ _ _ _ _ _ _ _ _ _ _ _ _ : Value,
  cond (decide ((x78 : Int) < x76.len)) (
  IX x76 x78 1 fun (px80 : Addr) =>
  LD [.sl] px80 w14 fun (x81 : Sl) =>
  LD [.sl] (px7.add 0) w14 fun (x83 : Sl) =>
  IX x81 0 1 fun (px85 : Addr) =>
  LD [.int .i64] px85 w14 fun (x86 : Int) =>
  QCALL Tryz.prog F.s_l1Has #[x83.v, .int .i64 x86] w14 [.at .bool] fun (x87 : Bool) =>
  cond x87 (
  LD [.sl] (px7.add 0) w14 fun (x90 : Sl) =>
  IX x81 1 1 fun (px92 : Addr) =>
  LD [.int .i64] px92 w14 fun (x93 : Int) =>
  QCALL Tryz.prog F.s_l1Has #[x90.v, .int .i64 x93] w14 [.at .bool] fun (x94 : Bool) =>
  ∀ w15, Ext w14 w15 →
  cond x94 (
  ∀ w17, Ext w15 w17 → w17.heap = w15.heap → ∃ (D17 : Nat → Prop),
  ¬ D17 (px7.add 1).block ∧ (
  LD [.int .i64] (px7.add 1) w17 fun (x97 : Int) =>
  IX x81 0 1 fun (px100 : Addr) =>
  ¬ D17 px100.block ∧ (
  LD [.int .i64] px100 w17 fun (x101 : Int) =>
  IX x74 x101 1 fun (px102 : Addr) =>
  ¬ D17 px102.block ∧ (
  LD [.int .i64] px102 w17 fun (x103 : Int) =>
  Chg w17 w17 D17 ∧ (
  IX x81 1 1 fun (px107 : Addr) =>
  Chg w17 w17 D17 ∧ (
  LD [.int .i64] px107 w17 fun (x108 : Int) =>
  Chg w17 w17 D17 ∧ (
  IX x74 x108 1 fun (px109 : Addr) =>
  Chg w17 w17 D17 ∧ (
  LD [.int .i64] px109 w17 fun (x110 : Int) =>
  Chg w17 w17 D17 ∧ (
  Chg w17 w17 D17 ∧ (
  Calls Tryz.prog F.s_l1Abs #[.int .i64 (IntKind.i64.wrap ((IntKind.i64.wrap (x103 + 1)) - x110))] w17 (Ret [.at (.int .i64)] fun (x112 : Int) w18 =>
  Chg w17 w18 D17 ∧ (
  Calls Tryz.prog F.s_waGcd #[.int .i64 x97, .int .i64 x112] w18 (Ret [.at (.int .i64)] fun (x113 : Int) w19 =>
  Chg w17 w19 D17 ∧ (
  ST (px7.add 1) 0 [.int .i64 x113] w19 fun w20 =>
  I17 (IntKind.i64.wrap (x78 + 1)) w20 ∧ m17 (IntKind.i64.wrap (x78 + 1)) w20 < m17 x78 w14)))))))))))))) (
  I17 (IntKind.i64.wrap (x78 + 1)) w15 ∧ m17 (IntKind.i64.wrap (x78 + 1)) w15 < m17 x78 w14)) (
  ∀ w16, Ext w14 w16 →
  I17 (IntKind.i64.wrap (x78 + 1)) w16 ∧ m17 (IntKind.i64.wrap (x78 + 1)) w16 < m17 x78 w14)) (
  LD [.sl] (px7.add 0) w14 fun (x117 : Sl) =>
  ∃ (I23 : Int → World → Prop) (m23 : Int → World → Nat), I23 0 w14 ∧ ∀ (x119 : Int) w21, I23 x119 w21 → ∀ _ _ _ _ _ _ _ _ _ _ _ _ _ _ _ _ _ : Value,
  cond (decide ((x119 : Int) < x117.len)) (
  IX x117 x119 1 fun (px121 : Addr) =>
  LD [.int .i64] px121 w21 fun (x122 : Int) =>
  ∀ w22, Ext w21 w22 → w22.heap = w21.heap → ∃ (D22 : Nat → Prop),
  ¬ D22 (px7.add 2).block ∧ (
  LD [.sl] (px7.add 2) w22 fun (x124 : Sl) =>
  IX x74 x122 1 fun (px127 : Addr) =>
  ¬ D22 px127.block ∧ (
  LD [.int .i64] px127 w22 fun (x128 : Int) =>
  Chg w22 w22 D22 ∧ (
  LD [.int .i64] (px7.add 1) w22 fun (x130 : Int) =>
  Chg w22 w22 D22 ∧ (
  (x130 : Int) ≠ 0 ∧ (
  Chg w22 w22 D22 ∧ (
  RUN Tryz.prog (.at .sl) (Instr.buildSlice T.t_sl_int 1 #[(0, .int .i64 (Int.tmod x128 x130))]) w22 fun (x132 : Sl) w23 =>
  Chg w22 w23 D22 ∧ (
  RUN Tryz.prog (.at .sl) (bsem .append #[T.t_sl_int, T.t_sl_int] T.t_sl_int #[x124.v, x132.v]) w23 fun (x133 : Sl) w24 =>
  Chg w22 w24 D22 ∧ (
  ST (px7.add 2) 0 [x133.v] w24 fun w25 =>
  I23 (IntKind.i64.wrap (x119 + 1)) w25 ∧ m23 (IntKind.i64.wrap (x119 + 1)) w25 < m23 x119 w21))))))))) (
  LD [.sl, .int .i64, .sl] px7 w21 fun (x137_0 : Sl) (x137_1 : Int) (x137_2 : Sl) =>
  RUN Tryz.prog (.at .sl) (Instr.buildSlice T.t_sl_s_waPart 1 #[(0, .agg #[x137_0.v, .int .i64 x137_1, x137_2.v])]) w21 fun (x138 : Sl) w26 =>
  RUN Tryz.prog (.at .sl) (bsem .append #[T.t_sl_s_waPart, T.t_sl_s_waPart] T.t_sl_s_waPart #[x4.v, x138.v]) w26 fun (x139 : Sl) w27 =>
  I5 x139 (IntKind.i64.wrap (x6 + 1)) w27 ∧ m5 x139 (IntKind.i64.wrap (x6 + 1)) w27 < m5 x4 x6 w4))))

def V_s_waParts (Q : Sl → World → Prop) (x0_0 : Int) (x0_1 : Sl) (w : World) : Prop :=
  NEW T.t_i_WalkProblem #[.int .i64 x0_0, x0_1.v] w fun (px1 : Addr) w1 =>
  LD [.int .i64, .sl] px1 w1 fun (x14_0 : Int) (x14_1 : Sl) =>
  Calls Tryz.prog F.s_waReach #[.agg #[.int .i64 x14_0, x14_1.v]] w1 (Ret [.at .sl] fun (x15 : Sl) w2 =>
  LD [.int .i64] (px1.add 0) w2 fun (x17 : Int) =>
  RUN Tryz.prog (.at .sl) (Instr.makeSlice T.t_sl_bool (.int .i64 x17) (.int .i64 x17)) w2 fun (x18 : Sl) w3 =>
  ∃ (I5 : Sl → Int → World → Prop) (m5 : Sl → Int → World → Nat), I5 (⟨none, 0, 0⟩) 0 w3 ∧ ∀ (x4 : Sl) (x6 : Int) w4, I5 x4 x6 w4 → ∀ _ _ _ _ _ _ _ _ _ _ _ _ _ _ _ _ _ _ _ _ _ _ _ _ _ _ _ _ _ _ _ _ _ _ _ _ _ _ _ _ _ _ _ _ _ _ _ _ _ _ _ _ _ _ _ _ _ _ _ _ _ _ _ _ _ _ _ _ _ _ _ _ _ _ _ _ _ _ _ _ _ _ _ _ _ _ _ _ _ _ _ _ _ _ _ _ _ _ _ _ _ _ _ _ _ _ _ _ _ _ _ _ _ _ _ _ _ _ _ _ _ _ _ _ _ _ : Value,
  LD [.int .i64] (px1.add 0) w4 fun (x21 : Int) =>
  cond (decide ((x6 : Int) < x21)) (
  IX x18 x6 1 fun (px27 : Addr) =>
  LD [.bool] px27 w4 fun (x28 : Bool) =>
  cond x28 (
  I5 x4 (IntKind.i64.wrap (x6 + 1)) w4 ∧ m5 x4 (IntKind.i64.wrap (x6 + 1)) w4 < m5 x4 x6 w4) (
  IX x15 x6 1 fun (px32 : Addr) =>
  LD [.sl] px32 w4 fun (x33 : Sl) =>
  IX x33 x6 1 fun (px35 : Addr) =>
  LD [.bool] px35 w4 fun (x36 : Bool) =>
  cond (!x36) (
  I5 x4 (IntKind.i64.wrap (x6 + 1)) w4 ∧ m5 x4 (IntKind.i64.wrap (x6 + 1)) w4 < m5 x4 x6 w4) (
  V_s_waParts_k4 I5 m5 w4 px1 x15 x18 x4 x6 w4))) (
  Q x4 w4))

theorem C_s_waParts {Q : Sl → World → Prop} {x0_0 : Int} {x0_1 : Sl} {w : World} (h : V_s_waParts Q x0_0 x0_1 w) : Calls Tryz.prog F.s_waParts #[.agg #[.int .i64 x0_0, x0_1.v]] w (Ret [.at .sl] Q) :=
  mkC (hint := hint) (ann := annOf [(5, ⟨[(4, .sl), (6, .int .i64)], [7, 8, 9, 11, 13, 19, 20, 21, 22, 23, 24, 25, 26, 27, 28, 29, 30, 31, 32, 33, 34, 35, 36, 37, 38, 39, 40, 41, 42, 43, 44, 45, 46, 47, 48, 49, 50, 51, 52, 53, 54, 55, 56, 57, 58, 59, 60, 61, 62, 63, 64, 65, 66, 67, 68, 69, 70, 71, 72, 73, 74, 75, 76, 77, 78, 79, 80, 81, 82, 83, 84, 85, 86, 87, 88, 89, 90, 91, 92, 93, 94, 95, 96, 97, 98, 99, 100, 101, 102, 103, 104, 105, 106, 107, 108, 109, 110, 111, 112, 113, 114, 115, 116, 117, 118, 119, 120, 121, 122, 123, 124, 125, 126, 127, 128, 129, 130, 131, 132, 133, 134, 135, 136, 137, 138, 139]⟩), (10, ⟨[(8, .int .i64)], [40, 41, 42, 43, 44, 45, 46, 47, 48, 49, 50, 51, 52, 53, 54, 55, 56, 57, 58, 59, 60, 61, 62, 63, 64, 65, 66, 67, 68, 69, 70]⟩), (17, ⟨[(78, .int .i64)], [11, 79, 80, 81, 82, 83, 84, 85, 86, 87, 88, 89, 90, 91, 92, 93, 94, 95, 96, 97, 98, 99, 100, 101, 102, 103, 104, 105, 106, 107, 108, 109, 110, 111, 112, 113, 114, 115]⟩), (23, ⟨[(119, .int .i64)], [13, 120, 121, 122, 123, 124, 125, 126, 127, 128, 129, 130, 131, 132, 133, 134, 135]⟩)]) (args := [.agg #[.int .i64 x0_0, x0_1.v]]) (rs := [.at .sl]) Tryz.func142 (by kernel_rfl) (by kernel_rfl) h

def V_s_l1Put_k4 (l : Sl) (n : Int) (Q : Sl → World → Prop) (k : Int) (w3 : World) : Prop :=
  RUN Tryz.prog (.at .sl) (Instr.buildSlice T.t_sl_int 0 #[]) w3 fun (x34 : Sl) w4 =>
  SLC l none (some k) 1 fun (x37 : Sl) =>
  RUN Tryz.prog (.at .sl) (bsem .append #[T.t_sl_int, T.t_sl_int] T.t_sl_int #[x34.v, x37.v]) w4 fun (x38 : Sl) w5 =>
  RUN Tryz.prog (.at .sl) (Instr.buildSlice T.t_sl_int 1 #[(0, .int .i64 n)]) w5 fun (x41 : Sl) w6 =>
  RUN Tryz.prog (.at .sl) (bsem .append #[T.t_sl_int, T.t_sl_int] T.t_sl_int #[x38.v, x41.v]) w6 fun (x42 : Sl) w7 =>
  SLC l (some k) none 1 fun (x46 : Sl) =>
  RUN Tryz.prog (.at .sl) (bsem .append #[T.t_sl_int, T.t_sl_int] T.t_sl_int #[x42.v, x46.v]) w7 fun (x47 : Sl) w8 =>
  Q x47 w8

def V_s_l1Put_k1 (l : Sl) (n : Int) (Q : Sl → World → Prop) (k : Int) (w2 : World) : Prop :=
  cond (decide ((k : Int) < l.len)) (
  IX l k 1 fun (px28 : Addr) =>
  LD [.int .i64] px28 w2 fun (x29 : Int) =>
  cond ((x29 : Int) == n) (
  Q l w2) (
  V_s_l1Put_k4 l n Q k w2)) (
  V_s_l1Put_k4 l n Q k w2)

def V_s_l1Put (Q : Sl → World → Prop) (l : Sl) (n : Int) (w : World) : Prop :=
  ∃ (I2 : Int → World → Prop) (m2 : Int → World → Nat), I2 0 w ∧ ∀ (k : Int) w1, I2 k w1 → ∀ _ _ _ _ _ _ _ _ _ _ _ _ _ _ : Value,
  cond (decide ((k : Int) < l.len)) (
  IX l k 1 fun (px14 : Addr) =>
  LD [.int .i64] px14 w1 fun (x15 : Int) =>
  cond (decide ((x15 : Int) < n)) (
  I2 (IntKind.i64.wrap (k + 1)) w1 ∧ m2 (IntKind.i64.wrap (k + 1)) w1 < m2 k w1) (
  V_s_l1Put_k1 l n Q k w1)) (
  V_s_l1Put_k1 l n Q k w1)

theorem C_s_l1Put {Q : Sl → World → Prop} {l : Sl} {n : Int} {w : World} (h : V_s_l1Put Q l n w) : Calls Tryz.prog F.s_l1Put #[l.v, .int .i64 n] w (Ret [.at .sl] Q) :=
  mkC (hint := hint) (ann := annOf [(2, ⟨[(5, .int .i64)], [7, 8, 9, 10, 11, 12, 13, 14, 15, 16, 17, 18, 19, 20]⟩)]) (args := [l.v, .int .i64 n]) (rs := [.at .sl]) Tryz.func143 (by kernel_rfl) (by kernel_rfl) h

def V_s_nuDiffer (Q : Int → World → Prop) (a : Int) (b : Int) (w : World) : Prop :=
  ∃ (I2 : Int → World → Prop) (m2 : Int → World → Nat), I2 0 w ∧ ∀ (i : Int) w1, I2 i w1 → ∀ _ _ _ _ _ _ _ _ _ : Value,
  Calls Tryz.prog F.s_nuBit #[.int .i64 a, .int .i64 i] w1 (Ret [.at (.int .i64)] fun (x8 : Int) w2 =>
  Calls Tryz.prog F.s_nuBit #[.int .i64 b, .int .i64 i] w2 (Ret [.at (.int .i64)] fun (x11 : Int) w3 =>
  cond ((x8 : Int) == x11) (
  I2 (IntKind.i64.wrap (i + 1)) w3 ∧ m2 (IntKind.i64.wrap (i + 1)) w3 < m2 i w1) (
  Q i w3)))

theorem C_s_nuDiffer {Q : Int → World → Prop} {a : Int} {b : Int} {w : World} (h : V_s_nuDiffer Q a b w) : Calls Tryz.prog F.s_nuDiffer #[.int .i64 a, .int .i64 b] w (Ret [.at (.int .i64)] Q) :=
  mkC (hint := hint) (ann := annOf [(2, ⟨[(5, .int .i64)], [6, 7, 8, 9, 10, 11, 12, 13, 14]⟩)]) (args := [.int .i64 a, .int .i64 b]) (rs := [.at (.int .i64)]) Tryz.func144 (by kernel_rfl) (by kernel_rfl) h

def V_s_nuBit (Q : Int → World → Prop) (n : Int) (i : Int) (w : World) : Prop :=
  ∃ (I1 : Int → Int → World → Prop) (m1 : Int → Int → World → Nat), I1 n i w ∧ ∀ (n_2 : Int) (i_2 : Int) w1, I1 n_2 i_2 w1 → ∀ _ _ _ _ _ _ : Value,
  cond (decide ((i_2 : Int) > 0)) (
  (2 : Int) ≠ 0 ∧ (
  I1 (IntKind.i64.wrap (Int.tdiv n_2 2)) (IntKind.i64.wrap (i_2 - 1)) w1 ∧ m1 (IntKind.i64.wrap (Int.tdiv n_2 2)) (IntKind.i64.wrap (i_2 - 1)) w1 < m1 n_2 i_2 w1)) (
  (2 : Int) ≠ 0 ∧ (
  Q (Int.tmod n_2 2) w1))

theorem C_s_nuBit {Q : Int → World → Prop} {n : Int} {i : Int} {w : World} (h : V_s_nuBit Q n i w) : Calls Tryz.prog F.s_nuBit #[.int .i64 n, .int .i64 i] w (Ret [.at (.int .i64)] Q) :=
  mkC (hint := hint) (ann := annOf [(1, ⟨[(0, .int .i64), (1, .int .i64)], [5, 6, 7, 8, 9, 10]⟩)]) (args := [.int .i64 n, .int .i64 i]) (rs := [.at (.int .i64)]) Tryz.func145 (by kernel_rfl) (by kernel_rfl) h

def V_s_waTimes (Q : Sl → World → Prop) (a : Sl) (b : Sl) (w : World) : Prop :=
  ∃ (I3 : Sl → Int → World → Prop) (m3 : Sl → Int → World → Nat), I3 (⟨none, 0, 0⟩) 0 w ∧ ∀ (out : Sl) (x14 : Int) w1, I3 out x14 w1 → ∀ _ _ _ _ _ _ _ _ _ _ _ _ _ _ _ _ _ _ _ _ _ _ _ _ _ _ _ _ _ _ _ _ _ _ _ _ _ _ _ _ _ _ _ _ _ _ _ _ _ : Value,
  cond (decide ((x14 : Int) < a.len)) (
  IX a x14 1 fun (px16 : Addr) =>
  LD [.sl] px16 w1 fun (x17 : Sl) =>
  RUN Tryz.prog (.at .sl) (Instr.makeSlice T.t_sl_bool (.int .i64 x17.len) (.int .i64 x17.len)) w1 fun (x20 : Sl) w2 =>
  ∃ (I7 : Int → World → Prop) (m7 : Int → World → Nat), I7 0 w2 ∧ ∀ (x23 : Int) w3, I7 x23 w3 → ∀ _ _ _ _ _ _ _ _ _ _ _ _ _ _ _ _ _ _ _ _ _ _ _ _ _ _ _ _ _ _ _ _ _ : Value,
  cond (decide ((x23 : Int) < x17.len)) (
  IX x17 x23 1 fun (px26 : Addr) =>
  LD [.bool] px26 w3 fun (x27 : Bool) =>
  ∃ (I10 : Int → World → Prop) (m10 : Int → World → Nat), I10 0 w3 ∧ ∀ (x30 : Int) w4, I10 x30 w4 → ∀ _ _ _ _ _ _ _ _ _ _ _ _ _ _ _ _ _ _ _ _ _ _ _ : Value,
  cond (decide ((x30 : Int) < x20.len)) (
  IX x20 x30 1 fun (px37 : Addr) =>
  LD [.bool] px37 w4 fun (x38 : Bool) =>
  cond x38 (
  IX x20 x30 1 fun (px51 : Addr) =>
  ST px51 0 [.bool true] w4 fun w5 =>
  I10 (IntKind.i64.wrap (x30 + 1)) w5 ∧ m10 (IntKind.i64.wrap (x30 + 1)) w5 < m10 x30 w4) (
  cond x27 (
  IX b x23 1 fun (px44 : Addr) =>
  LD [.sl] px44 w4 fun (x45 : Sl) =>
  IX x45 x30 1 fun (px47 : Addr) =>
  LD [.bool] px47 w4 fun (x48 : Bool) =>
  IX x20 x30 1 fun (px51_2 : Addr) =>
  ST px51_2 0 [.bool x48] w4 fun w6 =>
  I10 (IntKind.i64.wrap (x30 + 1)) w6 ∧ m10 (IntKind.i64.wrap (x30 + 1)) w6 < m10 x30 w4) (
  IX x20 x30 1 fun (px51_3 : Addr) =>
  ST px51_3 0 [.bool false] w4 fun w7 =>
  I10 (IntKind.i64.wrap (x30 + 1)) w7 ∧ m10 (IntKind.i64.wrap (x30 + 1)) w7 < m10 x30 w4))) (
  I7 (IntKind.i64.wrap (x23 + 1)) w4 ∧ m7 (IntKind.i64.wrap (x23 + 1)) w4 < m7 x23 w3)) (
  RUN Tryz.prog (.at .sl) (Instr.buildSlice T.t_sl_sl_bool 1 #[(0, x20.v)]) w3 fun (x56 : Sl) w8 =>
  RUN Tryz.prog (.at .sl) (bsem .append #[T.t_sl_sl_bool, T.t_sl_sl_bool] T.t_sl_sl_bool #[out.v, x56.v]) w8 fun (x57 : Sl) w9 =>
  I3 x57 (IntKind.i64.wrap (x14 + 1)) w9 ∧ m3 x57 (IntKind.i64.wrap (x14 + 1)) w9 < m3 out x14 w1)) (
  Q out w1)

theorem C_s_waTimes {Q : Sl → World → Prop} {a : Sl} {b : Sl} {w : World} (h : V_s_waTimes Q a b w) : Calls Tryz.prog F.s_waTimes #[a.v, b.v] w (Ret [.at .sl] Q) :=
  mkC (hint := hint) (ann := annOf [(3, ⟨[(5, .sl), (14, .int .i64)], [7, 8, 9, 10, 11, 15, 16, 17, 18, 19, 20, 21, 22, 23, 24, 25, 26, 27, 28, 29, 30, 31, 32, 33, 34, 35, 36, 37, 38, 39, 40, 41, 42, 43, 44, 45, 46, 47, 48, 49, 50, 51, 52, 53, 54, 55, 56, 57, 58]⟩), (7, ⟨[(23, .int .i64)], [9, 10, 11, 24, 25, 26, 27, 28, 29, 30, 31, 32, 33, 34, 35, 36, 37, 38, 39, 40, 41, 42, 43, 44, 45, 46, 47, 48, 49, 50, 51, 52, 53]⟩), (10, ⟨[(30, .int .i64)], [11, 31, 32, 33, 34, 35, 36, 37, 38, 39, 40, 41, 42, 43, 44, 45, 46, 47, 48, 49, 50, 51, 52]⟩)]) (args := [a.v, b.v]) (rs := [.at .sl]) Tryz.func146 (by kernel_rfl) (by kernel_rfl) h

def V_slices_ContainsFunc_sl_int_int (Q : Bool → World → Prop) (s : Sl) (f : Value) (w : World) : Prop :=
  Calls Tryz.prog F.slices_IndexFunc_sl_int_int #[s.v, f] w (Ret [.at (.int .i64)] fun (x7 : Int) w1 =>
  Q (decide ((x7 : Int) ≥ 0)) w1)

theorem C_slices_ContainsFunc_sl_int_int {Q : Bool → World → Prop} {s : Sl} {f : Value} {w : World} (h : V_slices_ContainsFunc_sl_int_int Q s f w) : Calls Tryz.prog F.slices_ContainsFunc_sl_int_int #[s.v, f] w (Ret [.at .bool] Q) :=
  mkC (hint := hint) (ann := annOf []) (args := [s.v, f]) (rs := [.at .bool]) Tryz.func147 (by kernel_rfl) (by kernel_rfl) h

def V_i_allWithin_1 (Q : Bool → World → Prop) (n : Int) (cap0 : Addr) (cap1 : Addr) (w : World) : Prop :=
  LD [.int .i64] cap0 w fun (x6 : Int) =>
  LD [.int .i64] cap1 w fun (x7 : Int) =>
  Calls Tryz.prog F.i_within #[.int .i64 n, .int .i64 x6, .int .i64 x7] w (Ret [.at .bool] fun (x8 : Bool) w1 =>
  Q (!x8) w1)

theorem C_i_allWithin_1 {Q : Bool → World → Prop} {n : Int} {cap0 : Addr} {cap1 : Addr} {w : World} (h : V_i_allWithin_1 Q n cap0 cap1 w) : Calls Tryz.prog F.i_allWithin_1 #[.int .i64 n, .pointer (some cap0), .pointer (some cap1)] w (Ret [.at .bool] Q) :=
  mkC (hint := hint) (ann := annOf []) (args := [.int .i64 n, .pointer (some cap0), .pointer (some cap1)]) (rs := [.at .bool]) Tryz.func148 (by kernel_rfl) (by kernel_rfl) h

def V_i_WalkProblem_distancesIn (Q : Sl → World → Prop) (p_0 : Int) (p_1 : Sl) (a : Int) (w : World) : Prop :=
  NEW T.t_i_WalkProblem #[.int .i64 p_0, p_1.v] w fun (p_p : Addr) w1 =>
  RUN Tryz.prog (.at .sl) (Instr.buildSlice T.t_sl_int 1 #[(0, .int .i64 (-1))]) w1 fun (x10 : Sl) w2 =>
  LD [.int .i64] (p_p.add 0) w2 fun (x12 : Int) =>
  Calls Tryz.prog F.slices_Repeat_sl_int_int #[x10.v, .int .i64 x12] w2 (Ret [.at .sl] fun (x13 : Sl) w3 =>
  LD [.int .i64, .sl] p_p w3 fun (x14_0 : Int) (x14_1 : Sl) =>
  LD [.int .i64] (p_p.add 0) w3 fun (x17 : Int) =>
  Calls Tryz.prog F.i_WalkProblem_reached #[.agg #[.int .i64 x14_0, x14_1.v], .int .i64 a, .int .i64 x17] w3 (Ret [.at .sl] fun (x18 : Sl) w4 =>
  ∃ (I3 : Int → World → Prop) (m3 : Int → World → Nat), I3 0 w4 ∧ ∀ (x20 : Int) w5, I3 x20 w5 → ∀ _ _ _ _ _ _ _ _ _ _ _ _ _ _ _ _ _ _ _ _ _ _ _ _ _ : Value,
  cond (decide ((x20 : Int) < x18.len)) (
  IX x18 x20 1 fun (px23 : Addr) =>
  LD [.int .i64] px23 w5 fun (x24 : Int) =>
  Calls Tryz.prog F.i_labelsIn #[.int .i64 x24] w5 (Ret [.at .sl] fun (x26 : Sl) w6 =>
  ∃ (I6 : Int → World → Prop) (m6 : Int → World → Nat), I6 0 w6 ∧ ∀ (x28 : Int) w7, I6 x28 w7 → ∀ _ _ _ _ _ _ _ _ _ _ _ _ _ _ : Value,
  cond (decide ((x28 : Int) < x26.len)) (
  IX x26 x28 1 fun (px30 : Addr) =>
  LD [.int .i64] px30 w7 fun (x31 : Int) =>
  IX x13 x31 1 fun (px34 : Addr) =>
  LD [.int .i64] px34 w7 fun (x35 : Int) =>
  cond (decide ((x35 : Int) < 0)) (
  IX x13 x31 1 fun (px40 : Addr) =>
  ST px40 0 [.int .i64 x20] w7 fun w8 =>
  I6 (IntKind.i64.wrap (x28 + 1)) w8 ∧ m6 (IntKind.i64.wrap (x28 + 1)) w8 < m6 x28 w7) (
  I6 (IntKind.i64.wrap (x28 + 1)) w7 ∧ m6 (IntKind.i64.wrap (x28 + 1)) w7 < m6 x28 w7)) (
  I3 (IntKind.i64.wrap (x20 + 1)) w7 ∧ m3 (IntKind.i64.wrap (x20 + 1)) w7 < m3 x20 w5))) (
  Q x13 w5)))

theorem C_i_WalkProblem_distancesIn {Q : Sl → World → Prop} {p_0 : Int} {p_1 : Sl} {a : Int} {w : World} (h : V_i_WalkProblem_distancesIn Q p_0 p_1 a w) : Calls Tryz.prog F.i_WalkProblem_distancesIn #[.agg #[.int .i64 p_0, p_1.v], .int .i64 a] w (Ret [.at .sl] Q) :=
  mkC (hint := hint) (ann := annOf [(3, ⟨[(20, .int .i64)], [6, 7, 9, 21, 22, 23, 24, 25, 26, 27, 28, 29, 30, 31, 32, 33, 34, 35, 36, 37, 38, 39, 40, 41, 42]⟩), (6, ⟨[(28, .int .i64)], [9, 29, 30, 31, 32, 33, 34, 35, 36, 37, 38, 39, 40, 41]⟩)]) (args := [.agg #[.int .i64 p_0, p_1.v], .int .i64 a]) (rs := [.at .sl]) Tryz.func150 (by kernel_rfl) (by kernel_rfl) h

def V_slices_Contains_sl_int_int (Q : Bool → World → Prop) (s : Sl) (v : Int) (w : World) : Prop :=
  Calls Tryz.prog F.slices_Index_sl_int_int #[s.v, .int .i64 v] w (Ret [.at (.int .i64)] fun (x7 : Int) w1 =>
  Q (decide ((x7 : Int) ≥ 0)) w1)

theorem C_slices_Contains_sl_int_int {Q : Bool → World → Prop} {s : Sl} {v : Int} {w : World} (h : V_slices_Contains_sl_int_int Q s v w) : Calls Tryz.prog F.slices_Contains_sl_int_int #[s.v, .int .i64 v] w (Ret [.at .bool] Q) :=
  mkC (hint := hint) (ann := annOf []) (args := [s.v, .int .i64 v]) (rs := [.at .bool]) Tryz.func151 (by kernel_rfl) (by kernel_rfl) h

def V_i_gcd (Q : Int → World → Prop) (list : Sl) (w : World) : Prop :=
  ∃ (I3 : Int → Int → World → Prop) (m3 : Int → Int → World → Nat), I3 0 0 w ∧ ∀ (d : Int) (x8 : Int) w1, I3 d x8 w1 → ∀ _ _ _ _ _ _ _ _ _ _ _ : Value,
  cond (decide ((x8 : Int) < list.len)) (
  IX list x8 1 fun (px10 : Addr) =>
  LD [.int .i64] px10 w1 fun (x11 : Int) =>
  ∃ (I5 : Int → Int → World → Prop) (m5 : Int → Int → World → Nat), I5 d x11 w1 ∧ ∀ (d_2 : Int) (n : Int) w2, I5 d_2 n w2 → ∀ _ _ _ _ _ _ : Value,
  cond ((n : Int) != 0) (
  (n : Int) ≠ 0 ∧ (
  ∀ w3, Ext w2 w3 →
  I5 n (Int.tmod d_2 n) w3 ∧ m5 n (Int.tmod d_2 n) w3 < m5 d_2 n w2)) (
  I3 d_2 (IntKind.i64.wrap (x8 + 1)) w2 ∧ m3 d_2 (IntKind.i64.wrap (x8 + 1)) w2 < m3 d x8 w1)) (
  Q d w1)

theorem C_i_gcd {Q : Int → World → Prop} {list : Sl} {w : World} (h : V_i_gcd Q list w) : Calls Tryz.prog F.i_gcd #[list.v] w (Ret [.at (.int .i64)] Q) :=
  mkC (hint := hint) (ann := annOf [(3, ⟨[(3, .int .i64), (8, .int .i64)], [5, 9, 10, 11, 12, 13, 14, 15, 16, 17, 18]⟩), (5, ⟨[(3, .int .i64), (5, .int .i64)], [12, 13, 14, 15, 16, 17]⟩)]) (args := [list.v]) (rs := [.at (.int .i64)]) Tryz.func152 (by kernel_rfl) (by kernel_rfl) h

def V_s_waReach (Q : Sl → World → Prop) (p_0 : Int) (p_1 : Sl) (w : World) : Prop :=
  NEW T.t_i_WalkProblem #[.int .i64 p_0, p_1.v] w fun (p_p : Addr) w1 =>
  LD [.int .i64] (p_p.add 0) w1 fun (x10 : Int) =>
  Calls Tryz.prog F.s_waMay #[.agg #[.int .i64 x10, .slice none 0 0]] w1 (Ret [.at .sl] fun (x12 : Sl) w2 =>
  LD [.int .i64, .sl] p_p w2 fun (x13_0 : Int) (x13_1 : Sl) =>
  LD [.int .i64] (p_p.add 0) w2 fun (x15 : Int) =>
  Calls Tryz.prog F.s_waPowers #[.agg #[.int .i64 x13_0, x13_1.v], .int .i64 x15] w2 (Ret [.at .sl] fun (x16 : Sl) w3 =>
  ∃ (I3 : Int → World → Prop) (m3 : Int → World → Nat), I3 0 w3 ∧ ∀ (x18 : Int) w4, I3 x18 w4 → ∀ _ _ _ _ _ _ _ _ _ _ _ _ _ _ _ _ _ _ _ _ _ _ _ _ _ _ _ _ _ _ _ _ _ _ _ _ _ _ _ _ _ _ _ _ _ _ _ : Value,
  cond (decide ((x18 : Int) < x16.len)) (
  IX x16 x18 1 fun (px21 : Addr) =>
  LD [.sl] px21 w4 fun (x22 : Sl) =>
  ∃ (I6 : Int → World → Prop) (m6 : Int → World → Nat), I6 0 w4 ∧ ∀ (x25 : Int) w5, I6 x25 w5 → ∀ _ _ _ _ _ _ _ _ _ _ _ _ _ _ _ _ _ _ _ _ _ _ _ _ _ _ _ _ _ _ _ _ _ _ _ _ _ : Value,
  cond (decide ((x25 : Int) < x22.len)) (
  IX x22 x25 1 fun (px30 : Addr) =>
  LD [.sl] px30 w5 fun (x31 : Sl) =>
  ∃ (I9 : Int → World → Prop) (m9 : Int → World → Nat), I9 0 w5 ∧ ∀ (x33 : Int) w6, I9 x33 w6 → ∀ _ _ _ _ _ _ _ _ _ _ _ _ _ _ _ _ _ _ _ _ _ _ _ _ _ _ _ : Value,
  cond (decide ((x33 : Int) < x31.len)) (
  IX x31 x33 1 fun (px36 : Addr) =>
  LD [.bool] px36 w6 fun (x37 : Bool) =>
  ∀ w7, Ext w6 w7 → w7.heap = w6.heap → ∃ (D7 : Nat → Prop),
  IX x12 x25 1 fun (px40 : Addr) =>
  ¬ D7 px40.block ∧ (
  LD [.sl] px40 w7 fun (x41 : Sl) =>
  IX x12 x25 1 fun (px45 : Addr) =>
  ¬ D7 px45.block ∧ (
  LD [.sl] px45 w7 fun (x46 : Sl) =>
  Chg w7 w7 D7 ∧ (
  IX x46 x33 1 fun (px48 : Addr) =>
  Chg w7 w7 D7 ∧ (
  LD [.bool] px48 w7 fun (x49 : Bool) =>
  Chg w7 w7 D7 ∧ (
  Chg w7 w7 D7 ∧ (
  cond x49 (
  Chg w7 w7 D7 ∧ (
  IX x41 x33 1 fun (px57 : Addr) =>
  Chg w7 w7 D7 ∧ (
  ST px57 0 [.bool true] w7 fun w8 =>
  Chg w7 w8 D7 ∧ (
  I9 (IntKind.i64.wrap (x33 + 1)) w8 ∧ m9 (IntKind.i64.wrap (x33 + 1)) w8 < m9 x33 w6)))) (
  Chg w7 w7 D7 ∧ (
  Chg w7 w7 D7 ∧ (
  cond x37 (
  Chg w7 w7 D7 ∧ (
  Chg w7 w7 D7 ∧ (
  Chg w7 w7 D7 ∧ (
  Chg w7 w7 D7 ∧ (
  IX x41 x33 1 fun (px57_2 : Addr) =>
  Chg w7 w7 D7 ∧ (
  ST px57_2 0 [.bool (decide ((x18 : Int) > 0))] w7 fun w9 =>
  Chg w7 w9 D7 ∧ (
  I9 (IntKind.i64.wrap (x33 + 1)) w9 ∧ m9 (IntKind.i64.wrap (x33 + 1)) w9 < m9 x33 w6))))))) (
  Chg w7 w7 D7 ∧ (
  Chg w7 w7 D7 ∧ (
  IX x41 x33 1 fun (px57_3 : Addr) =>
  Chg w7 w7 D7 ∧ (
  ST px57_3 0 [.bool false] w7 fun w10 =>
  Chg w7 w10 D7 ∧ (
  I9 (IntKind.i64.wrap (x33 + 1)) w10 ∧ m9 (IntKind.i64.wrap (x33 + 1)) w10 < m9 x33 w6))))))))))))))) (
  I6 (IntKind.i64.wrap (x25 + 1)) w6 ∧ m6 (IntKind.i64.wrap (x25 + 1)) w6 < m6 x25 w5)) (
  I3 (IntKind.i64.wrap (x18 + 1)) w5 ∧ m3 (IntKind.i64.wrap (x18 + 1)) w5 < m3 x18 w4)) (
  Q x12 w4)))

theorem C_s_waReach {Q : Sl → World → Prop} {p_0 : Int} {p_1 : Sl} {w : World} (h : V_s_waReach Q p_0 p_1 w) : Calls Tryz.prog F.s_waReach #[.agg #[.int .i64 p_0, p_1.v]] w (Ret [.at .sl] Q) :=
  mkC (hint := hint) (ann := annOf [(3, ⟨[(18, .int .i64)], [4, 5, 6, 7, 8, 19, 20, 21, 22, 23, 24, 25, 26, 27, 28, 29, 30, 31, 32, 33, 34, 35, 36, 37, 38, 39, 40, 41, 42, 43, 44, 45, 46, 47, 48, 49, 50, 51, 52, 53, 54, 55, 56, 57, 58, 59, 60]⟩), (6, ⟨[(25, .int .i64)], [6, 7, 8, 26, 27, 28, 29, 30, 31, 32, 33, 34, 35, 36, 37, 38, 39, 40, 41, 42, 43, 44, 45, 46, 47, 48, 49, 50, 51, 52, 53, 54, 55, 56, 57, 58, 59]⟩), (9, ⟨[(33, .int .i64)], [7, 8, 34, 35, 36, 37, 38, 39, 40, 41, 42, 43, 44, 45, 46, 47, 48, 49, 50, 51, 52, 53, 54, 55, 56, 57, 58]⟩)]) (args := [.agg #[.int .i64 p_0, p_1.v]]) (rs := [.at .sl]) Tryz.func178 (by kernel_rfl) (by kernel_rfl) h

def V_s_waDepths_k7 (I12 : Bool → Int → World → Prop) (m12 : Bool → Int → World → Nat) (x7_2 : Bool) (x31 : Int) (w7 : World) (x7_3 : Bool) (w11 : World) : Prop :=
  I12 x7_3 (IntKind.i64.wrap (x31 + 1)) w11 ∧ m12 x7_3 (IntKind.i64.wrap (x31 + 1)) w11 < m12 x7_2 x31 w7

def V_s_waDepths (Q : Sl → World → Prop) (x0_0 : Int) (x0_1 : Sl) (x1 : Sl) (w : World) : Prop :=
  NEW T.t_i_WalkProblem #[.int .i64 x0_0, x0_1.v] w fun (px2 : Addr) w1 =>
  LD [.int .i64] (px2.add 0) w1 fun (x11 : Int) =>
  RUN Tryz.prog (.at .sl) (Instr.makeSlice T.t_sl_int (.int .i64 x11) (.int .i64 x11)) w1 fun (x12 : Sl) w2 =>
  ∃ (I3 : Int → World → Prop) (m3 : Int → World → Nat), I3 0 w2 ∧ ∀ (x15 : Int) w3, I3 x15 w3 → ∀ _ _ _ _ _ _ _ : Value,
  cond (decide ((x15 : Int) < x12.len)) (
  IX x12 x15 1 fun (px20 : Addr) =>
  ST px20 0 [.int .i64 (-1)] w3 fun w4 =>
  I3 (IntKind.i64.wrap (x15 + 1)) w4 ∧ m3 (IntKind.i64.wrap (x15 + 1)) w4 < m3 x15 w3) (
  IX x1 0 1 fun (px24 : Addr) =>
  LD [.int .i64] px24 w3 fun (x25 : Int) =>
  IX x12 x25 1 fun (px26 : Addr) =>
  ST px26 0 [.int .i64 0] w3 fun w5 =>
  ∃ (I9 : Bool → World → Prop) (m9 : Bool → World → Nat), I9 true w5 ∧ ∀ (x7 : Bool) w6, I9 x7 w6 → ∀ _ _ _ _ _ _ _ _ _ _ _ _ _ _ _ _ _ _ _ _ _ _ _ _ _ _ _ _ _ _ _ _ _ _ _ _ _ _ _ _ _ _ _ _ _ : Value,
  cond x7 (
  LD [.sl] (px2.add 1) w6 fun (x29 : Sl) =>
  ∃ (I12 : Bool → Int → World → Prop) (m12 : Bool → Int → World → Nat), I12 false 0 w6 ∧ ∀ (x7_2 : Bool) (x31 : Int) w7, I12 x7_2 x31 w7 → ∀ _ _ _ _ _ _ _ _ _ _ _ _ _ _ _ _ _ _ _ _ _ _ _ _ _ _ _ _ _ _ _ _ _ _ _ _ _ _ _ _ : Value,
  cond (decide ((x31 : Int) < x29.len)) (
  IX x29 x31 1 fun (px33 : Addr) =>
  LD [.sl] px33 w7 fun (x34 : Sl) =>
  IX x34 0 1 fun (px37 : Addr) =>
  LD [.int .i64] px37 w7 fun (x38 : Int) =>
  IX x12 x38 1 fun (px39 : Addr) =>
  LD [.int .i64] px39 w7 fun (x40 : Int) =>
  cond (decide ((x40 : Int) ≥ 0)) (
  IX x34 1 1 fun (px45 : Addr) =>
  LD [.int .i64] px45 w7 fun (x46 : Int) =>
  IX x12 x46 1 fun (px47 : Addr) =>
  LD [.int .i64] px47 w7 fun (x48 : Int) =>
  cond (decide ((x48 : Int) < 0)) (
  IX x34 1 1 fun (px54 : Addr) =>
  LD [.int .i64] px54 w7 fun (x55 : Int) =>
  Calls Tryz.prog F.s_l1Has #[x1.v, .int .i64 x55] w7 (Ret [.at .bool] fun (x56 : Bool) w8 =>
  cond x56 (
  ∀ w9, Ext w8 w9 → w9.heap = w8.heap → ∃ (D9 : Nat → Prop),
  IX x34 1 1 fun (px60 : Addr) =>
  ¬ D9 px60.block ∧ (
  LD [.int .i64] px60 w9 fun (x61 : Int) =>
  Chg w9 w9 D9 ∧ (
  IX x34 0 1 fun (px64 : Addr) =>
  Chg w9 w9 D9 ∧ (
  LD [.int .i64] px64 w9 fun (x65 : Int) =>
  Chg w9 w9 D9 ∧ (
  IX x12 x65 1 fun (px66 : Addr) =>
  Chg w9 w9 D9 ∧ (
  LD [.int .i64] px66 w9 fun (x67 : Int) =>
  Chg w9 w9 D9 ∧ (
  Chg w9 w9 D9 ∧ (
  IX x12 x61 1 fun (px69 : Addr) =>
  ST px69 0 [.int .i64 (IntKind.i64.wrap (x67 + 1))] w9 fun w10 =>
  V_s_waDepths_k7 I12 m12 x7_2 x31 w7 true w10)))))))) (
  V_s_waDepths_k7 I12 m12 x7_2 x31 w7 x7_2 w8))) (
  V_s_waDepths_k7 I12 m12 x7_2 x31 w7 x7_2 w7)) (
  V_s_waDepths_k7 I12 m12 x7_2 x31 w7 x7_2 w7)) (
  I9 x7_2 w7 ∧ m9 x7_2 w7 < m9 x7 w6)) (
  Q x12 w6))

theorem C_s_waDepths {Q : Sl → World → Prop} {x0_0 : Int} {x0_1 : Sl} {x1 : Sl} {w : World} (h : V_s_waDepths Q x0_0 x0_1 x1 w) : Calls Tryz.prog F.s_waDepths #[.agg #[.int .i64 x0_0, x0_1.v], x1.v] w (Ret [.at .sl] Q) :=
  mkC (hint := hint) (ann := annOf [(3, ⟨[(15, .int .i64)], [6, 16, 17, 18, 19, 20, 21]⟩), (9, ⟨[(7, .bool)], [9, 27, 28, 29, 30, 31, 32, 33, 34, 35, 36, 37, 38, 39, 40, 41, 42, 43, 44, 45, 46, 47, 48, 49, 50, 51, 52, 53, 54, 55, 56, 57, 58, 59, 60, 61, 62, 63, 64, 65, 66, 67, 68, 69, 70]⟩), (12, ⟨[(7, .bool), (31, .int .i64)], [9, 32, 33, 34, 35, 36, 37, 38, 39, 40, 41, 42, 43, 44, 45, 46, 47, 48, 49, 50, 51, 52, 53, 54, 55, 56, 57, 58, 59, 60, 61, 62, 63, 64, 65, 66, 67, 68, 69, 70]⟩)]) (args := [.agg #[.int .i64 x0_0, x0_1.v], x1.v]) (rs := [.at .sl]) Tryz.func179 (by kernel_rfl) (by kernel_rfl) h

def V_s_waGcd (Q : Int → World → Prop) (a : Int) (b : Int) (w : World) : Prop :=
  ∃ (I1 : Int → Int → World → Prop) (m1 : Int → Int → World → Nat), I1 a b w ∧ ∀ (a_2 : Int) (b_2 : Int) w1, I1 a_2 b_2 w1 → ∀ _ _ _ _ _ _ : Value,
  cond (decide ((b_2 : Int) > 0)) (
  (b_2 : Int) ≠ 0 ∧ (
  ∀ w2, Ext w1 w2 →
  I1 b_2 (Int.tmod a_2 b_2) w2 ∧ m1 b_2 (Int.tmod a_2 b_2) w2 < m1 a_2 b_2 w1)) (
  Q a_2 w1)

theorem C_s_waGcd {Q : Int → World → Prop} {a : Int} {b : Int} {w : World} (h : V_s_waGcd Q a b w) : Calls Tryz.prog F.s_waGcd #[.int .i64 a, .int .i64 b] w (Ret [.at (.int .i64)] Q) :=
  mkC (hint := hint) (ann := annOf [(1, ⟨[(0, .int .i64), (1, .int .i64)], [5, 6, 7, 8, 9, 10]⟩)]) (args := [.int .i64 a, .int .i64 b]) (rs := [.at (.int .i64)]) Tryz.func180 (by kernel_rfl) (by kernel_rfl) h

def V_s_l1Abs (Q : Int → World → Prop) (n : Int) (w : World) : Prop :=
  Calls Tryz.prog F.s_l1Most #[.int .i64 n, .int .i64 (IntKind.i64.wrap (0 - n))] w (Ret [.at (.int .i64)] fun (x6 : Int) w1 =>
  Q x6 w1)

theorem C_s_l1Abs {Q : Int → World → Prop} {n : Int} {w : World} (h : V_s_l1Abs Q n w) : Calls Tryz.prog F.s_l1Abs #[.int .i64 n] w (Ret [.at (.int .i64)] Q) :=
  mkC (hint := hint) (ann := annOf []) (args := [.int .i64 n]) (rs := [.at (.int .i64)]) Tryz.func181 (by kernel_rfl) (by kernel_rfl) h

end Go.Proofs.YtaeledhbkdakcaaGreatDoor
end

section
/- What each function's code computes to. Printed by a program. -/
namespace Go.Proofs.YtaeledhbkdakcaaGreatDoor
open Go.GX Go.RowKit
set_option linter.unusedVariables false
set_option maxRecDepth 100000

def V_s_l1Most (Q : Int → World → Prop) (a : Int) (b : Int) (w : World) : Prop :=
  cond (decide ((a : Int) > b)) (
  Q a w) (
  Q b w)

theorem C_s_l1Most {Q : Int → World → Prop} {a : Int} {b : Int} {w : World} (h : V_s_l1Most Q a b w) : Calls Tryz.prog F.s_l1Most #[.int .i64 a, .int .i64 b] w (Ret [.at (.int .i64)] Q) :=
  mkC (hint := hint) (ann := annOf []) (args := [.int .i64 a, .int .i64 b]) (rs := [.at (.int .i64)]) Tryz.func205 (by kernel_rfl) (by kernel_rfl) h

end Go.Proofs.YtaeledhbkdakcaaGreatDoor
end

section
/- What the code of the comparison of integers computes to. Printed by a program. -/
namespace Go.Proofs.YtaeledhbkdakcaaGreatDoor
open Go.GX Go.RowKit
set_option linter.unusedVariables false
set_option maxRecDepth 100000

def V_cmp_Compare_int (Q : Int → World → Prop) (x : Int) (y : Int) (w : World) : Prop :=
  Calls Tryz.prog F.cmp_isNaN_int #[.int .i64 x] w (Ret [.at .bool] fun (x8 : Bool) w1 =>
  Calls Tryz.prog F.cmp_isNaN_int #[.int .i64 y] w1 (Ret [.at .bool] fun (x10 : Bool) w2 =>
  cond x8 (
  cond x10 (
  Q 0 w2) (
  Q (-1) w2)) (
  cond x10 (
  Q 1 w2) (
  cond (decide ((x : Int) < y)) (
  Q (-1) w2) (
  cond (decide ((x : Int) > y)) (
  Q 1 w2) (
  Q 0 w2))))))

theorem C_cmp_Compare_int {Q : Int → World → Prop} {x : Int} {y : Int} {w : World} (h : V_cmp_Compare_int Q x y w) : Calls Tryz.prog F.cmp_Compare_int #[.int .i64 x, .int .i64 y] w (Ret [.at (.int .i64)] Q) :=
  mkC (hint := hint) (ann := annOf []) (args := [.int .i64 x, .int .i64 y]) (rs := [.at (.int .i64)]) Tryz.func115 (by kernel_rfl) (by kernel_rfl) h

def V_cmp_isNaN_int (Q : Bool → World → Prop) (x : Int) (w : World) : Prop :=
  Q ((x : Int) != x) w

theorem C_cmp_isNaN_int {Q : Bool → World → Prop} {x : Int} {w : World} (h : V_cmp_isNaN_int Q x w) : Calls Tryz.prog F.cmp_isNaN_int #[.int .i64 x] w (Ret [.at .bool] Q) :=
  mkC (hint := hint) (ann := annOf []) (args := [.int .i64 x]) (rs := [.at .bool]) Tryz.func149 (by kernel_rfl) (by kernel_rfl) h

end Go.Proofs.YtaeledhbkdakcaaGreatDoor
end

section
/- What the code of the stable sort computes to. Printed by a program. -/
namespace Go.Proofs.YtaeledhbkdakcaaGreatDoor
open Go.GX Go.RowKit
set_option linter.unusedVariables false
set_option maxRecDepth 100000

end Go.Proofs.YtaeledhbkdakcaaGreatDoor
end

section
/- All functions' propositions of this seat. -/
end

section
/- Trailing zeros by the table: what the table's variable holds, the contract; the exclusive or. -/
namespace Go.Proofs.YtaeledhbkdakcaaGreatDoor
open Go.GX Go.RowKit
set_option maxRecDepth 100000

/-- The table's variable holds the table. -/
def GT (w : World) : Prop := TabAt (Srt.lays729_ren.g 1) Go.Lib.deBruijn64tab w
theorem GT.ext {w w' : World} (h : GT w) (hE : Ext w w') : GT w' := fun j hj => by
  have hc := h j hj
  rw [World.cell?_of_block (hE.same (cell_lt hc))]; exact hc

theorem tz64_ok {w : World} (g : GT w) {x : Nat} (hx : x < 18446744073709551616) :
    Calls Tryz.prog F.math_bits_TrailingZeros64 #[.int .u64 (x : Int)] w (Ret [.at (.int .i64)] fun (r : Int) w' => r = ((Go.Lib.ctz 64 x : Nat) : Int) ∧ w = w') := by
  refine (Any7.bits_TrailingZeros64 Srt.lays729 x hx w fun _ => g).mono ?_
  rintro e w' ⟨rfl, rfl⟩
  exact ⟨rfl, rfl⟩

theorem wrap_u64n {n : Nat} (h : n < 18446744073709551616) : IntKind.u64.wrap (n : Int) = (n : Int) := by
  rw [IntKind.wrap_u64]; omega

theorem xor_nat {a b : Nat} (ha : a < 4611686018427387904) (hb : b < 4611686018427387904) : bitXor .i64 (a : Int) (b : Int) = ((a ^^^ b : Nat) : Int) := by
  have h : a ^^^ b < 4611686018427387904 := Nat.xor_lt_two_pow (n := 62) ha hb
  unfold bitXor
  rw [bits64, BitVec.toNat_xor, ofInt_nat a ha, ofInt_nat b hb]
  exact wrap_of (by omega) (by omega)

end Go.Proofs.YtaeledhbkdakcaaGreatDoor
end

section
/- Contracts of the small functions. -/
namespace Go.Proofs.YtaeledhbkdakcaaGreatDoor
open Go.GX Go.RowKit

def inR (n lo hi : Int) : Bool := decide (lo ≤ n) && decide (n ≤ hi)

theorem inR_true {n lo hi : Int} (h : inR n lo hi = true) : lo ≤ n ∧ n ≤ hi := by simpa [inR] using h
theorem inR_false {n lo hi : Int} (h : inR n lo hi = false) : ¬ (lo ≤ n ∧ n ≤ hi) := by
  intro ⟨h1, h2⟩; simp [inR, h1, h2] at h

theorem within_ok (n lo hi : Int) (w : World) : Calls Tryz.prog F.i_within #[.int .i64 n, .int .i64 lo, .int .i64 hi] w (Ret [.at .bool] fun (b : Bool) w' => b = inR n lo hi ∧ w = w') := by
  refine C_i_within ?_
  unfold V_i_within inR
  by_cases h : lo ≤ n <;> simp [h]

theorem l1In_ok (n lo hi : Int) (w : World) : Calls Tryz.prog F.s_l1In #[.int .i64 n, .int .i64 lo, .int .i64 hi] w (Ret [.at .bool] fun (b : Bool) w' => b = inR n lo hi ∧ w = w') := by
  refine C_s_l1In ?_
  unfold V_s_l1In inR
  by_cases h : lo ≤ n <;> simp [h]

theorem l1Has_ok {w : World} {s : Sl} {l : List Int} (h : R w s l) (n : Int) :
    Calls Tryz.prog F.s_l1Has #[s.v, .int .i64 n] w (Ret [.at .bool] fun (b : Bool) w' => b = l.contains n ∧ w = w') := by
  refine C_s_l1Has ?_
  unfold V_s_l1Has
  refine ⟨IN l.length fun i w' => w' = w ∧ n ∉ l.take i, MN l.length, IN_zero ⟨rfl, by simp⟩, ?_⟩
  rintro x w1 ⟨i, rfl, hi, rfl, hn⟩
  intros
  rw [h.len]
  refine cond_dec (fun hlt => ?_) (fun hge => ⟨?_, rfl⟩)
  · have hlt' : i < l.length := by omega
    refine h.ixI hlt' fun p _ hc => ?_
    refine LD_int hc ?_
    refine cond_eq (fun he => ⟨?_, rfl⟩) (fun he => ?_)
    · simp [← he]
    · exact IN_next h.le hlt' ⟨rfl, not_mem_take_succ hlt' hn he⟩
  · have hil : i = l.length := by omega
    subst hil
    simp at hn
    simp [hn]

end Go.Proofs.YtaeledhbkdakcaaGreatDoor
end

section
/- Networks: how they lie in memory, and the contracts of the functions that copy, weigh and compare them. -/
namespace Go.Proofs.YtaeledhbkdakcaaGreatDoor
open Go.GX Go.RowKit
set_option maxRecDepth 100000

structure Net where
  ends : List (List (Int × Int))
  ids : List Int
  inputs : List Int

/-- Three slices read as a network. -/
def RNet (w : World) (a b c : Sl) (n : Net) : Prop := R w a n.ends ∧ R w b n.ids ∧ R w c n.inputs

theorem RNet.ext {w w' : World} {a b c : Sl} {n : Net} (h : RNet w a b c n) (hE : Ext w w') : RNet w' a b c n := ⟨h.1.ext hE, h.2.1.ext hE, h.2.2.ext hE⟩

theorem slt_int : SlT Tryz.prog T.t_sl_int T.t_int 1 8 (.int .i64 0) := ⟨by kernel_rfl, by kernel_rfl, rfl, by decide⟩

theorem flat_ok {w : World} {s : Sl} {l : List Int} (h : R w s l) : ∀ x ∈ l, I64 x := fun x hx => by
  obtain ⟨i, hi, rfl⟩ := List.mem_iff_getElem.1 hx
  obtain ⟨_, _, _, _, ⟨_, h1⟩, _⟩ := h.2.2 i l[i] (by simp [hi])
  exact h1

theorem toIntS_ok {w : World} {a : Sl} {l : List Int} (h : R w a l) (hb : l.length ≤ 1048576) :
    Calls Tryz.prog F.l_toIntS #[a.v] w (Ret [.at .sl] fun (s : Sl) w' => Ext w w' ∧ OwnL w' w.heap.size T.t_int s l) := by
  refine C_l_toIntS ?_
  unfold V_l_toIntS
  rw [h.len]
  refine RUN_make (α := Int) slt_int (d := 0) rfl (by omega) (by unfold maxLen; omega) fun s w1 hE1 hO1 => ?_
  refine ⟨IN l.length fun i w' => Ext w w' ∧ OwnL w' w.heap.size T.t_int s (l.take i ++ List.replicate (l.length - i) 0), MN l.length, IN_zero ⟨hE1, by simpa using hO1⟩, ?_⟩
  rintro x w2 ⟨i, rfl, hi, hE, hO⟩
  intros
  refine cond_dec (fun hlt => ?_) (fun hge => ?_)
  · have hlt' : i < l.length := by omega
    refine (h.ext hE).ixI hlt' fun p h64 hc => LD_int hc ?_
    refine IX_own hO (by rw [fill_len hi]; exact hlt') rfl fun p hp => ?_
    refine ST_own hO (by rw [fill_len hi]; exact hlt') hp l[i] rfl fun w3 hO3 hs => ?_
    refine IN_next (by omega) hlt' ⟨hs.ext0 hE (fun k hk => (hO.blk k hk).1), ?_⟩
    rw [← fill_step hlt']; exact hO3
  · have : i = l.length := by omega
    subst this
    exact ⟨hE, by simpa using hO⟩

theorem eqIntS_ok {w : World} {a b : Sl} {l m : List Int} (ha : R w a l) (hb : R w b m) :
    Calls Tryz.prog F.l_eqIntS #[a.v, b.v] w (Ret [.at .bool] fun (x : Bool) w' => x = decide (l = m) ∧ Ext w w') := by
  refine C_l_eqIntS ?_
  unfold V_l_eqIntS
  rw [ha.len, hb.len]
  refine cond_ne (fun hne => ⟨?_, Ext.refl _⟩) (fun he => ?_)
  · rw [decide_eq_false]; intro h; subst h; exact hne rfl
  · have hl : l.length = m.length := by omega
    refine ⟨IN l.length fun i w' => Ext w w' ∧ l.take i = m.take i, MN l.length, IN_zero ⟨Ext.refl _, by simp⟩, ?_⟩
    rintro x w1 ⟨i, rfl, hi, hE, ht⟩
    intros
    refine cond_dec (fun hlt => ?_) (fun hge => ⟨?_, hE⟩)
    · have h1 : i < l.length := by omega
      have h2 : i < m.length := by omega
      refine (ha.ext hE).ixI h1 fun p _ hc => LD_int hc ?_
      refine (hb.ext hE).ixI h2 fun p _ hc => LD_int hc ?_
      intro w2 hE2
      refine cond_ne (fun hne => ⟨?_, hE.trans hE2⟩) (fun heq => ?_)
      · rw [decide_eq_false]; intro h; subst h; exact hne rfl
      · exact IN_next ha.le h1 ⟨hE.trans hE2, by rw [List.take_succ_eq_append_getElem h1, List.take_succ_eq_append_getElem h2, ht, heq]⟩
    · have h3 : i = l.length := by omega
      subst h3
      rw [decide_eq_true]
      have h4 : m.take l.length = m := List.take_of_length_le (by omega)
      rw [h4, List.take_length] at ht
      exact ht



/-- A network that fits the law's bound. -/
def Small (n : Net) : Prop := n.ends.length ≤ 1048576 ∧ (∀ r ∈ n.ends, r.length ≤ 1048576) ∧ n.ids.length ≤ 1048576 ∧ n.inputs.length ≤ 1048576


theorem szIntS_ok {w : World} {a : Sl} {l : List Int} (h : R w a l) (left : Int) (h0 : 0 ≤ left) (h1 : left ≤ 1048576) :
    Calls Tryz.prog F.l_szIntS #[a.v, .int .i64 left] w (Ret [.at (.int .i64)] fun (x : Int) w' => (0 ≤ x → x ≤ left ∧ l.length ≤ left) ∧ w = w') := by
  refine C_l_szIntS ?_
  unfold V_l_szIntS
  have := h.le
  rw [h.len, wrap_of (by omega) (by omega)]
  exact cond_dec (fun _ => ⟨by omega, rfl⟩) (fun _ => ⟨by omega, rfl⟩)

end Go.Proofs.YtaeledhbkdakcaaGreatDoor
end

section
/- The contract of slices.Sort at []int (the kit's shelf, laid at this program by the kit's own tools, in plain words): for every slice the cells are then in order. -/
namespace Go.Proofs.YtaeledhbkdakcaaGreatDoor
open Go.Shelf
def Srt.lays189_ren : Go.Shelf.Ren := ⟨fun | 189 => 85 | 125 => 126 | 257 => 125 | 128 => 162 | 129 => 163 | 294 => 153 | 295 => 154 | 296 => 155 | 297 => 156 | 298 => 157 | 299 => 158 | 216 => 159 | 300 => 160 | 301 => 161 | 328 => 182 | 329 => 183 | 330 => 184 | 331 => 185 | 332 => 186 | 215 => 149 | 343 => 206 | n => n, fun | 28 => 25 | 3 => 3 | 46 => 84 | 0 => 0 | 51 => 132 | 53 => 135 | 4 => 4 | 183 => 160 | 182 => 159 | 131 => 48 | 5 => 5 | 9 => 9 | 218 => 177 | 222 => 181 | 228 => 194 | 229 => 195 | n => n, fun | n => n⟩
theorem Srt.lays189 : Go.Proofs.Lays.n189 Tryz.prog Srt.lays189_ren := {
  mixed := by kernel_rfl
  f125 := Tryz.func126.trans (congrArg some (by kernel_rfl))
  f128 := Tryz.func162.trans (congrArg some (by kernel_rfl))
  f129 := Tryz.func163.trans (congrArg some (by kernel_rfl))
  f189 := Tryz.func85.trans (congrArg some (by kernel_rfl))
  f215 := Tryz.func149.trans (congrArg some (by kernel_rfl))
  f216 := Tryz.func159.trans (congrArg some (by kernel_rfl))
  f257 := Tryz.func125.trans (congrArg some (by kernel_rfl))
  f294 := Tryz.func153.trans (congrArg some (by kernel_rfl))
  f295 := Tryz.func154.trans (congrArg some (by kernel_rfl))
  f296 := Tryz.func155.trans (congrArg some (by kernel_rfl))
  f297 := Tryz.func156.trans (congrArg some (by kernel_rfl))
  f298 := Tryz.func157.trans (congrArg some (by kernel_rfl))
  f299 := Tryz.func158.trans (congrArg some (by kernel_rfl))
  f300 := Tryz.func160.trans (congrArg some (by kernel_rfl))
  f301 := Tryz.func161.trans (congrArg some (by kernel_rfl))
  f328 := Tryz.func182.trans (congrArg some (by kernel_rfl))
  f329 := Tryz.func183.trans (congrArg some (by kernel_rfl))
  f330 := Tryz.func184.trans (congrArg some (by kernel_rfl))
  f331 := Tryz.func185.trans (congrArg some (by kernel_rfl))
  f332 := Tryz.func186.trans (congrArg some (by kernel_rfl))
  f343 := Tryz.func206.trans (congrArg some (by kernel_rfl))
  t0 := Tryz.underlying0
  a0 := Tryz.isAgg0
  z0 := Tryz.sizeOf0
  v0 := Tryz.zeroValue0
  t3 := Tryz.underlying3
  a3 := Tryz.isAgg3
  z3 := Tryz.sizeOf3
  v3 := Tryz.zeroValue3
  t4 := Tryz.underlying4
  a4 := Tryz.isAgg4
  z4 := Tryz.sizeOf4
  v4 := Tryz.zeroValue4
  t5 := Tryz.underlying5
  a5 := Tryz.isAgg5
  z5 := Tryz.sizeOf5
  v5 := Tryz.zeroValue5
  t9 := Tryz.underlying9
  a9 := Tryz.isAgg9
  z9 := Tryz.sizeOf9
  v9 := Tryz.zeroValue9
  t28 := Tryz.underlying25
  a28 := Tryz.isAgg25
  z28 := Tryz.sizeOf25
  v28 := Tryz.zeroValue25
  t46 := Tryz.underlying84
  a46 := Tryz.isAgg84
  z46 := Tryz.sizeOf84
  v46 := Tryz.zeroValue84
  t51 := Tryz.underlying132
  a51 := Tryz.isAgg132
  z51 := Tryz.sizeOf132
  v51 := Tryz.zeroValue132
  t53 := Tryz.underlying135
  a53 := Tryz.isAgg135
  z53 := Tryz.sizeOf135
  v53 := Tryz.zeroValue135
  t131 := Tryz.underlying48
  a131 := Tryz.isAgg48
  z131 := Tryz.sizeOf48
  v131 := Tryz.zeroValue48
  t182 := Tryz.underlying159
  a182 := Tryz.isAgg159
  z182 := Tryz.sizeOf159
  v182 := Tryz.zeroValue159
  t183 := Tryz.underlying160
  a183 := Tryz.isAgg160
  z183 := Tryz.sizeOf160
  v183 := Tryz.zeroValue160
  t218 := Tryz.underlying177
  a218 := Tryz.isAgg177
  z218 := Tryz.sizeOf177
  v218 := Tryz.zeroValue177
  t222 := Tryz.underlying181
  a222 := Tryz.isAgg181
  z222 := Tryz.sizeOf181
  v222 := Tryz.zeroValue181
  t228 := Tryz.underlying194
  a228 := Tryz.isAgg194
  z228 := Tryz.sizeOf194
  v228 := Tryz.zeroValue194
  t229 := Tryz.underlying195
  a229 := Tryz.isAgg195
  z229 := Tryz.sizeOf195
  v229 := Tryz.zeroValue195 }
open Go.Sort Go.RowKit in
theorem Srt.slices_Sort_int (blk off cap : Nat) (zs : List Int) (w : World) (hH : Holds (Value.int .i64) w blk off zs.toArray) (hblk : blk < w.heap.size) (hsz : zs.length < 4611686018427387904) :
    Calls Tryz.prog 85 #[.slice (some ⟨blk, off, none⟩) zs.length cap] w fun e w' =>
      e = .returned (.tuple #[]) ∧ ∃ n os, w' = grow (putRow (Value.int .i64) (Sort.ahead w n) blk off (zs.mergeSort fun x y => decide (x ≤ y)).toArray) os := Any.slices_Sort_int Srt.lays189 blk off cap zs w hH hblk hsz
open Go.RowKit Go.Sort in
/-- .. and plain. (LAID: no walk: one application.) -/
theorem Srt.slices_Sort_int_none (p : Option Addr) (cap : Nat) (w : World) :
    Calls Tryz.prog 85 #[.slice p 0 cap] w fun e w' => e = .returned (.tuple #[]) ∧ w' = w := Any.slices_Sort_int_none Srt.lays189 p cap w
end Go.Proofs.YtaeledhbkdakcaaGreatDoor
end

section
/- Contracts of the functions on lists of numbers: sorting, copying, searching, ranges. -/
namespace Go.Proofs.YtaeledhbkdakcaaGreatDoor
open Go.GX Go.RowKit
set_option maxRecDepth 100000

/-! ### slices.Sort, slices.Clone -/

def sortI (l : List Int) : List Int := l.mergeSort fun x y => decide (x ≤ y)

theorem flatI (l : List Int) : l.flatMap Flat.cells = l.map (Value.int .i64) := by
  induction l with
  | nil => rfl
  | cons x r ih => rw [List.flatMap_cons, ih]; rfl

theorem Ret_nil {Q : World → Prop} {w : World} (h : Q w) : Ret [] Q (.returned (.tuple #[])) w := h

theorem sort_ok {w : World} {base : Nat} {s : Sl} {l : List Int} (h : OwnL w base T.t_int s l) (hl : l.length ≤ 1048576) :
    Calls Tryz.prog F.slices_Sort_sl_int_int #[s.v] w (Ret [] fun w' => OwnL w' base T.t_int s (sortI l) ∧ Step w w' s.v.ownBlock) := by
  rcases h.2.2 with ⟨hv, h0⟩ | ⟨g, cap, cur, hv, hb, hg, hle, hmx, hsz, htake⟩
  · have hnil : l = [] := by rw [h.1] at h0; exact List.length_eq_zero_iff.1 h0
    subst hnil
    have hlen : s.len = 0 := h0
    have hsv : s.v = .slice s.a 0 s.cap := by rw [← hlen]
    rw [hsv]
    refine (Srt.slices_Sort_int_none s.a s.cap w).mono ?_
    rintro e w' ⟨rfl, rfl⟩
    exact Ret_nil ⟨by simpa [sortI] using h, Step.refl _ _⟩
  · have htake' : cur.toList.take l.length = l.map (Value.int .i64) := by rw [← flatI, ← htake, h.1]; simp [Rep.sz]
    have hsv : s.v = .slice (some ⟨g, 0, none⟩) l.length cap := by rw [← h.1]; exact hv
    rw [hsv]
    refine (Srt.slices_Sort_int g 0 cap l w (holds_of_blockI hg htake') (Array.getElem?_eq_some_iff.1 hg).1 (by omega)).mono ?_
    rintro e w' ⟨rfl, n, os, rfl⟩
    refine Ret_nil ⟨⟨by simp [sortI, h.1], ?_⟩, Step.of_grown (grownBy_sortedI _)⟩
    unfold Go.GX.Own
    rw [h.1, hsv, flatI]
    exact ownsRow_sortedI (by simp) hb hg (by rw [← h.1]; exact hle) hmx hsz

theorem clone_ok {w : World} {s : Sl} {l : List Int} (h : R w s l) (hl : l.length ≤ 1048576) :
    Calls Tryz.prog F.slices_Clone_sl_int_int #[s.v] w (Ret [.at .sl] fun (r : Sl) w' => Ext w w' ∧ OwnL w' w.heap.size T.t_int r l) := by
  refine C_slices_Clone_sl_int_int ?_
  unfold V_slices_Clone_sl_int_int
  refine cond_b (fun hn => ?_) (fun _ => ?_)
  · have hnil : l = [] := by
      cases l with
      | nil => rfl
      | cons x r => obtain ⟨a, _, ha, _⟩ := h.2.2 0 x rfl; rw [ha] at hn; cases hn
    subst hnil
    exact ⟨Ext.refl _, OwnL.nil _ _ _⟩
  · refine RUN_lit0 (α := Int) slt_int fun r w1 hE1 hO1 => ?_
    refine RUN_append (α := Int) slt_int hO1 hE1.size (h.ext hE1) (by simp; omega) (by simp [maxLen]; omega) fun r' w2 hO2 hs => ?_
    exact ⟨hs.ext0 hE1 (fun k hk => (hO1.blk k hk).1), by simpa using hO2⟩

/-! ### Ranges -/

/-- Strictly increasing, step by step. -/
def Incr (l : List Int) : Prop := ∀ i, (h : i + 1 < l.length) → l[i] < l[i + 1]

def AllIn (l : List Int) (lo hi : Int) : Prop := ∀ x ∈ l, lo ≤ x ∧ x ≤ hi

theorem allIn_take_succ {l : List Int} {lo hi : Int} {i : Nat} (hi' : i < l.length) (h : AllIn (l.take i) lo hi) (hx : lo ≤ l[i] ∧ l[i] ≤ hi) : AllIn (l.take (i + 1)) lo hi := fun x hm => by
  rw [List.take_succ_eq_append_getElem hi'] at hm
  rcases List.mem_append.1 hm with h1 | h1
  · exact h x h1
  · rw [List.mem_singleton.1 h1]; exact hx

theorem l1All_ok {w : World} {s : Sl} {l : List Int} (h : R w s l) (lo hi : Int) :
    Calls Tryz.prog F.s_l1All #[s.v, .int .i64 lo, .int .i64 hi] w (Ret [.at .bool] fun (b : Bool) w' => (b = true ↔ AllIn l lo hi) ∧ w = w') := by
  refine C_s_l1All ?_
  unfold V_s_l1All
  rw [h.len]
  refine ⟨IN l.length fun i w' => w = w' ∧ AllIn (l.take i) lo hi, MN l.length, IN_zero ⟨rfl, fun x hx => by simp at hx⟩, ?_⟩
  rintro x _ ⟨i, rfl, hi', rfl, ha⟩
  intros
  refine cond_dec (fun hlt => ?_) (fun hge => ⟨?_, rfl⟩)
  · have hlt' : i < l.length := by omega
    refine h.ixI hlt' fun p _ hc => LD_int hc ?_
    refine call (l1In_ok _ _ _ _) ?_
    rintro b _ ⟨hb, rfl⟩
    refine cond_not (fun hf => ⟨?_, rfl⟩) (fun ht => IN_next h.le hlt' ⟨rfl, allIn_take_succ hlt' ha (inR_true (hb ▸ ht))⟩)
    simp only [Bool.false_eq_true, false_iff]
    intro hall
    exact inR_false (hb ▸ hf) (hall _ (List.getElem_mem hlt'))
  · have : i = l.length := by omega
    subst this
    simpa using ha

/-- What both sides' test of increasing lists comes to. -/
def Rising (l : List Int) (lo hi : Int) : Prop := AllIn l lo hi ∧ Incr l

theorem incr_take_succ {l : List Int} {i : Nat} (hi : i < l.length) (h : Incr (l.take i)) (hx : ∀ (h0 : 0 < i), l[i - 1] < l[i]) : Incr (l.take (i + 1)) := by
  intro j hj
  simp at hj
  have h1 : (l.take (i + 1))[j]'(by simp; omega) = l[j]'(by omega) := by simp
  have h2 : (l.take (i + 1))[j + 1]'(by simp; omega) = l[j + 1]'(by omega) := by simp
  rw [h1, h2]
  by_cases hji : j + 1 = i
  · subst hji; exact hx (by omega)
  · have := h j (by simp; omega)
    simpa using this

theorem increasing_ok {w : World} {s : Sl} {l : List Int} (h : R w s l) (lo hi : Int) :
    Calls Tryz.prog F.i_increasing #[s.v, .int .i64 lo, .int .i64 hi] w (Ret [.at .bool] fun (b : Bool) w' => (b = true ↔ Rising l lo hi) ∧ w = w') := by
  refine C_i_increasing ?_
  unfold V_i_increasing
  rw [h.len]
  refine ⟨IN l.length fun i w' => w = w' ∧ AllIn (l.take i) lo hi ∧ Incr (l.take i), MN l.length, IN_zero ⟨rfl, fun x hx => by simp at hx, fun j hj => by simp at hj⟩, ?_⟩
  rintro x _ ⟨i, rfl, hi', rfl, ha, hinc⟩
  intros
  have hle := h.le
  refine cond_dec (fun hlt => ?_) (fun hge => ⟨?_, rfl⟩)
  · have hlt' : i < l.length := by omega
    refine h.ixI hlt' fun p _ hc => LD_int hc ?_
    refine call (within_ok _ _ _ _) ?_
    rintro b _ ⟨hb, rfl⟩
    refine cond_not (fun hf => ⟨?_, rfl⟩) (fun ht => ?_)
    · simp only [Bool.false_eq_true, false_iff]
      intro hall
      exact inR_false (hb ▸ hf) (hall.1 _ (List.getElem_mem hlt'))
    · have hr := inR_true (hb ▸ ht)
      refine cond_dec (fun hpos => ?_) (fun hnp => ?_)
      · have hpos' : 0 < i := by omega
        have e1 : IntKind.i64.wrap ((i : Int) - 1) = ((i - 1 : Nat) : Int) := by rw [wrap_of (by omega) (by omega)]; omega
        rw [e1]
        refine h.ixI (by omega) fun p _ hc => LD_int hc ?_
        refine cond_dec (fun hge2 => ⟨?_, rfl⟩) (fun hlt2 => ?_)
        · simp only [Bool.false_eq_true, false_iff]
          intro hall
          have := hall.2 (i - 1) (by omega)
          simp only [show i - 1 + 1 = i by omega] at this
          omega
        · exact IN_next hle hlt' ⟨rfl, allIn_take_succ hlt' ha hr, incr_take_succ hlt' hinc fun _ => by omega⟩
      · exact IN_next hle hlt' ⟨rfl, allIn_take_succ hlt' ha hr, incr_take_succ hlt' hinc fun h0 => absurd h0 (by omega)⟩
  · have : i = l.length := by omega
    subst this
    simp at ha hinc
    simp [Rising, ha, hinc]

/-! ### Searching with a function -/

/-- A function value that answers p for each element of a list, whatever the world that goes on from this one. -/
def Answers (w : World) (f : Value) (l : List Int) (p : Int → Bool) : Prop :=
  ∀ x ∈ l, ∀ w', Ext w w' → CALLV Tryz.prog f #[.int .i64 x] w' (Ret [.at .bool] fun (b : Bool) w'' => b = p x ∧ Ext w' w'')

theorem callv {P : Program} {f : Value} {args : Array Value} {w : World} {rs : List Sh} {Q Q' : Cur (World → Prop) (atsR rs)} (h : CALLV P f args w (Ret rs Q)) (hk : CurLe (atsR rs) Q Q') : CALLV P f args w (Ret rs Q') := by
  obtain ⟨g, caps, h1, h2, h3⟩ := h
  exact ⟨g, caps, h1, h2, call h3 hk⟩

theorem indexFuncI_ok {w : World} {s : Sl} {l : List Int} (h : R w s l) {f : Value} {p : Int → Bool} (hf : Answers w f l p) :
    Calls Tryz.prog F.slices_IndexFunc_sl_int_int #[s.v, f] w (Ret [.at (.int .i64)] fun (i : Int) w' => (match l.findIdx? p with | some k => i = k | none => i = -1) ∧ Ext w w') := by
  refine C_slices_IndexFunc_sl_int_int ?_
  unfold V_slices_IndexFunc_sl_int_int
  rw [h.len]
  refine ⟨IN l.length fun i w' => Ext w w' ∧ ∀ x ∈ l.take i, p x = false, MN l.length, IN_zero ⟨Ext.refl _, by simp⟩, ?_⟩
  rintro x w1 ⟨i, rfl, hi', hE, ha⟩
  intros
  refine cond_dec (fun hlt => ?_) (fun hge => ⟨?_, hE⟩)
  · have hlt' : i < l.length := by omega
    refine (h.ext hE).ixI hlt' fun q _ hc => LD_int hc ?_
    refine callv (hf _ (List.getElem_mem hlt') w1 hE) ?_
    rintro b w2 ⟨rfl, hE2⟩
    refine cond_b (fun ht => ⟨?_, hE.trans hE2⟩) (fun hf => ?_)
    · have : l.findIdx? p = some i := by
        rw [List.findIdx?_eq_some_iff_getElem]
        refine ⟨hlt', ht, fun j hj => ?_⟩
        have := ha l[j] (by rw [List.mem_take_iff_getElem]; exact ⟨j, by omega, rfl⟩)
        simp [this]
      rw [this]
    · refine IN_next h.le hlt' ⟨hE.trans hE2, fun y hy => ?_⟩
      rw [List.take_succ_eq_append_getElem hlt'] at hy
      rcases List.mem_append.1 hy with h1 | h1
      · exact ha y h1
      · rw [List.mem_singleton.1 h1]; exact hf
  · have : i = l.length := by omega
    subst this
    have : l.findIdx? p = none := by
      rw [List.findIdx?_eq_none_iff]
      intro y hy
      exact ha y (by simpa using hy)
    rw [this]

theorem containsFuncI_ok {w : World} {s : Sl} {l : List Int} (h : R w s l) {f : Value} {p : Int → Bool} (hf : Answers w f l p) :
    Calls Tryz.prog F.slices_ContainsFunc_sl_int_int #[s.v, f] w (Ret [.at .bool] fun (b : Bool) w' => b = l.any p ∧ Ext w w') := by
  refine C_slices_ContainsFunc_sl_int_int ?_
  unfold V_slices_ContainsFunc_sl_int_int
  refine call (indexFuncI_ok h hf) ?_
  rintro i w1 ⟨hi, hE⟩
  refine ⟨?_, hE⟩
  cases hf : l.findIdx? p with
  | none =>
    rw [hf] at hi
    simp only at hi
    subst hi
    have h1 := List.findIdx?_eq_none_iff.1 hf
    have : l.any p = false := by
      rw [List.any_eq_false]; intro x hx; simp [h1 x hx]
    rw [this]; rfl
  | some k =>
    rw [hf] at hi
    simp only at hi
    subst hi
    obtain ⟨hk, hp, _⟩ := List.findIdx?_eq_some_iff_getElem.1 hf
    have : l.any p = true := List.any_eq_true.2 ⟨l[k], List.getElem_mem hk, hp⟩
    rw [this]
    simp

theorem allWithin_ok {w : World} {s : Sl} {l : List Int} (h : R w s l) (lo hi : Int) :
    Calls Tryz.prog F.i_allWithin #[s.v, .int .i64 lo, .int .i64 hi] w (Ret [.at .bool] fun (b : Bool) w' => (b = true ↔ AllIn l lo hi) ∧ Ext w w') := by
  refine C_i_allWithin ?_
  unfold V_i_allWithin
  refine NEW_intro fun p1 w1 hp1 hs1 hE1 hb1 => ?_
  refine NEW_intro fun p2 w2 hp2 hs2 hE2 hb2 => ?_
  have hb1' := hb1.ext hE2
  have hE := hE1.trans hE2
  refine call (containsFuncI_ok (p := fun x => !inR x lo hi) (h.ext hE) ?_) ?_
  · intro x hx w' hw'
    refine CALLV_mk (by kernel_rfl) (C_i_allWithin_1 ?_)
    unfold V_i_allWithin_1
    refine LD_bi (hb1'.ext hw') (LD_bi (hb2.ext hw') ?_)
    refine call (within_ok _ _ _ _) ?_
    rintro b _ ⟨rfl, rfl⟩
    exact ⟨rfl, Ext.refl _⟩
  · rintro b w3 ⟨rfl, hE3⟩
    refine ⟨?_, hE.trans hE3⟩
    simp [AllIn, inR]

/-! ### Identifiers, inputs -/

def IdsOk (ids : List Int) (k : Nat) : Prop := AllIn ids 1 999999 ∧ ids.Nodup ∧ (ids.length = 0 ∨ ids.length = k)

theorem nodup_take_succ {l : List Int} {i : Nat} (hi : i < l.length) (h : (l.take i).Nodup) (hx : l[i] ∉ l.take i) : (l.take (i + 1)).Nodup := by
  rw [List.take_succ_eq_append_getElem hi, List.nodup_append]
  refine ⟨h, by simp, ?_⟩
  intro a ha b hb hab
  rw [List.mem_singleton.1 hb] at hab
  subst hab
  exact hx ha

theorem incr_iff_pairwise {l : List Int} : Incr l ↔ l.Pairwise (· < ·) := by
  constructor
  · intro h
    rw [List.pairwise_iff_getElem]
    intro i j hi hj hij
    induction j with
    | zero => omega
    | succ j ih =>
      rcases Nat.lt_or_eq_of_le (Nat.le_of_lt_succ hij) with h1 | h1
      · exact Int.lt_trans (ih (by omega) h1) (h j hj)
      · subst h1; exact h i hj
  · intro h i hi
    exact (List.pairwise_iff_getElem.1 h) i (i + 1) (by omega) hi (by omega)

theorem sortI_perm (l : List Int) : (sortI l).Perm l := List.mergeSort_perm _ _

theorem sortI_sorted (l : List Int) : (sortI l).Pairwise (· ≤ ·) := by
  have := List.pairwise_mergeSort (le := fun x y : Int => decide (x ≤ y)) (fun a b c h1 h2 => by simp at *; omega) (fun a b => by simp; omega) l
  exact this.imp (by intro a b h; simpa using h)

theorem incr_sortI {l : List Int} : Incr (sortI l) ↔ l.Nodup := by
  rw [incr_iff_pairwise, ← (sortI_perm l).nodup_iff]
  constructor
  · intro h; exact h.imp (fun h => by omega)
  · intro h
    exact (List.pairwise_and_iff.2 ⟨sortI_sorted l, h⟩).imp (fun ⟨h1, h2⟩ => by omega)

theorem allIn_sortI {l : List Int} {lo hi : Int} : AllIn (sortI l) lo hi ↔ AllIn l lo hi :=
  ⟨fun h x hx => h x ((sortI_perm l).mem_iff.2 hx), fun h x hx => h x ((sortI_perm l).mem_iff.1 hx)⟩

theorem idsOk_ok {w : World} {s : Sl} {l : List Int} (h : R w s l) (hl : l.length ≤ 1048576) (k : Nat) :
    Calls Tryz.prog F.i_idsOk #[s.v, .int .i64 k] w (Ret [.at .bool] fun (b : Bool) w' => (b = true ↔ IdsOk l k) ∧ Ext w w') := by
  refine C_i_idsOk ?_
  unfold V_i_idsOk
  rw [h.len]
  refine cond_eq (fun h0 => ⟨?_, Ext.refl _⟩) (fun h0 => ?_)
  · have : l = [] := List.length_eq_zero_iff.1 (by omega)
    subst this
    simp [IdsOk, AllIn]
  · refine call (clone_ok h hl) ?_
    rintro r w1 ⟨hE1, hO1⟩
    refine call (sort_ok hO1 hl) ?_
    rintro w2 ⟨hO2, hs2⟩
    have hE2 := hs2.ext0 hE1 (fun k hk => (hO1.blk k hk).1)
    refine cond_eq (fun he => ?_) (fun hne => ⟨?_, hE2⟩)
    · have hr := hO2.rep (fun x hx => flat_ok h x ((sortI_perm l).mem_iff.1 hx))
      refine call (increasing_ok hr.any 1 999999) ?_
      rintro b _ ⟨hb, rfl⟩
      refine ⟨?_, hE2⟩
      rw [hb]
      unfold Rising IdsOk
      rw [incr_sortI, allIn_sortI]
      constructor
      · intro ⟨h1, h2⟩; exact ⟨h1, h2, .inr (by omega)⟩
      · intro ⟨h1, h2, _⟩; exact ⟨h1, h2⟩
    · simp only [Bool.false_eq_true, false_iff]
      rintro ⟨_, _, h1 | h1⟩
      · omega
      · omega

end Go.Proofs.YtaeledhbkdakcaaGreatDoor
end

section
/- When a network is a network: both sides' tests, and the laws' tests of nodes and ports. -/
namespace Go.Proofs.YtaeledhbkdakcaaGreatDoor
open Go.GX Go.RowKit
set_option maxRecDepth 100000

abbrev Ends := List (List (Int × Int))

/-- The far end of port i of node v. -/
def port (E : Ends) (v i : Nat) : Option (Int × Int) := (E[v]?).bind (·[i]?)

theorem port_get {E : Ends} {v i : Nat} (hv : v < E.length) (hi : i < E[v].length) : port E v i = some E[v][i] := by
  simp [port, hv, hi]

theorem port_some {E : Ends} {v i : Nat} {e : Int × Int} (h : port E v i = some e) : ∃ (hv : v < E.length) (hi : i < E[v].length), E[v][i] = e := by
  unfold port at h
  by_cases hv : v < E.length
  · by_cases hi : i < E[v].length
    · simp [hv, hi] at h; exact ⟨hv, hi, h⟩
    · simp [hv, hi] at h
  · simp [hv] at h

/-- The far end leads back. -/
def Back (E : Ends) (v i : Nat) (e : Int × Int) : Prop := ∃ a b : Nat, e = ((a : Int), (b : Int)) ∧ port E a b = some ((v : Int), (i : Int))

def RowOk (E : Ends) (v : Nat) : Prop := (∀ r, E[v]? = some r → r.length ≤ 6) ∧ ∀ i e, port E v i = some e → Back E v i e

structure Good (n : Net) : Prop where
  size : 1 ≤ n.ends.length ∧ n.ends.length ≤ 40
  ids : IdsOk n.ids n.ends.length
  inputs : n.inputs.length = n.ends.length ∧ AllIn n.inputs 0 9
  rows : ∀ v < n.ends.length, RowOk n.ends v

theorem Good.deg {n : Net} (h : Good n) {v : Nat} (hv : v < n.ends.length) : n.ends[v].length ≤ 6 := (h.rows v hv).1 _ (by simp [hv])
theorem Good.back {n : Net} (h : Good n) {v i : Nat} (hv : v < n.ends.length) (hi : i < n.ends[v].length) : Back n.ends v i n.ends[v][i] := (h.rows v hv).2 i _ (port_get hv hi)

/-- Port numbers as whole numbers. -/
def portZ (E : Ends) (v i : Int) : Option (Int × Int) := if 0 ≤ v ∧ 0 ≤ i then port E v.toNat i.toNat else none

/-- Two answers of a test: the answer, and whether it was asked rightly. -/
def Ans2 (g p : Prop) (x ok : Bool) : Prop := (x = true ↔ g ∧ p) ∧ (ok = true ↔ g)

theorem Ans2.eq {g p : Prop} {x ok x' ok' : Bool} (h : Ans2 g p x ok) (h' : Ans2 g p x' ok') : x = x' ∧ ok = ok' :=
  ⟨Bool.eq_iff_iff.2 (h.1.trans h'.1.symm), Bool.eq_iff_iff.2 (h.2.trans h'.2.symm)⟩

theorem Ans2.no {g p : Prop} (h : ¬ g) : Ans2 g p false false := ⟨by simp [h], by simp [h]⟩
theorem Ans2.mk {g p : Prop} {x : Bool} (h : g) (hx : x = true ↔ p) : Ans2 g p x true := ⟨by simp [h, hx], by simp [h]⟩

end Go.Proofs.YtaeledhbkdakcaaGreatDoor
end

section
/- What a node's neighbours bear: both sides' walks over ports; the tests IsDefective and IsWeak. -/
namespace Go.Proofs.YtaeledhbkdakcaaGreatDoor
open Go.GX Go.RowKit
set_option maxRecDepth 100000

def rowOf (E : Ends) (v : Nat) : List (Int × Int) := E.getD v []
theorem rowOf_get {E : Ends} {v : Nat} (h : v < E.length) : rowOf E v = E[v] := by simp [rowOf, h]

/-- What lies at the far ends of a node's ports. -/
def nearOf (E : Ends) (l : List Int) (v : Nat) : List Int := (rowOf E v).map fun e => l.getD e.1.toNat 0
/-- The nodes at the far ends of a node's ports. -/
def adjOf (E : Ends) (v : Nat) : List Int := (rowOf E v).map (·.1)

theorem Good.far {n : Net} (hg : Good n) {v i : Nat} (hv : v < n.ends.length) (hi : i < n.ends[v].length) : ∃ x y : Nat, n.ends[v][i] = ((x : Int), (y : Int)) ∧ x < n.ends.length ∧ port n.ends x y = some ((v : Int), (i : Int)) := by
  obtain ⟨x, y, hxy, hb⟩ := hg.back hv hi
  obtain ⟨hx, _⟩ := port_some hb
  exact ⟨x, y, hxy, hx, hb⟩

theorem map_take_succ {α β : Type} {l : List α} {i : Nat} (hi : i < l.length) (f : α → β) : (l.take (i + 1)).map f = (l.take i).map f ++ [f l[i]] := by
  rw [List.take_succ_eq_append_getElem hi, List.map_append]; rfl

theorem adj_len {n : Net} (_ : Good n) {v : Nat} (hv : v < n.ends.length) : (adjOf n.ends v).length = n.ends[v].length := by
  unfold adjOf; rw [rowOf_get hv]; simp

theorem near_adj (E : Ends) (l : List Int) (v : Nat) : nearOf E l v = (adjOf E v).map fun u => l.getD u.toNat 0 := by
  unfold nearOf adjOf; rw [List.map_map]; rfl

/-! ### Colours -/

structure ColoursOk (n : Net) (l : List Int) : Prop where
  good : Good n
  len : l.length = n.ends.length
  all : AllIn l 0 1000000000000

/-! ### IsDefective -/

/-! ### IsWeak -/

end Go.Proofs.YtaeledhbkdakcaaGreatDoor
end

section
/- Distances in a network, and the search that finds them, in plain words: no program in sight. -/
namespace Go.Proofs.YtaeledhbkdakcaaGreatDoor

/-- A walk of k steps from v to x. -/
def Reach (E : Ends) (v : Nat) : Nat → Nat → Prop
  | 0, x => x = v
  | k + 1, x => ∃ y, Reach E v k y ∧ (x : Int) ∈ adjOf E y

/-- The list of all distances from v: -1 where no walk leads. -/
structure Dists (E : Ends) (v : Nat) (D : List Int) : Prop where
  len : D.length = E.length
  low : ∀ u, -1 ≤ D.getD u (-1)
  sound : ∀ u d : Nat, D.getD u (-1) = d → Reach E v d u
  least : ∀ k x, Reach E v k x → 0 ≤ D.getD x (-1) ∧ D.getD x (-1) ≤ k

theorem Dists.eq {E : Ends} {v : Nat} {D D' : List Int} (h : Dists E v D) (h' : Dists E v D') : D = D' := by
  have key : ∀ {A B : List Int}, Dists E v A → Dists E v B → ∀ u, 0 ≤ A.getD u (-1) → 0 ≤ B.getD u (-1) ∧ B.getD u (-1) ≤ A.getD u (-1) := by
    intro A B hA hB u hu
    obtain ⟨d, hd⟩ := Int.eq_ofNat_of_zero_le hu
    have := hB.least d u (hA.sound u d hd)
    rw [hd]
    exact this
  apply List.ext_getElem (by rw [h.len, h'.len])
  intro i h1 h2
  have e1 : D.getD i (-1) = D[i] := by simp [h1]
  have e2 : D'.getD i (-1) = D'[i] := by simp [h2]
  rw [← e1, ← e2]
  have l1 := h.low i
  have l2 := h'.low i
  by_cases hu : 0 ≤ D.getD i (-1)
  · have k1 := key h h' i hu
    have k2 := key h' h i k1.1
    omega
  · by_cases hu' : 0 ≤ D'.getD i (-1)
    · have k2 := key h' h i hu'
      omega
    · omega

/-- The distance of the queue's i-th node. -/
def dv (D W : List Int) (i : Nat) : Int := D.getD (W.getD i 0).toNat (-1)

/-- The search's state: the nodes found so far, in order; their distances; how many have been looked at. -/
structure Bfs (E : Ends) (v : Nat) (W D : List Int) (k : Nat) : Prop where
  len : D.length = E.length
  le : k ≤ W.length
  nodes : ∀ x ∈ W, ∃ u : Nat, x = u ∧ u < E.length
  nodup : W.Nodup
  mem : ∀ u : Nat, u < E.length → ((u : Int) ∈ W ↔ 0 ≤ D.getD u (-1))
  root : (v : Int) ∈ W
  zero : D.getD v (-1) = 0
  low : ∀ u, -1 ≤ D.getD u (-1)
  sound : ∀ u d : Nat, D.getD u (-1) = d → Reach E v d u
  mono : ∀ i j, i ≤ j → j < W.length → dv D W i ≤ dv D W j
  cap : k < W.length → ∀ j < W.length, dv D W j ≤ dv D W k + 1
  done : ∀ i < k, ∀ u : Nat, (u : Int) ∈ adjOf E (W.getD i 0).toNat → 0 ≤ D.getD u (-1) ∧ D.getD u (-1) ≤ dv D W i + 1
  small : ∀ u, D.getD u (-1) < W.length

theorem getD_set {D : List Int} {y : Nat} (hy : y < D.length) (x : Int) (u : Nat) : (D.set y x).getD u (-1) = if u = y then x else D.getD u (-1) := by
  by_cases h : u = y
  · subst h; simp [hy]
  · simp [h, List.getElem?_set_ne (Ne.symm h)]

section
variable {E : Ends} {v k : Nat} {W D : List Int}

theorem Bfs.node (h : Bfs E v W D k) {i : Nat} (hi : i < W.length) : ∃ u : Nat, W[i] = u ∧ W.getD i 0 = u ∧ u < E.length ∧ 0 ≤ D.getD u (-1) ∧ dv D W i = D.getD u (-1) := by
  obtain ⟨u, hu, hul⟩ := h.nodes W[i] (List.getElem_mem hi)
  have hg : W.getD i 0 = u := by simp [hi, hu]
  refine ⟨u, hu, hg, hul, (h.mem u hul).1 (by rw [← hu]; exact List.getElem_mem hi), ?_⟩
  unfold dv
  rw [hg]
  simp

/-- A neighbour that is found now. -/
theorem Bfs.add (h : Bfs E v W D k) (hk : k < W.length) {y : Nat} (hy : y < E.length) (ha : (y : Int) ∈ adjOf E (W.getD k 0).toNat) (hn : D.getD y (-1) < 0) :
    Bfs E v (W ++ [(y : Int)]) (D.set y (dv D W k + 1)) k := by
  have hyD : y < D.length := by rw [h.len]; exact hy
  have hg := getD_set hyD (dv D W k + 1)
  obtain ⟨c, _, hck, hcl, hc0, hcd⟩ := h.node hk
  have hdk : 0 ≤ dv D W k := by omega
  have hold : ∀ i, i < W.length → (W ++ [(y : Int)]).getD i 0 = W.getD i 0 := by
    intro i hi
    simp [List.getElem?_append_left hi]
  have hnew : (W ++ [(y : Int)]).getD W.length 0 = y := by simp
  have hdo : ∀ i, i < W.length → dv (D.set y (dv D W k + 1)) (W ++ [(y : Int)]) i = dv D W i := by
    intro i hi
    obtain ⟨u, _, hu, _, hu0, hud⟩ := h.node hi
    show (D.set y (dv D W k + 1)).getD ((W ++ [(y : Int)]).getD i 0).toNat (-1) = D.getD (W.getD i 0).toNat (-1)
    rw [hold i hi, hu, hg]
    simp only [Int.toNat_natCast]
    rw [if_neg (fun he => by subst he; omega)]
  have hdn : dv (D.set y (dv D W k + 1)) (W ++ [(y : Int)]) W.length = dv D W k + 1 := by
    show (D.set y (dv D W k + 1)).getD ((W ++ [(y : Int)]).getD W.length 0).toNat (-1) = _
    rw [hnew, hg]; simp
  have hyW : (y : Int) ∉ W := fun hm => by have := (h.mem y hy).1 hm; omega
  refine ⟨by simp [h.len], by have := h.le; simp; omega, ?_, ?_, ?_, by simp [h.root], ?_, ?_, ?_, ?_, ?_, ?_, ?_⟩
  · intro x hx
    rcases List.mem_append.1 hx with h1 | h1
    · exact h.nodes x h1
    · exact ⟨y, by simpa using h1, hy⟩
  · rw [List.nodup_append]
    refine ⟨h.nodup, by simp, fun a ha b hb hab => ?_⟩
    rw [List.mem_singleton.1 hb] at hab
    subst hab
    exact hyW ha
  · intro u hu
    rw [hg, List.mem_append, h.mem u hu]
    by_cases he : u = y
    · subst he; simp; omega
    · simp [he]
      omega
  · rw [hg]
    have := h.zero
    rw [if_neg (fun he => by subst he; omega)]
    exact h.zero
  · intro u
    rw [hg]
    split
    · omega
    · exact h.low u
  · intro u d hd
    rw [hg] at hd
    split at hd
    · rename_i he
      subst he
      obtain ⟨e, he⟩ := Int.eq_ofNat_of_zero_le hdk
      obtain rfl : d = e + 1 := by omega
      refine ⟨c, h.sound c e (by rw [← hcd]; exact he), ?_⟩
      rw [hck] at ha
      simpa using ha
    · exact h.sound u d hd
  · intro i j hij hj
    simp at hj
    rcases Nat.lt_or_eq_of_le (Nat.le_of_lt_succ hj) with h1 | h1
    · rw [hdo i (by omega), hdo j h1]; exact h.mono i j hij h1
    · subst h1
      rw [hdn]
      rcases Nat.lt_or_eq_of_le hij with h2 | h2
      · rw [hdo i h2]; exact h.cap hk i h2
      · subst h2; rw [hdn]; exact Int.le_refl _
  · intro _ j hj
    simp at hj
    rw [hdo k hk]
    rcases Nat.lt_or_eq_of_le (Nat.le_of_lt_succ hj) with h1 | h1
    · rw [hdo j h1]; exact h.cap hk j h1
    · subst h1; rw [hdn]; exact Int.le_refl _
  · intro i hi u hu
    rw [hold i (by omega)] at hu
    have := h.done i hi u hu
    rw [hdo i (by omega), hg]
    rw [if_neg (fun he => by subst he; omega)]
    exact this
  · intro u
    rw [hg]
    have h1 := h.small u
    have h2 := h.small c
    simp only [List.length_append, List.length_singleton]
    push_cast
    split <;> omega

/-- All neighbours have been looked at. -/
theorem Bfs.next (h : Bfs E v W D k) (hk : k < W.length) (ha : ∀ u : Nat, (u : Int) ∈ adjOf E (W.getD k 0).toNat → 0 ≤ D.getD u (-1) ∧ D.getD u (-1) ≤ dv D W k + 1) : Bfs E v W D (k + 1) :=
  { h with
    le := hk
    cap := fun hk' j hj => by
      have h1 := h.cap hk j hj
      have h2 := h.mono k (k + 1) (by omega) hk'
      omega
    done := fun i hi u hu => by
      rcases Nat.lt_or_eq_of_le (Nat.le_of_lt_succ hi) with h1 | h1
      · exact h.done i h1 u hu
      · subst h1; exact ha u hu }

theorem adj_lt {y x : Nat} (h : (x : Int) ∈ adjOf E y) : y < E.length := by
  by_cases hy : y < E.length
  · exact hy
  · unfold adjOf rowOf at h
    simp [hy] at h

theorem Bfs.end (h : Bfs E v W D W.length) : Dists E v D := by
  refine ⟨h.len, h.low, h.sound, ?_⟩
  intro j
  induction j with
  | zero =>
    intro x hx
    have hx' : x = v := hx
    subst hx'
    rw [h.zero]
    exact ⟨by omega, by omega⟩
  | succ j ih =>
    rintro x ⟨y, hy, hx⟩
    have hyl := adj_lt hx
    obtain ⟨h0, h1⟩ := ih y hy
    obtain ⟨i, hi, hiy⟩ := List.mem_iff_getElem.1 ((h.mem y hyl).2 h0)
    obtain ⟨u, hu, hug, _, _, hd⟩ := h.node hi
    obtain rfl : u = y := by rw [hiy] at hu; omega
    have := h.done i hi x (by rw [hug]; simpa using hx)
    rw [hd] at this
    refine ⟨this.1, ?_⟩
    have h2 := this.2
    push_cast
    omega

theorem nodup_length : ∀ (n : Nat) (l : List Nat), l.Nodup → (∀ x ∈ l, x < n) → l.length ≤ n
  | 0, l, _, h => by
    cases l with
    | nil => simp
    | cons x r => exact absurd (h x (by simp)) (by omega)
  | n + 1, l, hd, h => by
    have h1 := nodup_length n (l.erase n) (hd.erase n) (fun x hx => by
      have hm := (hd.mem_erase_iff).1 hx
      have := h x hm.2
      omega)
    have h2 : l.length ≤ (l.erase n).length + 1 := by
      rw [List.length_erase]
      split <;> omega
    omega

theorem Bfs.size (h : Bfs E v W D k) : W.length ≤ E.length := by
  have := nodup_length E.length (W.map Int.toNat) (by
    rw [List.nodup_iff_pairwise_ne, List.pairwise_map]
    refine (List.nodup_iff_pairwise_ne.1 h.nodup).imp_of_mem ?_
    intro a b ha hb hab he
    obtain ⟨x, rfl, _⟩ := h.nodes a ha
    obtain ⟨y, rfl, _⟩ := h.nodes b hb
    simp at he
    exact hab (by omega)) (by
    intro x hx
    obtain ⟨a, ha, rfl⟩ := List.mem_map.1 hx
    obtain ⟨u, rfl, hu⟩ := h.nodes a ha
    simpa using hu)
  simpa using this
end

end Go.Proofs.YtaeledhbkdakcaaGreatDoor
end

section
/- Plain facts on walks: shortening, components, periods, flexible labels. No program in sight. -/
namespace Go.Proofs.YtaeledhbkdakcaaGreatDoor
set_option maxRecDepth 100000

/-- A walk of some length. -/
def Wk (E : Nat → Nat → Prop) : Nat → Nat → Nat → Prop
  | 0, a, b => a = b
  | k + 1, a, b => ∃ c, Wk E k a c ∧ E c b

section
variable {E : Nat → Nat → Prop} {a b c r u v j k n : Nat}

theorem Wk.cat (h : Wk E j a b) : ∀ {k c}, Wk E k b c → Wk E (j + k) a c
  | 0, _, h2 => by cases h2; exact h
  | k + 1, _, ⟨d, h2, h3⟩ => ⟨d, Wk.cat h h2, h3⟩
theorem Wk.one (h : E a b) : Wk E 1 a b := ⟨a, rfl, h⟩
theorem Wk.cons (h : E a b) (h2 : Wk E k b c) : Wk E (k + 1) a c := by
  have := (Wk.one h).cat h2
  rwa [Nat.add_comm] at this
theorem Wk.cut : ∀ {k c}, Wk E (j + k) a c → ∃ b, Wk E j a b ∧ Wk E k b c
  | 0, _, h => ⟨_, h, rfl⟩
  | k + 1, c, ⟨d, h2, h3⟩ => by
    obtain ⟨b, h4, h5⟩ := Wk.cut (k := k) h2
    exact ⟨b, h4, d, h5, h3⟩
theorem Wk.lt (hE : ∀ x y, E x y → y < n) : ∀ {k b}, Wk E k a b → 1 ≤ k → b < n
  | _ + 1, _, ⟨_, _, h⟩, _ => hE _ _ h
/-- The labels of a walk. -/
theorem Wk.path : ∀ {k b}, Wk E k a b → ∃ v : Nat → Nat, v 0 = a ∧ v k = b ∧ ∀ i, i < k → E (v i) (v (i + 1))
  | 0, _, h => by cases h; exact ⟨fun _ => a, rfl, rfl, fun i hi => by omega⟩
  | k + 1, b, ⟨c, h, he⟩ => by
    obtain ⟨v, h0, hk, hs⟩ := Wk.path h
    refine ⟨fun i => if i = k + 1 then b else v i, ?_, ?_, fun i hi => ?_⟩
    · simp only [if_neg (show (0 : Nat) ≠ k + 1 by omega)]; exact h0
    · simp
    · by_cases hi2 : i = k
      · subst hi2
        simp only [if_neg (show i ≠ i + 1 by omega), if_true]
        rw [hk]; exact he
      · simp only [if_neg (show i ≠ k + 1 by omega), if_neg (show i + 1 ≠ k + 1 by omega)]
        exact hs i (by omega)
theorem Wk.of_path {v : Nat → Nat} (hs : ∀ i, i < k → E (v i) (v (i + 1))) : ∀ {i j}, i ≤ j → j ≤ k → Wk E (j - i) (v i) (v j) := by
  intro i j hij hjk
  obtain ⟨d, rfl⟩ : ∃ d, j = i + d := ⟨j - i, by omega⟩
  rw [Nat.add_sub_cancel_left]
  clear hij
  induction d with
  | zero => exact rfl
  | succ d ih => exact ⟨v (i + d), ih (by omega), hs (i + d) (by omega)⟩

/-- A walk that isn't longer than the number of labels. -/
theorem Wk.short (hE : ∀ x y, E x y → y < n) : ∀ {k a b}, Wk E k a b → 1 ≤ k → ∃ k', 1 ≤ k' ∧ k' ≤ n ∧ Wk E k' a b := by
  intro k
  induction k using Nat.strongRecOn with
  | ind k ih =>
    intro a b h hk
    by_cases hkn : k ≤ n
    · exact ⟨k, hk, hkn, h⟩
    · obtain ⟨v, h0, hb, hs⟩ := h.path
      by_cases hinj : ∃ i j, 1 ≤ i ∧ i < j ∧ j ≤ k ∧ v i = v j
      · obtain ⟨i, j, h1, h2, h3, h4⟩ := hinj
        have w1 := Wk.of_path hs (i := 0) (j := i) (by omega) (by omega)
        have w2 := Wk.of_path hs (i := j) (j := k) (by omega) (by omega)
        rw [h0, h4] at w1
        rw [hb] at w2
        have w := w1.cat w2
        exact ih (i - 0 + (k - j)) (by omega) w (by omega)
      · exfalso
        have hlen := nodup_length n ((List.range k).map fun i => v (i + 1)) (by
          unfold List.Nodup
          rw [List.pairwise_map, List.pairwise_iff_getElem]
          intro i j hi hj hij
          simp only [List.length_range] at hi hj
          simp only [List.getElem_range]
          intro he
          exact hinj ⟨i + 1, j + 1, by omega, by omega, by omega, he⟩) (fun x hx => by
          obtain ⟨i, hi, rfl⟩ := List.mem_map.1 hx
          exact hE _ _ (hs i (List.mem_range.1 hi)))
        rw [List.length_map, List.length_range] at hlen
        omega

/-- Labels that walks lead to and from. -/
def Comp (E : Nat → Nat → Prop) (r b : Nat) : Prop := (∃ k, Wk E k r b) ∧ ∃ k, Wk E k b r
theorem Comp.refl : Comp E r r := ⟨⟨0, rfl⟩, ⟨0, rfl⟩⟩
theorem Comp.symm (h : Comp E a b) : Comp E b a := ⟨h.2, h.1⟩
theorem Comp.trans (h : Comp E a b) (h2 : Comp E b c) : Comp E a c := by
  obtain ⟨⟨j, p⟩, k, q⟩ := h
  obtain ⟨⟨j', p'⟩, k', q'⟩ := h2
  exact ⟨⟨_, p.cat p'⟩, _, q'.cat q⟩

/-- A divisor of the lengths of closed walks. -/
def PerDiv (E : Nat → Nat → Prop) (r g : Nat) : Prop := ∀ k, Wk E k r r → g ∣ k
def Flex (E : Nat → Nat → Prop) (a : Nat) : Prop := (∃ k, 0 < k ∧ Wk E k a a) ∧ ∀ g, PerDiv E a g → g = 1

theorem PerDiv.comp {g : Nat} (h : Comp E a b) (hg : PerDiv E a g) : PerDiv E b g := fun k hk => by
  obtain ⟨⟨j, p⟩, i, q⟩ := h
  have h1 := hg _ (p.cat q)
  have h2 := hg _ ((p.cat hk).cat q)
  have h3 : j + k + i = j + i + k := by omega
  rw [h3] at h2
  exact (Nat.dvd_add_right h1).1 h2
theorem Flex.comp (h : Comp E a b) (hf : Flex E a) : Flex E b := by
  obtain ⟨⟨k, h0, hk⟩, hg⟩ := hf
  refine ⟨?_, fun g hb => hg g (hb.comp h.symm)⟩
  obtain ⟨⟨j, p⟩, i, q⟩ := h
  exact ⟨i + k + j, by omega, (q.cat hk).cat p⟩

/-- The divisors of all steps of a potential are those of all closed walks. -/
theorem pot_div {d : Nat → Int} (h0 : d r = 0) (hd : ∀ b, Comp E r b → ∃ k : Nat, d b = k ∧ Wk E k r b) (g : Nat) :
    (∀ u v, Comp E r u → Comp E r v → E u v → (g : Int) ∣ d u + 1 - d v) ↔ PerDiv E r g := by
  constructor
  · intro h
    have go : ∀ k b, Comp E r b → Wk E k r b → (g : Int) ∣ (k : Int) - d b := by
      intro k
      induction k with
      | zero => intro b _ hw; cases hw; rw [h0]; simp
      | succ k ih =>
        intro b hb hw
        obtain ⟨c, hc, he⟩ := hw
        have hcc : Comp E r c := by
          obtain ⟨i, q⟩ := hb.2
          exact ⟨⟨k, hc⟩, _, (Wk.one he).cat q⟩
        have h1 := ih c hcc hc
        have h2 := h c b hcc hb he
        have h3 := Int.dvd_add h1 h2
        have e : ((k : Int) - d c) + (d c + 1 - d b) = ((k + 1 : Nat) : Int) - d b := by push_cast; omega
        rwa [e] at h3
    intro k hk
    have := go k r Comp.refl hk
    rw [h0, Int.sub_zero] at this
    exact Int.natCast_dvd_natCast.1 this
  · intro hg u v hu hv he
    obtain ⟨i, hi, wi⟩ := hd u hu
    obtain ⟨j, hj, wj⟩ := hd v hv
    obtain ⟨k, q⟩ := hv.2
    have h1 := hg _ ((wi.cat (Wk.one he)).cat q)
    have h2 := hg _ (wj.cat q)
    have h3 := Int.dvd_sub (Int.natCast_dvd_natCast.2 h1) (Int.natCast_dvd_natCast.2 h2)
    have e : (((i + 1 + k : Nat) : Int) - ((j + k : Nat) : Int)) = d u + 1 - d v := by rw [hi, hj]; push_cast; omega
    rwa [e] at h3

/-- The period by a number whose divisors are those of all steps. -/
theorem flex_of {P : Nat} (hP : ∀ g : Nat, g ∣ P ↔ PerDiv E r g) (hc : ∃ k, 0 < k ∧ Wk E k r r) : (P = 1 ↔ Flex E r) ∧ P ≠ 0 := by
  constructor
  · constructor
    · intro h
      subst h
      exact ⟨hc, fun g hg => Nat.dvd_one.1 ((hP g).2 hg)⟩
    · intro h
      exact h.2 P ((hP P).1 (Nat.dvd_refl P))
  · intro h0
    subst h0
    obtain ⟨k, h1, h2⟩ := hc
    have := (hP 0).1 (Nat.dvd_refl 0) k h2
    have := Nat.zero_dvd.1 this
    omega

end

noncomputable def flexL (E : Nat → Nat → Prop) (n : Nat) : List Int := by
  classical exact ((List.range n).filter (fun a => decide (Flex E a))).map fun a : Nat => (a : Int)

theorem flexL_mem {E : Nat → Nat → Prop} {n : Nat} {x : Int} : x ∈ flexL E n ↔ ∃ a : Nat, x = a ∧ a < n ∧ Flex E a := by
  classical
  unfold flexL
  rw [List.mem_map]
  constructor
  · rintro ⟨a, ha, rfl⟩
    rw [List.mem_filter] at ha
    exact ⟨a, rfl, List.mem_range.1 ha.1, by simpa using ha.2⟩
  · rintro ⟨a, rfl, h1, h2⟩
    exact ⟨a, List.mem_filter.2 ⟨List.mem_range.2 h1, by simpa using h2⟩, rfl⟩

theorem flexL_sorted (E : Nat → Nat → Prop) (n : Nat) : (flexL E n).Pairwise (· < ·) := by
  classical
  unfold flexL
  rw [List.pairwise_map]
  exact (List.pairwise_lt_range.filter _).imp fun h => by omega

/-! ### Components by their roots -/

noncomputable def compL (E : Nat → Nat → Prop) (n r : Nat) : List Int := by
  classical exact ((List.range n).filter (fun a => decide (Comp E r a))).map fun a : Nat => (a : Int)
theorem compL_mem {E : Nat → Nat → Prop} {n r : Nat} {x : Int} : x ∈ compL E n r ↔ ∃ a : Nat, x = a ∧ a < n ∧ Comp E r a := by
  classical
  unfold compL
  rw [List.mem_map]
  constructor
  · rintro ⟨a, ha, rfl⟩
    rw [List.mem_filter] at ha
    exact ⟨a, rfl, List.mem_range.1 ha.1, by simpa using ha.2⟩
  · rintro ⟨a, rfl, h1, h2⟩
    exact ⟨a, List.mem_filter.2 ⟨List.mem_range.2 h1, by simpa using h2⟩, rfl⟩
theorem compL_mem' {E : Nat → Nat → Prop} {n r b : Nat} : (b : Int) ∈ compL E n r ↔ b < n ∧ Comp E r b := by
  rw [compL_mem]
  exact ⟨fun ⟨a, e, h⟩ => by have : b = a := by omega
                             subst this; exact h, fun h => ⟨b, rfl, h⟩⟩
theorem compL_sorted (E : Nat → Nat → Prop) (n r : Nat) : (compL E n r).Pairwise (· < ·) := by
  classical
  unfold compL
  rw [List.pairwise_map]
  exact (List.pairwise_lt_range.filter _).imp fun h => by omega
theorem compL_len (E : Nat → Nat → Prop) (n r : Nat) : (compL E n r).length ≤ n := by
  classical
  unfold compL
  rw [List.length_map]
  have := List.length_filter_le (fun a => decide (Comp E r a)) (List.range n)
  rwa [List.length_range] at this

/-- The roots of the components with closed walks, of the labels below a number. -/
structure Roots (E : Nat → Nat → Prop) (a : Nat) (rs : List Nat) : Prop where
  lt : ∀ r ∈ rs, r < a
  cyc : ∀ r ∈ rs, ∃ k, 0 < k ∧ Wk E k r r
  apart : rs.Pairwise fun r q => ¬ Comp E r q
  cover : ∀ b, b < a → (∃ k, 0 < k ∧ Wk E k b b) → ∃ r ∈ rs, Comp E r b

theorem Roots.nil (E : Nat → Nat → Prop) : Roots E 0 [] := ⟨by simp, by simp, List.Pairwise.nil, fun b hb => by omega⟩
theorem Roots.skip {E : Nat → Nat → Prop} {a : Nat} {rs : List Nat} (h : Roots E a rs) (hs : (∃ k, 0 < k ∧ Wk E k a a) → ∃ r ∈ rs, Comp E r a) : Roots E (a + 1) rs :=
  ⟨fun r hr => by have := h.lt r hr; omega, h.cyc, h.apart, fun b hb hc => by
    rcases Nat.lt_or_eq_of_le (Nat.le_of_lt_succ hb) with h1 | rfl
    · exact h.cover b h1 hc
    · exact hs hc⟩
theorem Roots.add {E : Nat → Nat → Prop} {a : Nat} {rs : List Nat} (h : Roots E a rs) (hc : ∃ k, 0 < k ∧ Wk E k a a) (hn : ∀ r ∈ rs, ¬ Comp E r a) : Roots E (a + 1) (rs ++ [a]) :=
  ⟨fun r hr => by
    rcases List.mem_append.1 hr with hr | hr
    · have := h.lt r hr; omega
    · rw [List.mem_singleton.1 hr]; omega, fun r hr => by
    rcases List.mem_append.1 hr with hr | hr
    · exact h.cyc r hr
    · rw [List.mem_singleton.1 hr]; exact hc, by
    rw [List.pairwise_append]
    exact ⟨h.apart, List.pairwise_singleton _ _, fun r hr q hq => by rw [List.mem_singleton.1 hq]; exact hn r hr⟩, fun b hb hcb => by
    rcases Nat.lt_or_eq_of_le (Nat.le_of_lt_succ hb) with h1 | rfl
    · obtain ⟨r, hr, hx⟩ := h.cover b h1 hcb
      exact ⟨r, List.mem_append_left _ hr, hx⟩
    · exact ⟨b, by simp, Comp.refl⟩⟩
theorem cyc_comp {E : Nat → Nat → Prop} {a b : Nat} (h : Comp E a b) (hc : ∃ k, 0 < k ∧ Wk E k a a) : ∃ k, 0 < k ∧ Wk E k b b := by
  obtain ⟨k, h0, hk⟩ := hc
  obtain ⟨⟨j, p⟩, i, q⟩ := h
  exact ⟨i + k + j, by omega, (q.cat hk).cat p⟩
/-- A step within a component is a closed walk of its root. -/
theorem cyc_iff {E : Nat → Nat → Prop} {a : Nat} : (∃ b c, Comp E a b ∧ Comp E a c ∧ E b c) ↔ ∃ k, 0 < k ∧ Wk E k a a := by
  constructor
  · rintro ⟨b, c, ⟨⟨j, p⟩, _⟩, ⟨_, i, q⟩, he⟩
    exact ⟨j + 1 + i, by omega, (p.cat (Wk.one he)).cat q⟩
  · rintro ⟨k, hk, hw⟩
    obtain ⟨k, rfl⟩ : ∃ j, k = j + 1 := ⟨k - 1, by omega⟩
    obtain ⟨c, h1, h2⟩ := hw
    exact ⟨c, a, ⟨⟨k, h1⟩, 1, Wk.one h2⟩, Comp.refl, h2⟩

/-- The labels of the flexible components, in any order, without repetition. -/
theorem flex_roots {E : Nat → Nat → Prop} {n : Nat} {rs : List Nat} (h : Roots E n rs) {fs : List Nat} (hf : ∀ r, r ∈ fs ↔ r ∈ rs ∧ Flex E r) : ∀ x, x ∈ fs.flatMap (compL E n) ↔ x ∈ flexL E n := fun x => by
  rw [List.mem_flatMap, flexL_mem]
  constructor
  · rintro ⟨r, hr, hx⟩
    obtain ⟨b, rfl, hb, hc⟩ := compL_mem.1 hx
    exact ⟨b, rfl, hb, ((hf r).1 hr).2.comp hc⟩
  · rintro ⟨b, rfl, hb, hF⟩
    obtain ⟨r, hr, hc⟩ := h.cover b hb hF.1
    exact ⟨r, (hf r).2 ⟨hr, hF.comp hc.symm⟩, compL_mem'.2 ⟨hb, hc⟩⟩
theorem flex_nodup {E : Nat → Nat → Prop} {n : Nat} {fs : List Nat} (h : fs.Pairwise fun r q => ¬ Comp E r q) : (fs.flatMap (compL E n)).Nodup := by
  induction fs with
  | nil => simp
  | cons r fs ih =>
    rw [List.pairwise_cons] at h
    rw [List.flatMap_cons]
    unfold List.Nodup
    rw [List.pairwise_append]
    refine ⟨(compL_sorted E n r).imp fun h => by omega, ih h.2, fun x hx y hy he => ?_⟩
    subst he
    obtain ⟨q, hq, hy⟩ := List.mem_flatMap.1 hy
    obtain ⟨a, rfl, _, ha⟩ := compL_mem.1 hx
    obtain ⟨_, hb⟩ := compL_mem'.1 hy
    exact h.1 q hq (ha.trans hb.symm)

end Go.Proofs.YtaeledhbkdakcaaGreatDoor
end

section
/- Lists by their places. No program in sight. -/
namespace Go.Proofs.YtaeledhbkdakcaaGreatDoor
set_option maxRecDepth 100000

/-! ### Places around a cycle -/

def nxt (k i : Nat) : Nat := (i + 1) % k
def prv (k i : Nat) : Nat := (i + k - 1) % k
theorem nxt_lt {k i : Nat} (h : i < k) : nxt k i < k := Nat.mod_lt _ (by omega)
theorem prv_lt {k i : Nat} (h : i < k) : prv k i < k := Nat.mod_lt _ (by omega)
theorem nxt_eq {k i : Nat} (h : i < k) : nxt k i = if i + 1 < k then i + 1 else 0 := by
  unfold nxt
  by_cases h1 : i + 1 < k
  · rw [if_pos h1, Nat.mod_eq_of_lt h1]
  · rw [if_neg h1, show i + 1 = k by omega, Nat.mod_self]
theorem prv_eq {k i : Nat} (h : i < k) : prv k i = if i = 0 then k - 1 else i - 1 := by
  unfold prv
  by_cases h1 : i = 0
  · rw [if_pos h1, h1, Nat.zero_add, Nat.mod_eq_of_lt (by omega)]
  · rw [if_neg h1, show i + k - 1 = (i - 1) + k by omega, Nat.add_mod_right, Nat.mod_eq_of_lt (by omega)]
theorem prv_nxt {k i : Nat} (h : i < k) : prv k (nxt k i) = i := by
  rw [prv_eq (nxt_lt h), nxt_eq h]
  by_cases h1 : i + 1 < k
  · rw [if_pos h1, if_neg (by omega)]; omega
  · rw [if_neg h1, if_pos rfl]; omega
theorem nxt_prv {k i : Nat} (h : i < k) : nxt k (prv k i) = i := by
  rw [nxt_eq (prv_lt h), prv_eq h]
  by_cases h1 : i = 0
  · rw [if_pos h1, if_neg (by omega)]; omega
  · rw [if_neg h1, if_pos (by omega)]; omega

abbrev at0 (l : List Int) (i : Nat) : Int := l.getD i 0
theorem at0_get {l : List Int} {i : Nat} (h : i < l.length) : at0 l i = l[i] := by unfold at0; rw [List.getD_eq_getElem?_getD, List.getElem?_eq_getElem h]; rfl
theorem at0_mem {l : List Int} {i : Nat} (h : i < l.length) : at0 l i ∈ l := by rw [at0_get h]; exact List.getElem_mem h
theorem mem_at0 {l : List Int} {x : Int} (h : x ∈ l) : ∃ i, i < l.length ∧ at0 l i = x := by
  obtain ⟨i, hi, e⟩ := List.getElem_of_mem h
  exact ⟨i, hi, by rw [at0_get hi]; exact e⟩

/-- A list made place by place. -/
def mk0 (k : Nat) (f : Nat → Int) : List Int := (List.range k).map f
theorem mk0_len (k : Nat) (f : Nat → Int) : (mk0 k f).length = k := by simp [mk0]
theorem mk0_at {k : Nat} {f : Nat → Int} {i : Nat} (h : i < k) : at0 (mk0 k f) i = f i := by
  rw [at0_get (by rw [mk0_len]; exact h)]; simp [mk0]
theorem mk0_snoc (k : Nat) (f : Nat → Int) : mk0 (k + 1) f = mk0 k f ++ [f k] := by unfold mk0; rw [List.range_succ, List.map_append, List.map_singleton]
theorem mk0_get {k : Nat} {f : Nat → Int} {i : Nat} (h : i < (mk0 k f).length) : (mk0 k f)[i] = f i := by simp [mk0]
theorem mk0_mem {k : Nat} {f : Nat → Int} {x : Int} : x ∈ mk0 k f ↔ ∃ i, i < k ∧ f i = x := by simp [mk0]
theorem mk0_ext {l : List Int} {k : Nat} {f : Nat → Int} (hl : l.length = k) (h : ∀ i, i < k → at0 l i = f i) : l = mk0 k f := by
  apply List.ext_getElem
  · rw [mk0_len, hl]
  · intro i h1 h2
    rw [← at0_get h1, h i (by omega), mk0_get]
theorem mk0_set {k i : Nat} {f g : Nat → Int} {x : Int} (hx : x = g i) (h : ∀ j, j < k → j ≠ i → f j = g j) : (mk0 k f).set i x = mk0 k g := by
  refine mk0_ext (by rw [List.length_set, mk0_len]) fun j hj => ?_
  have hj' : j < ((mk0 k f).set i x).length := by rw [List.length_set, mk0_len]; exact hj
  rw [at0_get hj', List.getElem_set]
  by_cases e : i = j
  · subst e; rw [if_pos rfl, hx]
  · rw [if_neg e, mk0_get]; exact h j hj (Ne.symm e)
theorem mk0_self (l : List Int) : mk0 l.length (at0 l) = l := (mk0_ext rfl fun _ _ => rfl).symm

theorem at0_set {l : List Int} {i j : Nat} {x : Int} (hi : i < l.length) : at0 (l.set i x) j = if i = j then x else at0 l j := by
  unfold at0
  rw [List.getD_eq_getElem?_getD, List.getD_eq_getElem?_getD, List.getElem?_set]
  by_cases e : i = j
  · subst e; rw [if_pos rfl, if_pos rfl, if_pos hi]; rfl
  · rw [if_neg e, if_neg e]

end Go.Proofs.YtaeledhbkdakcaaGreatDoor
end

section
/- Plain facts on cycles: colours, marks, gaps, walks between marks. No program in sight. -/
namespace Go.Proofs.YtaeledhbkdakcaaGreatDoor
set_option maxRecDepth 100000

/-! ### A step of colours -/

def ctzx (x y : Nat) : Nat := Go.Lib.ctz 64 (x ^^^ y)
theorem ctzx_ne0 {x y : Nat} (h : x ≠ y) : x ^^^ y ≠ 0 := fun e => h (Nat.eq_of_testBit_eq fun i => by
  have h1 := Nat.testBit_xor x y i
  rw [e, Nat.zero_testBit] at h1
  cases hx1 : x.testBit i <;> cases hy1 : y.testBit i <;> simp_all)
theorem ctzx_spec {x y m : Nat} (hm : m ≤ 63) (h : x ≠ y) (hx : x < 2 ^ m) (hy : y < 2 ^ m) : ctzx x y < m ∧ x.testBit (ctzx x y) ≠ y.testBit (ctzx x y) ∧ ∀ i, i < ctzx x y → x.testBit i = y.testBit i := by
  have h0 := ctzx_ne0 h
  have hlt : x ^^^ y < 2 ^ m := Nat.xor_lt_two_pow hx hy
  have hlt64 : x ^^^ y < 2 ^ 64 := Nat.lt_of_lt_of_le hlt (Nat.pow_le_pow_right (by decide) (by omega))
  obtain ⟨q, hq, _⟩ := Go.Lib.ctzFrom_spec 64 (x ^^^ y) (by omega) hlt64
  have hc : ctzx x y = Go.Lib.ctzFrom 64 (x ^^^ y) := by unfold ctzx Go.Lib.ctz; rw [if_neg h0]
  rw [← hc] at hq
  generalize ctzx x y = c at hq
  have hbit : ∀ i, (x ^^^ y).testBit i = (decide (c ≤ i) && (2 * q + 1).testBit (i - c)) := fun i => by rw [hq, Nat.testBit_two_pow_mul]
  have hxor : ∀ i, (x ^^^ y).testBit i = (x.testBit i ^^ y.testBit i) := fun i => Nat.testBit_xor x y i
  refine ⟨?_, ?_, ?_⟩
  · rcases Nat.lt_or_ge c m with h1 | h1
    · exact h1
    · have h2 : 2 ^ m ≤ 2 ^ c := Nat.pow_le_pow_right (by decide) h1
      have h3 : 2 ^ c * 1 ≤ 2 ^ c * (2 * q + 1) := Nat.mul_le_mul_left _ (by omega)
      omega
  · have h1 := hbit c
    rw [hxor, Nat.sub_self] at h1
    have h2 : (2 * q + 1).testBit 0 = true := by simp [Nat.testBit_zero]
    rw [h2] at h1
    intro e
    rw [e] at h1
    simp at h1
  · intro i hi
    have h1 := hbit i
    rw [hxor] at h1
    have h2 : decide (c ≤ i) = false := decide_eq_false (by omega)
    rw [h2] at h1
    simp only [Bool.false_and] at h1
    cases hx1 : x.testBit i <;> cases hy1 : y.testBit i <;> simp_all

def bit0 (x j : Nat) : Nat := x / 2 ^ j % 2
theorem bit0_test (x j : Nat) : bit0 x j = 1 ↔ x.testBit j = true := by
  unfold bit0
  rw [Nat.testBit_eq_decide_div_mod_eq]
  simp
theorem bit0_lt (x j : Nat) : bit0 x j < 2 := Nat.mod_lt _ (by decide)
theorem bit0_eq {x y j : Nat} : bit0 x j = bit0 y j ↔ x.testBit j = y.testBit j := by
  have h1 := bit0_test x j
  have h2 := bit0_test y j
  have h3 := bit0_lt x j
  have h4 := bit0_lt y j
  constructor
  · intro e
    rw [Bool.eq_iff_iff, ← h1, ← h2, e]
  · intro e
    rw [e] at h1
    by_cases hy : y.testBit j = true
    · rw [h1.2 hy, h2.2 hy]
    · have : bit0 x j ≠ 1 := fun h => hy (h1.1 h)
      have : bit0 y j ≠ 1 := fun h => hy (h2.1 h)
      omega

def stepV (x y : Nat) : Nat := 2 * ctzx x y + bit0 x (ctzx x y)
theorem stepV_lt {x y m : Nat} (hm : m ≤ 63) (h : x ≠ y) (hx : x < 2 ^ m) (hy : y < 2 ^ m) : stepV x y < 2 * m := by
  have := (ctzx_spec hm h hx hy).1
  have := bit0_lt x (ctzx x y)
  unfold stepV; omega
theorem stepV_ne {x y z m : Nat} (hm : m ≤ 63) (h : x ≠ y) (hx : x < 2 ^ m) (hy : y < 2 ^ m) : stepV x y ≠ stepV y z := by
  intro e
  have h1 := bit0_lt x (ctzx x y)
  have h2 := bit0_lt y (ctzx y z)
  unfold stepV at e
  have ec : ctzx x y = ctzx y z := by omega
  have eb : bit0 x (ctzx x y) = bit0 y (ctzx y z) := by omega
  rw [← ec] at eb
  exact (ctzx_spec hm h hx hy).2.1 (bit0_eq.1 eb)

def ProperC (l : List Int) : Prop := ∀ i, i < l.length → at0 l i ≠ at0 l (nxt l.length i)
def Small0 (l : List Int) (B : Int) : Prop := ∀ x ∈ l, 0 ≤ x ∧ x < B
def stepL (l : List Int) : List Int := mk0 l.length fun i => (stepV (at0 l i).toNat (at0 l (nxt l.length i)).toNat : Nat)
theorem stepL_len (l : List Int) : (stepL l).length = l.length := mk0_len _ _
theorem pow_smallC {x : Int} {m : Nat} (h0 : 0 ≤ x) (h : x < ((2 ^ m : Nat) : Int)) : x.toNat < 2 ^ m := by omega

theorem stepL_small {l : List Int} {m : Nat} (hm : m ≤ 63) (hp : ProperC l) (h : Small0 l ((2 ^ m : Nat) : Int)) : Small0 (stepL l) ((2 * m : Nat) : Int) := by
  intro x hx
  obtain ⟨i, hi, rfl⟩ := mk0_mem.1 hx
  have h1 := h _ (at0_mem hi)
  have h2 := h _ (at0_mem (nxt_lt hi))
  have h3 := hp i hi
  have := stepV_lt (x := (at0 l i).toNat) (y := (at0 l (nxt l.length i)).toNat) hm (by omega) (pow_smallC h1.1 h1.2) (pow_smallC h2.1 h2.2)
  omega
theorem stepL_proper {l : List Int} {m : Nat} (hm : m ≤ 63) (hp : ProperC l) (h : Small0 l ((2 ^ m : Nat) : Int)) : ProperC (stepL l) := by
  intro i hi
  rw [stepL_len] at hi ⊢
  unfold stepL
  rw [mk0_at hi, mk0_at (nxt_lt hi)]
  have h1 := h _ (at0_mem hi)
  have h2 := h _ (at0_mem (nxt_lt hi))
  have h3 := hp i hi
  have h4 := hp _ (nxt_lt hi)
  have h5 := h _ (at0_mem (nxt_lt (nxt_lt hi)))
  have := stepV_ne (x := (at0 l i).toNat) (y := (at0 l (nxt l.length i)).toNat) (z := (at0 l (nxt l.length (nxt l.length i))).toNat) hm (by omega) (pow_smallC h1.1 h1.2) (pow_smallC h2.1 h2.2)
  intro e
  exact this (by omega)

def five (l : List Int) : Bool := l.all fun x => decide (x ≤ 5)
theorem five_iff {l : List Int} : five l = true ↔ ∀ x ∈ l, x ≤ 5 := by simp [five]
def sixL : Nat → List Int → List Int
  | 0, l => l
  | n + 1, l => if five l then l else sixL n (stepL l)
def expB (n : Nat) : Nat := if n = 4 then 20 else if n = 3 then 6 else if n = 2 then 4 else 3
/-- What a loop that makes steps keeps. -/
structure SixSt (l0 : List Int) (n : Nat) (l : List Int) : Prop where
  le : n ≤ 4
  len : l.length = l0.length
  proper : ProperC l
  small : 0 < n → Small0 l ((2 ^ expB n : Nat) : Int)
  six : Small0 l 64 ∨ n = 4
  end0 : n = 0 → Small0 l 6
  nn : ∀ x ∈ l, 0 ≤ x ∧ x < 1048576
  same : sixL n l = sixL 4 l0
theorem SixSt.start {l : List Int} (hp : ProperC l) (h : Small0 l 1048576) : SixSt l 4 l := by
  refine ⟨Nat.le_refl _, rfl, hp, fun _ => ?_, .inr rfl, fun h => by omega, h, rfl⟩
  have e : ((2 ^ expB 4 : Nat) : Int) = 1048576 := by decide
  rw [e]; exact h
theorem SixSt.pos {l0 l : List Int} {n : Nat} (h : SixSt l0 n l) (hf : five l = false) : 0 < n := by
  rcases Nat.eq_zero_or_pos n with h0 | h0
  · have : five l = true := five_iff.2 fun x hx => by have := h.end0 h0 x hx; omega
    rw [this] at hf; cases hf
  · exact h0
theorem SixSt.next {l0 l : List Int} {n : Nat} (h : SixSt l0 (n + 1) l) (hf : five l = false) : SixSt l0 n (stepL l) := by
  have hs := h.small (by omega)
  have hm : expB (n + 1) ≤ 63 := by unfold expB; repeat' split
                                    all_goals omega
  have h1 := stepL_small hm h.proper hs
  have hle := h.le
  have hb : ∀ x ∈ stepL l, 0 ≤ x ∧ x < ((2 * expB (n + 1) : Nat) : Int) := h1
  have hexp : 2 * expB (n + 1) ≤ 40 := by unfold expB; repeat' split
                                          all_goals omega
  refine ⟨by omega, by rw [stepL_len, h.len], stepL_proper hm h.proper hs, fun h0 => ?_, .inl fun x hx => ⟨(hb x hx).1, by have := (hb x hx).2; omega⟩, fun h0 => ?_, fun x hx => ⟨(hb x hx).1, by have := (hb x hx).2; omega⟩, ?_⟩
  · have hle2 : 2 * expB (n + 1) ≤ 2 ^ expB n := by
      obtain rfl | rfl | rfl : n = 1 ∨ n = 2 ∨ n = 3 := by omega
      · decide
      · decide
      · decide
    intro x hx
    have := hb x hx
    exact ⟨this.1, by omega⟩
  · subst h0
    have e : 2 * expB (0 + 1) = 6 := by decide
    rw [e] at hb
    exact hb
  · have := h.same
    rw [← this]
    show sixL n (stepL l) = if five l then l else sixL n (stepL l)
    rw [hf]; rfl
theorem sixL_five {n : Nat} {l : List Int} (h : five l = true) : sixL n l = l := by
  cases n with
  | zero => rfl
  | succ n => show (if five l then l else _) = l; rw [h]; rfl

/-! ### From six colours to three -/

def freeC (a b : Int) : Int := if 0 = a ∨ 0 = b then (if 1 = a ∨ 1 = b then 2 else 1) else 0
theorem freeC_range (a b : Int) : 0 ≤ freeC a b ∧ freeC a b ≤ 2 := by
  unfold freeC
  split
  · split <;> omega
  · omega
theorem freeC_ne (a b : Int) : freeC a b ≠ a ∧ freeC a b ≠ b := by
  unfold freeC
  split
  · split <;> omega
  · omega
def redV (c : Int) (l : List Int) (i : Nat) : Int := if at0 l i = c then freeC (at0 l (prv l.length i)) (at0 l (nxt l.length i)) else at0 l i
def redC (c : Int) (l : List Int) : List Int := mk0 l.length (redV c l)
theorem redC_len (c : Int) (l : List Int) : (redC c l).length = l.length := mk0_len _ _
/-- .. as far as some place. -/
def redS (c : Int) (l : List Int) (j : Nat) : List Int := mk0 l.length fun i => if i < j then redV c l i else at0 l i
theorem redS_len (c : Int) (l : List Int) (j : Nat) : (redS c l j).length = l.length := mk0_len _ _
theorem redS_zero (c : Int) (l : List Int) : redS c l 0 = l := by
  have : redS c l 0 = mk0 l.length (at0 l) := by unfold redS; congr 1
  rw [this, mk0_self]
theorem redS_end (c : Int) (l : List Int) : redS c l l.length = redC c l := by
  unfold redC
  refine mk0_ext (redS_len _ _ _) fun i hi => ?_
  unfold redS
  rw [mk0_at hi, if_pos hi]
theorem redS_skip {c : Int} {l : List Int} {j : Nat} (h : at0 l j ≠ c) : redS c l (j + 1) = redS c l j := by
  unfold redS
  refine (mk0_ext (mk0_len _ _) fun i hi => ?_)
  rw [mk0_at hi]
  by_cases h1 : i < j
  · rw [if_pos h1, if_pos (by omega)]
  · rw [if_neg h1]
    by_cases h2 : i < j + 1
    · rw [if_pos h2]
      have : i = j := by omega
      subst this
      unfold redV; rw [if_neg h]
    · rw [if_neg h2]
theorem redS_set {c : Int} {l : List Int} {j : Nat} : (redS c l j).set j (redV c l j) = redS c l (j + 1) := by
  unfold redS
  refine mk0_set (by rw [if_pos (by omega)]) fun i hi hne => ?_
  by_cases h1 : i < j
  · rw [if_pos h1, if_pos (by omega)]
  · rw [if_neg h1, if_neg (by omega)]
theorem redS_at {c : Int} {l : List Int} {i j : Nat} (hi : i < l.length) (h : at0 l i ≠ c ∨ j ≤ i) : at0 (redS c l j) i = at0 l i := by
  unfold redS
  rw [mk0_at hi]
  rcases h with h | h
  · unfold redV; rw [if_neg h]; exact ite_self _
  · rw [if_neg (by omega)]
theorem redC_proper {c : Int} {l : List Int} (h : ProperC l) : ProperC (redC c l) := by
  intro i hi
  rw [redC_len] at hi ⊢
  unfold redC
  rw [mk0_at hi, mk0_at (nxt_lt hi)]
  have hp := h i hi
  unfold redV
  by_cases h1 : at0 l i = c
  · rw [if_pos h1, if_neg (by rw [← h1]; exact Ne.symm hp)]
    exact (freeC_ne _ _).2
  · rw [if_neg h1]
    by_cases h2 : at0 l (nxt l.length i) = c
    · rw [if_pos h2, prv_nxt hi]
      exact Ne.symm (freeC_ne _ _).1
    · rw [if_neg h2]; exact hp
theorem redC_small {c : Int} {l : List Int} (hc : 3 ≤ c) (h : Small0 l (c + 1)) : Small0 (redC c l) c := by
  intro x hx
  obtain ⟨i, hi, rfl⟩ := mk0_mem.1 hx
  unfold redV
  have h1 := h _ (at0_mem hi)
  have h2 := freeC_range (at0 l (prv l.length i)) (at0 l (nxt l.length i))
  split <;> omega
def threeL (l : List Int) : List Int := redC 3 (redC 4 (redC 5 (sixL 4 l)))

/-- What is known of colours that are to be lessened. -/
structure SixC (l : List Int) (c : Int) : Prop where
  proper : ProperC l
  small : Small0 l (c + 1)
theorem SixSt.six_end {l0 l : List Int} {n : Nat} (h : SixSt l0 n l) (hf : five l = true) : l = sixL 4 l0 ∧ SixC l 5 :=
  ⟨by rw [← h.same, sixL_five hf], h.proper, fun x hx => ⟨(h.nn x hx).1, by have := five_iff.1 hf x hx; omega⟩⟩
theorem SixC.next {l : List Int} {c : Int} (h : SixC l c) (hc : 3 ≤ c) : SixC (redC c l) (c - 1) := ⟨redC_proper h.proper, by
  have := redC_small hc h.small
  rw [show c - 1 + 1 = c by omega]; exact this⟩

/-! ### Marks -/

def mk1 (l : List Int) (c : Int) (i : Nat) (m : List Bool) : List Bool := if at0 l i = c ∧ m.getD (prv l.length i) false = false ∧ m.getD (nxt l.length i) false = false then m.set i true else m
def mkRow (l : List Int) (c : Int) : Nat → List Bool → List Bool
  | 0, m => m
  | i + 1, m => mk1 l c i (mkRow l c i m)
def mkAll (l : List Int) : Nat → List Bool
  | 0 => List.replicate l.length false
  | c + 1 => mkRow l (c : Int) l.length (mkAll l c)
theorem mk1_len (l : List Int) (c : Int) (i : Nat) (m : List Bool) : (mk1 l c i m).length = m.length := by unfold mk1; split <;> simp
theorem mkRow_len (l : List Int) (c : Int) (m : List Bool) : ∀ i, (mkRow l c i m).length = m.length
  | 0 => rfl
  | i + 1 => by show (mk1 l c i (mkRow l c i m)).length = _; rw [mk1_len, mkRow_len l c m i]
theorem mkAll_len (l : List Int) : ∀ c, (mkAll l c).length = l.length
  | 0 => List.length_replicate
  | c + 1 => by show (mkRow l (c : Int) l.length (mkAll l c)).length = _; rw [mkRow_len, mkAll_len l c]
/-- The places that are marked, below some place. -/
def idxN (m : List Bool) (n : Nat) : List Int := ((List.range n).filter fun i => m.getD i false).map fun (i : Nat) => (i : Int)
def idxs (m : List Bool) : List Int := idxN m m.length
theorem idxN_succ (m : List Bool) (n : Nat) : idxN m (n + 1) = idxN m n ++ (if m.getD n false = true then [(n : Int)] else []) := by
  unfold idxN
  rw [List.range_succ, List.filter_append, List.map_append]
  congr 1
  by_cases h : m.getD n false = true
  · rw [if_pos h, List.filter_cons_of_pos (by simpa using h)]; rfl
  · rw [if_neg h, List.filter_cons_of_neg (by simpa using h)]; rfl
theorem idxN_mem {m : List Bool} {n : Nat} {x : Int} : x ∈ idxN m n ↔ ∃ i : Nat, x = i ∧ i < n ∧ m.getD i false = true := by
  unfold idxN
  rw [List.mem_map]
  constructor
  · rintro ⟨i, hi, rfl⟩
    rw [List.mem_filter, List.mem_range] at hi
    exact ⟨i, rfl, hi.1, hi.2⟩
  · rintro ⟨i, rfl, h1, h2⟩
    exact ⟨i, by rw [List.mem_filter, List.mem_range]; exact ⟨h1, h2⟩, rfl⟩
theorem idxN_sorted (m : List Bool) : ∀ n, (idxN m n).Pairwise (· < ·)
  | 0 => List.Pairwise.nil
  | n + 1 => by
    rw [idxN_succ]
    split
    · refine List.pairwise_append.2 ⟨idxN_sorted m n, List.pairwise_singleton _ _, fun x hx y hy => ?_⟩
      rw [List.mem_singleton.1 hy]
      obtain ⟨i, rfl, hi, _⟩ := idxN_mem.1 hx
      omega
    · rw [List.append_nil]; exact idxN_sorted m n
theorem idxN_len (m : List Bool) : ∀ n, (idxN m n).length ≤ n
  | 0 => Nat.le_refl _
  | n + 1 => by
    rw [idxN_succ, List.length_append]
    have := idxN_len m n
    split <;> simp <;> omega
def markL (l : List Int) : List Int := idxs (mkAll l 3)

theorem mk1_some {l : List Int} {c : Int} {i : Nat} {m : List Bool} (h : ∃ j, m.getD j false = true) : ∃ j, (mk1 l c i m).getD j false = true := by
  unfold mk1
  split
  · obtain ⟨j, hj⟩ := h
    refine ⟨j, ?_⟩
    rw [List.getD_eq_getElem?_getD] at hj ⊢
    rw [List.getElem?_set]
    by_cases e : i = j
    · subst e
      rw [if_pos rfl]
      have : i < m.length := by
        rcases Nat.lt_or_ge i m.length with h1 | h1
        · exact h1
        · rw [List.getElem?_eq_none h1] at hj; cases hj
      rw [if_pos this]; rfl
    · rw [if_neg e]; exact hj
  · exact h
theorem mk1_here {l : List Int} {c : Int} {i : Nat} {m : List Bool} (hi : i < m.length) (hc : at0 l i = c) : ∃ j, (mk1 l c i m).getD j false = true := by
  by_cases h : ∃ j, m.getD j false = true
  · exact mk1_some h
  · have hn : ∀ j, m.getD j false = false := fun j => by
      cases hj : m.getD j false with
      | false => rfl
      | true => exact absurd ⟨j, hj⟩ h
    unfold mk1
    rw [if_pos ⟨hc, hn _, hn _⟩]
    refine ⟨i, ?_⟩
    rw [List.getD_eq_getElem?_getD, List.getElem?_set, if_pos rfl, if_pos hi]; rfl
theorem mkRow_some {l : List Int} {c : Int} {m : List Bool} (h : ∃ j, m.getD j false = true) : ∀ i, ∃ j, (mkRow l c i m).getD j false = true
  | 0 => h
  | i + 1 => mk1_some (mkRow_some h i)
theorem mkRow_here {l : List Int} {c : Int} {m : List Bool} (hm : m.length = l.length) {j : Nat} (hj : j < l.length) (hc : at0 l j = c) : ∀ i, j < i → i ≤ l.length → ∃ u, (mkRow l c i m).getD u false = true
  | 0, h, _ => by omega
  | i + 1, h, h2 => by
    by_cases e : j = i
    · subst e
      exact mk1_here (by rw [mkRow_len, hm]; exact hj) hc
    · exact mk1_some (mkRow_here hm hj hc i (by omega) (by omega))
theorem mkAll_here {l : List Int} {j : Nat} (hj : j < l.length) {d : Nat} (hd : at0 l j = d) : ∀ c, d < c → ∃ u, (mkAll l c).getD u false = true
  | 0, h => by omega
  | c + 1, h => by
    by_cases e : d = c
    · subst e
      exact mkRow_here (mkAll_len l d) hj hd _ hj (Nat.le_refl _)
    · exact mkRow_some (mkAll_here hj hd c (by omega)) _

/-- Marks of a cycle. -/
structure MarksOk (k : Nat) (m : List Int) : Prop where
  ne : 0 < m.length
  up : m.Pairwise (· < ·)
  lab : ∀ x ∈ m, 0 ≤ x ∧ x < k
theorem markL_ok {l : List Int} (h0 : 0 < l.length) (hs : Small0 l 3) : MarksOk l.length (markL l) := by
  have hlen := mkAll_len l 3
  refine ⟨?_, idxN_sorted _ _, fun x hx => ?_⟩
  · have h1 := hs _ (at0_mem h0)
    obtain ⟨u, hu⟩ := mkAll_here h0 (d := (at0 l 0).toNat) (by omega) 3 (by omega)
    refine List.length_pos_iff.2 fun e => ?_
    have : (u : Int) ∈ markL l := idxN_mem.2 ⟨u, rfl, (by
      rcases Nat.lt_or_ge u (mkAll l 3).length with h2 | h2
      · exact h2
      · exact absurd hu (by rw [List.getD_eq_getElem?_getD, List.getElem?_eq_none h2]; simp)), hu⟩
    rw [e] at this; cases this
  · obtain ⟨i, rfl, hi, _⟩ := idxN_mem.1 hx
    rw [hlen] at hi
    omega

/-! ### Marks with wide gaps -/

def imgL (m f : List Int) : List Int := m.map fun x => at0 f x.toNat
theorem imgL_len (m f : List Int) : (imgL m f).length = m.length := by simp [imgL]
theorem imgL_at {m f : List Int} {i : Nat} (h : i < m.length) : at0 (imgL m f) i = at0 f (at0 m i).toNat := by
  rw [at0_get (by rw [imgL_len]; exact h), at0_get h]; simp [imgL]
def spacedL (ids : List Int) : Nat → List Int
  | 0 => mk0 ids.length fun i => (i : Int)
  | n + 1 => if (spacedL ids n).length < 2 then spacedL ids n else imgL (markL (threeL (imgL (spacedL ids n) ids))) (spacedL ids n)
theorem spacedL_stay {ids : List Int} {i : Nat} (h : (spacedL ids i).length < 2) : ∀ d, spacedL ids (i + d) = spacedL ids i
  | 0 => rfl
  | d + 1 => by
    show (if (spacedL ids (i + d)).length < 2 then spacedL ids (i + d) else _) = _
    rw [spacedL_stay h d, if_pos h]

theorem Incr0 {m : List Int} (h : m.Pairwise (· < ·)) {i j : Nat} (hij : i < j) (hj : j < m.length) : at0 m i < at0 m j := by
  rw [at0_get (by omega), at0_get hj]
  exact List.pairwise_iff_getElem.1 h i j (by omega) hj hij
theorem nodup_at0 {l : List Int} (h : l.Nodup) {i j : Nat} (hi : i < l.length) (hj : j < l.length) (e : at0 l i = at0 l j) : i = j := by
  rw [at0_get hi, at0_get hj] at e
  have h' := List.pairwise_iff_getElem.1 h
  rcases Nat.lt_trichotomy i j with h1 | h1 | h1
  · exact absurd e (h' i j hi hj h1)
  · exact h1
  · exact absurd e.symm (h' j i hj hi h1)

/-- The identifiers of a cycle. -/
structure RingIds (ids : List Int) : Prop where
  len : 2 ≤ ids.length ∧ ids.length ≤ 180
  lab : ∀ x ∈ ids, 1 ≤ x ∧ x ≤ 999999
  nodup : ids.Nodup

theorem RingIds.proper {ids m : List Int} (h : RingIds ids) (hm : MarksOk ids.length m) (h2 : 2 ≤ m.length) : ProperC (imgL m ids) ∧ Small0 (imgL m ids) 1048576 := by
  have hidx : ∀ {i : Nat}, i < m.length → (at0 m i).toNat < ids.length := fun hi => by have := hm.lab _ (at0_mem hi); omega
  constructor
  · intro i hi
    rw [imgL_len] at hi ⊢
    rw [imgL_at hi, imgL_at (nxt_lt hi)]
    intro e
    have e1 := nodup_at0 h.nodup (hidx hi) (hidx (nxt_lt hi)) e
    have h3 := hm.lab _ (at0_mem hi)
    have h4 := hm.lab _ (at0_mem (nxt_lt hi))
    have e2 : at0 m i = at0 m (nxt m.length i) := by omega
    have hne : i ≠ nxt m.length i := by
      rw [nxt_eq hi]
      split <;> omega
    rcases Nat.lt_or_gt_of_ne hne with h5 | h5
    · have := Incr0 hm.up h5 (nxt_lt hi); omega
    · have := Incr0 hm.up h5 hi; omega
  · intro x hx
    obtain ⟨y, hy, rfl⟩ := List.mem_map.1 hx
    have h3 := hm.lab y hy
    have := h.lab _ (at0_mem (l := ids) (i := y.toNat) (by omega))
    omega
theorem RingIds.six {ids m : List Int} (h : RingIds ids) (hm : MarksOk ids.length m) (h2 : 2 ≤ m.length) : ∃ n, SixSt (imgL m ids) n (sixL 4 (imgL m ids)) ∧ five (sixL 4 (imgL m ids)) = true := by
  obtain ⟨hp, hs⟩ := h.proper hm h2
  have go : ∀ n l, SixSt (imgL m ids) n l → ∃ n', SixSt (imgL m ids) n' (sixL 4 (imgL m ids)) ∧ five (sixL 4 (imgL m ids)) = true := by
    intro n
    induction n with
    | zero =>
      intro l hl
      have hf : five l = true := five_iff.2 fun x hx => by have := hl.end0 rfl x hx; omega
      have e := (hl.six_end hf).1
      rw [e] at hl hf
      exact ⟨0, hl, hf⟩
    | succ n ih =>
      intro l hl
      cases hf : five l with
      | false => exact ih _ (hl.next hf)
      | true =>
        have e := (hl.six_end hf).1
        rw [e] at hl hf
        exact ⟨n + 1, hl, hf⟩
  exact go 4 _ (.start hp hs)
theorem RingIds.three {ids m : List Int} (h : RingIds ids) (hm : MarksOk ids.length m) (h2 : 2 ≤ m.length) : Small0 (threeL (imgL m ids)) 3 ∧ (threeL (imgL m ids)).length = m.length := by
  obtain ⟨n, h3, h4⟩ := h.six hm h2
  have h5 := (h3.six_end h4).2
  have h6 := ((h5.next (by omega)).next (by omega)).next (by omega)
  refine ⟨?_, by unfold threeL; rw [redC_len, redC_len, redC_len, h3.len, imgL_len]⟩
  exact h6.small
theorem MarksOk.img {k : Nat} {m q : List Int} (h : MarksOk k m) (hq : MarksOk m.length q) : MarksOk k (imgL q m) := by
  refine ⟨by rw [imgL_len]; exact hq.ne, ?_, fun x hx => ?_⟩
  · rw [List.pairwise_iff_getElem]
    intro i j hi hj hij
    rw [imgL_len] at hi hj
    rw [← at0_get, ← at0_get, imgL_at hi, imgL_at hj]
    have h1 := hq.lab _ (at0_mem hi)
    have h2 := hq.lab _ (at0_mem hj)
    have h3 := Incr0 hq.up hij hj
    exact Incr0 h.up (by omega) (by omega)
  · obtain ⟨y, hy, rfl⟩ := List.mem_map.1 hx
    have := hq.lab y hy
    exact h.lab _ (at0_mem (by omega))
theorem RingIds.spaced {ids : List Int} (h : RingIds ids) : ∀ n, MarksOk ids.length (spacedL ids n)
  | 0 => by
    refine ⟨by show 0 < (mk0 _ _).length; rw [mk0_len]; have := h.len; omega, ?_, fun x hx => ?_⟩
    · show (mk0 _ _).Pairwise _
      rw [List.pairwise_iff_getElem]
      intro i j hi hj hij
      rw [mk0_get, mk0_get]; omega
    · obtain ⟨i, hi, rfl⟩ := mk0_mem.1 hx
      omega
  | n + 1 => by
    have ih := h.spaced n
    show MarksOk ids.length (if (spacedL ids n).length < 2 then spacedL ids n else _)
    by_cases h2 : (spacedL ids n).length < 2
    · rw [if_pos h2]; exact ih
    · rw [if_neg h2]
      obtain ⟨h3, h4⟩ := h.three ih (by omega)
      have h5 := markL_ok (by rw [h4]; exact ih.ne) h3
      rw [h4] at h5
      exact ih.img h5
theorem sorted_len {m : List Int} : ∀ {a b : Int}, m.Pairwise (· < ·) → (∀ x ∈ m, a ≤ x ∧ x < b) → a ≤ b → (m.length : Int) ≤ b - a := by
  induction m with
  | nil => intro a b _ _ h; simp; omega
  | cons x t ih =>
    intro a b h1 h2 _
    have h3 := h2 x (by simp)
    obtain ⟨h4, h5⟩ := List.pairwise_cons.1 h1
    have := ih (a := x + 1) (b := b) h5 (fun y hy => ⟨by have := h4 y hy; omega, (h2 y (by simp [hy])).2⟩) (by omega)
    rw [List.length_cons]; push_cast; omega
theorem MarksOk.len {k : Nat} {m : List Int} (h : MarksOk k m) : m.length ≤ k := by
  have := sorted_len (a := 0) (b := k) h.up h.lab (by omega)
  omega

/-! ### Gaps -/

def gapN (k : Nat) (m : List Int) (i : Nat) : Nat := ((if i + 1 < m.length then at0 m (i + 1) else k + at0 m 0) - at0 m i).toNat
def gapsL (k : Nat) (m : List Int) : List Int := mk0 m.length fun i => (gapN k m i : Int)
theorem MarksOk.gap {k : Nat} {m : List Int} (h : MarksOk k m) {i : Nat} (hi : i < m.length) : (gapN k m i : Int) = (if i + 1 < m.length then at0 m (i + 1) else k + at0 m 0) - at0 m i ∧ 1 ≤ gapN k m i ∧ gapN k m i ≤ k := by
  have h1 := h.lab _ (at0_mem hi)
  have h0 := h.lab _ (at0_mem h.ne)
  unfold gapN
  by_cases h2 : i + 1 < m.length
  · rw [if_pos h2]
    have h3 := h.lab _ (at0_mem h2)
    have h4 := Incr0 h.up (show i < i + 1 by omega) h2
    omega
  · rw [if_neg h2]
    by_cases h3 : i = 0
    · subst h3; omega
    · have h4 := Incr0 h.up (show 0 < i by omega) hi
      omega
/-- The place that lies behind a mark. -/
def posN (k : Nat) (m : List Int) (i s : Nat) : Nat := ((at0 m i).toNat + s) % k
theorem posN_lt {k : Nat} {m : List Int} {i s : Nat} (hk : 0 < k) : posN k m i s < k := Nat.mod_lt _ hk

/-- Each place lies behind just one mark, before the next one. -/
theorem MarksOk.cover {k : Nat} {m : List Int} (h : MarksOk k m) {q : Nat} (hq : q < k) : ∃ i s, i < m.length ∧ s < gapN k m i ∧ q = posN k m i s := by
  have h0 := h.lab _ (at0_mem h.ne)
  -- the last mark that is not above a number
  have go : ∀ (x : Int), at0 m 0 ≤ x → x < k + at0 m 0 → ∃ i, i < m.length ∧ at0 m i ≤ x ∧ x < at0 m i + gapN k m i := by
    intro x hx0 hx1
    have step : ∀ d i, d = m.length - i → i < m.length → at0 m i ≤ x → ∃ i, i < m.length ∧ at0 m i ≤ x ∧ x < at0 m i + gapN k m i := by
      intro d
      induction d with
      | zero => intro i hd hi _; omega
      | succ d ih =>
        intro i hd hi hx
        obtain ⟨hg, _, _⟩ := h.gap hi
        by_cases h2 : i + 1 < m.length
        · rw [if_pos h2] at hg
          by_cases h3 : at0 m (i + 1) ≤ x
          · exact ih (i + 1) (by omega) h2 h3
          · exact ⟨i, hi, hx, by omega⟩
        · rw [if_neg h2] at hg
          exact ⟨i, hi, hx, by omega⟩
    exact step _ 0 rfl h.ne hx0
  by_cases hle : at0 m 0 ≤ (q : Int)
  · obtain ⟨i, hi, h1, h2⟩ := go q hle (by omega)
    have h3 := h.lab _ (at0_mem hi)
    refine ⟨i, q - (at0 m i).toNat, hi, by omega, ?_⟩
    unfold posN
    rw [show (at0 m i).toNat + (q - (at0 m i).toNat) = q by omega, Nat.mod_eq_of_lt hq]
  · obtain ⟨i, hi, h1, h2⟩ := go ((q : Int) + k) (by omega) (by omega)
    have h3 := h.lab _ (at0_mem hi)
    refine ⟨i, q + k - (at0 m i).toNat, hi, by omega, ?_⟩
    unfold posN
    rw [show (at0 m i).toNat + (q + k - (at0 m i).toNat) = q + k by omega, Nat.add_mod_right, Nat.mod_eq_of_lt hq]
theorem MarksOk.posI {k : Nat} {m : List Int} (h : MarksOk k m) {i s : Nat} (hi : i < m.length) (hs : s < gapN k m i) : (posN k m i s : Int) = (if at0 m i + s < k then at0 m i + s else at0 m i + s - k) ∧ (at0 m i + s < k ∨ i + 1 = m.length) ∧ at0 m i + s < k + at0 m 0 := by
  obtain ⟨hg, _, _⟩ := h.gap hi
  have h3 := h.lab _ (at0_mem hi)
  have h0 := h.lab _ (at0_mem h.ne)
  have hlast : at0 m i + s < k ∨ i + 1 = m.length := by
    by_cases h2 : i + 1 < m.length
    · rw [if_pos h2] at hg
      have := h.lab _ (at0_mem h2)
      exact .inl (by omega)
    · exact .inr (by omega)
  have htop : at0 m i + s < k + at0 m 0 := by
    by_cases h2 : i + 1 < m.length
    · rw [if_pos h2] at hg
      have := h.lab _ (at0_mem h2)
      omega
    · rw [if_neg h2] at hg
      omega
  refine ⟨?_, hlast, htop⟩
  unfold posN
  by_cases h4 : at0 m i + s < k
  · rw [if_pos h4, Nat.mod_eq_of_lt (by omega)]; omega
  · rw [if_neg h4, show (at0 m i).toNat + s = ((at0 m i).toNat + s - k) + k by omega, Nat.add_mod_right, Nat.mod_eq_of_lt (by omega)]; omega
theorem MarksOk.mono {k : Nat} {m : List Int} (h : MarksOk k m) {i j : Nat} (hij : i < j) (hj : j < m.length) : at0 m i + gapN k m i ≤ at0 m j := by
  obtain ⟨hg, _, _⟩ := h.gap (i := i) (by omega)
  rw [if_pos (by omega)] at hg
  rcases Nat.lt_or_ge (i + 1) j with h1 | h1
  · have := Incr0 h.up h1 hj; omega
  · have : j = i + 1 := by omega
    subst this; omega
theorem MarksOk.pos_inj {k : Nat} {m : List Int} (h : MarksOk k m) {i s j t : Nat} (hi : i < m.length) (hs : s < gapN k m i) (hj : j < m.length) (ht : t < gapN k m j) (e : posN k m i s = posN k m j t) : i = j ∧ s = t := by
  have h1 := h.posI hi hs
  have h2 := h.posI hj ht
  have h3 := h.lab _ (at0_mem hi)
  have h4 := h.lab _ (at0_mem hj)
  have h0 := h.lab _ (at0_mem h.ne)
  have a0 : at0 m 0 ≤ at0 m i := by
    rcases Nat.eq_zero_or_pos i with h5 | h5
    · rw [h5]; exact Int.le_refl _
    · have := Incr0 h.up h5 hi; omega
  have b0 : at0 m 0 ≤ at0 m j := by
    rcases Nat.eq_zero_or_pos j with h5 | h5
    · rw [h5]; exact Int.le_refl _
    · have := Incr0 h.up h5 hj; omega
  have es : at0 m i + s = at0 m j + t := by
    have e' : (posN k m i s : Int) = posN k m j t := by rw [e]
    rw [h1.1, h2.1] at e'
    have := h1.2.2
    have := h2.2.2
    split at e' <;> split at e' <;> omega
  rcases Nat.lt_trichotomy i j with h5 | h5 | h5
  · have := h.mono h5 hj; omega
  · subst h5; exact ⟨rfl, by omega⟩
  · have := h.mono h5 hi; omega

/-! ### Walks between marks -/

section
variable {E : Nat → Nat → Prop}
/-- The least label behind another one from which a walk leads on. -/
def Nx (E : Nat → Nat → Prop) (b n x c : Nat) : Prop := (E x c ∧ Wk E n c b) ∧ ∀ d, d < c → ¬ (E x d ∧ Wk E n d b)
theorem Nx.unique {b n x c d : Nat} (h : Nx E b n x c) (h' : Nx E b n x d) : c = d := by
  rcases Nat.lt_trichotomy c d with h1 | h1 | h1
  · exact absurd h.1 (h'.2 _ h1)
  · exact h1
  · exact absurd h'.1 (h.2 _ h1)
theorem Wk.uncons {k a b : Nat} (h : Wk E (k + 1) a b) : ∃ c, E a c ∧ Wk E k c b := by
  rw [Nat.add_comm] at h
  obtain ⟨c, ⟨d, h1, h2⟩, h3⟩ := Wk.cut (j := 1) h
  have : a = d := h1
  subst this
  exact ⟨c, h2, h3⟩
/-- The first walk, as far as some place. -/
structure BetP (E : Nat → Nat → Prop) (a b k j : Nat) (q : List Nat) : Prop where
  len : q.length = j + 1
  fst : q.getD 0 0 = a
  nx : ∀ i, i < j → Nx E b (k - 1 - i) (q.getD i 0) (q.getD (i + 1) 0)
  wk : ∀ i, i ≤ j → Wk E (k - i) (q.getD i 0) b
theorem BetP.start {a b k : Nat} (h : Wk E k a b) : BetP E a b k 0 [a] := ⟨rfl, rfl, fun i hi => by omega, fun i hi => by
  have : i = 0 := by omega
  subst this; exact h⟩
theorem BetP.next {a b k j c : Nat} {q : List Nat} (h : BetP E a b k j q) (hj : j < k) (hc : Nx E b (k - 1 - j) (q.getD j 0) c) : BetP E a b k (j + 1) (q ++ [c]) := by
  have hlen := h.len
  have old : ∀ i, i ≤ j → (q ++ [c]).getD i 0 = q.getD i 0 := fun i hi => by
    rw [List.getD_eq_getElem?_getD, List.getElem?_append_left (by omega), ← List.getD_eq_getElem?_getD]
  have new : (q ++ [c]).getD (j + 1) 0 = c := by
    rw [List.getD_eq_getElem?_getD, List.getElem?_append_right (by omega), show j + 1 - q.length = 0 by omega]; rfl
  refine ⟨by simp [hlen], by rw [old 0 (by omega)]; exact h.fst, fun i hi => ?_, fun i hi => ?_⟩
  · by_cases e : i = j
    · subst e; rw [old i (by omega), new]; exact hc
    · rw [old i (by omega), old (i + 1) (by omega)]; exact h.nx i (by omega)
  · by_cases e : i = j + 1
    · subst e
      rw [new, show k - (j + 1) = k - 1 - j by omega]
      exact hc.1.2
    · rw [old i (by omega)]; exact h.wk i (by omega)
theorem BetP.unique {a b k j : Nat} {q r : List Nat} (h : BetP E a b k j q) (h' : BetP E a b k j r) : q = r := by
  have hl := h.len
  have hl' := h'.len
  have go : ∀ i, i ≤ j → q.getD i 0 = r.getD i 0 := by
    intro i
    induction i with
    | zero => intro _; rw [h.fst, h'.fst]
    | succ i ih =>
      intro hi
      have e := ih (by omega)
      have h1 := h.nx i (by omega)
      have h2 := h'.nx i (by omega)
      rw [e] at h1
      exact h1.unique h2
  apply List.ext_getElem
  · omega
  · intro i h1 h2
    have := go i (by omega)
    rw [List.getD_eq_getElem?_getD, List.getD_eq_getElem?_getD, List.getElem?_eq_getElem h1, List.getElem?_eq_getElem h2] at this
    exact this
theorem BetP.last {a b k : Nat} {q : List Nat} (h : BetP E a b k k q) : q.getD k 0 = b := by
  have := h.wk k (Nat.le_refl _)
  rw [Nat.sub_self] at this
  exact this
theorem ex_nx {b n x : Nat} (h : ∃ c, E x c ∧ Wk E n c b) : ∃ c, Nx E b n x c := by
  classical
  obtain ⟨c, hc⟩ := h
  have go : ∀ c, (E x c ∧ Wk E n c b) → ∃ d, Nx E b n x d := by
    intro c
    induction c using Nat.strongRecOn with
    | ind c ih =>
      intro hc
      by_cases h1 : ∃ d, d < c ∧ E x d ∧ Wk E n d b
      · obtain ⟨d, h2, h3⟩ := h1
        exact ih d h2 h3
      · exact ⟨c, hc, fun d hd h3 => h1 ⟨d, hd, h3⟩⟩
  exact go c hc

theorem ex_bet {a b k : Nat} (h : Wk E k a b) : ∃ q, BetP E a b k k q := by
  have go : ∀ j, j ≤ k → ∃ q, BetP E a b k j q := by
    intro j
    induction j with
    | zero => intro _; exact ⟨_, .start h⟩
    | succ j ih =>
      intro hj
      obtain ⟨q, hq⟩ := ih (by omega)
      have h1 := hq.wk j (Nat.le_refl _)
      rw [show k - j = (k - 1 - j) + 1 by omega] at h1
      obtain ⟨c, hc⟩ := ex_nx h1.uncons
      exact ⟨_, hq.next (by omega) hc⟩
  exact go k (Nat.le_refl _)

/-- The labeling of a cycle with walks between marks. -/
structure FillIs (E : Nat → Nat → Prop) (a k : Nat) (m : List Int) (out : List Int) : Prop where
  len : out.length = k
  at' : ∀ i, i < m.length → ∃ q, BetP E a a (gapN k m i) (gapN k m i) q ∧ ∀ s, s < gapN k m i → at0 out (posN k m i s) = (q.getD s 0 : Nat)
theorem FillIs.unique {a k : Nat} {m x y : List Int} (hm : MarksOk k m) (h : FillIs E a k m x) (h' : FillIs E a k m y) : x = y := by
  have e : x = mk0 k (at0 y) := mk0_ext h.len fun p hp => by
    obtain ⟨i, s, hi, hs, rfl⟩ := hm.cover hp
    obtain ⟨q, h1, h2⟩ := h.at' i hi
    obtain ⟨r, h3, h4⟩ := h'.at' i hi
    have := h1.unique h3
    subst this
    rw [h2 s hs, h4 s hs]
  rw [e, ← h'.len, mk0_self]
/-- The same labeling, as a function of places. -/
structure FillFn (E : Nat → Nat → Prop) (a k : Nat) (m : List Int) (W : Nat → List Nat) (T : Nat → Int) : Prop where
  walk : ∀ i, i < m.length → BetP E a a (gapN k m i) (gapN k m i) (W i)
  at' : ∀ i s, i < m.length → s < gapN k m i → T (posN k m i s) = ((W i).getD s 0 : Nat)
theorem ex_fill {a k : Nat} {m : List Int} (hm : MarksOk k m) (h : ∀ i, i < m.length → Wk E (gapN k m i) a a) : ∃ W T, FillFn E a k m W T := by
  classical
  have h1 : ∀ i, ∃ q, i < m.length → BetP E a a (gapN k m i) (gapN k m i) q := fun i => by
    by_cases hi : i < m.length
    · obtain ⟨q, hq⟩ := ex_bet (h i hi)
      exact ⟨q, fun _ => hq⟩
    · exact ⟨[], fun h => absurd h hi⟩
  obtain ⟨W, hW⟩ := Classical.axiomOfChoice h1
  have h2 : ∀ p, ∃ x : Int, ∀ i s, i < m.length → s < gapN k m i → p = posN k m i s → x = ((W i).getD s 0 : Nat) := fun p => by
    by_cases hp : ∃ i s, i < m.length ∧ s < gapN k m i ∧ p = posN k m i s
    · obtain ⟨i, s, hi, hs, rfl⟩ := hp
      refine ⟨((W i).getD s 0 : Nat), fun j t hj ht e => ?_⟩
      obtain ⟨rfl, rfl⟩ := hm.pos_inj hi hs hj ht e
      rfl
    · exact ⟨0, fun i s hi hs e => absurd ⟨i, s, hi, hs, e⟩ hp⟩
  obtain ⟨T, hT⟩ := Classical.axiomOfChoice h2
  exact ⟨W, T, hW, fun i s hi hs => hT _ i s hi hs rfl⟩
/-- What a loop that fills keeps: what is written is right. -/
def FillP (k : Nat) (m : List Int) (T : Nat → Int) (i s : Nat) (out : List Int) : Prop := out.length = k ∧ ∀ j t, j < m.length → t < gapN k m j → (j < i ∨ (j = i ∧ t < s)) → at0 out (posN k m j t) = T (posN k m j t)
theorem FillP.zero (k : Nat) (m : List Int) (T : Nat → Int) {out : List Int} (h : out.length = k) : FillP k m T 0 0 out := ⟨h, fun j t _ _ h => by omega⟩
theorem FillP.row {k : Nat} {m : List Int} {T : Nat → Int} {i s : Nat} {out : List Int} (h : FillP k m T i s out) (hs : gapN k m i ≤ s) : FillP k m T (i + 1) 0 out :=
  ⟨h.1, fun j t hj ht hc => h.2 j t hj ht (by
    by_cases e : j = i
    · subst e; exact .inr ⟨rfl, by omega⟩
    · exact .inl (by omega))⟩
theorem FillP.write {k : Nat} {m : List Int} {T : Nat → Int} {i s p : Nat} {out : List Int} (h : FillP k m T i s out) (hm : MarksOk k m) (hi : i < m.length) (hp : p = posN k m i s) {x : Int} (hx : x = T p) : FillP k m T i (s + 1) (out.set p x) := by
  have hk : 0 < k := by have := h.1; have := hm.lab _ (at0_mem hm.ne); omega
  have hpl : p < out.length := by rw [h.1, hp]; exact posN_lt hk
  refine ⟨by rw [List.length_set]; exact h.1, fun j t hj ht hc => ?_⟩
  rw [at0_set hpl]
  by_cases e : p = posN k m j t
  · rw [if_pos e, hx, e]
  · rw [if_neg e]
    refine h.2 j t hj ht ?_
    rcases hc with hc | ⟨rfl, hc⟩
    · exact .inl hc
    · refine .inr ⟨rfl, ?_⟩
      rcases Nat.lt_or_ge t s with h1 | h1
      · exact h1
      · have : t = s := by omega
        subst this
        exact absurd hp e
theorem FillP.done {a k : Nat} {m : List Int} {W : Nat → List Nat} {T : Nat → Int} {out : List Int} (h : FillP k m T m.length 0 out) (hF : FillFn E a k m W T) : FillIs E a k m out :=
  ⟨h.1, fun i hi => ⟨W i, hF.walk i hi, fun s hs => by rw [h.2 i s hi hs (.inl hi), hF.at' i s hi hs]⟩⟩
/-- The label at the end of a gap. -/
theorem FillFn.wrap {a k : Nat} {m : List Int} {W : Nat → List Nat} {T : Nat → Int} (hF : FillFn E a k m W T) (hm : MarksOk k m) {i : Nat} (hi : i < m.length) : T (posN k m i (gapN k m i)) = a := by
  obtain ⟨hg, _, _⟩ := hm.gap hi
  have h3 := hm.lab _ (at0_mem hi)
  have key : ∀ j, j < m.length → posN k m i (gapN k m i) = posN k m j 0 → T (posN k m i (gapN k m i)) = a := fun j hj e => by
    have hgj := (hm.gap hj).2.1
    rw [e, hF.at' j 0 hj (by omega), (hF.walk j hj).fst]
  by_cases h2 : i + 1 < m.length
  · rw [if_pos h2] at hg
    have h4 := hm.lab _ (at0_mem h2)
    refine key (i + 1) h2 ?_
    unfold posN
    congr 1; omega
  · rw [if_neg h2] at hg
    have h4 := hm.lab _ (at0_mem hm.ne)
    refine key 0 hm.ne ?_
    unfold posN
    rw [show (at0 m i).toNat + gapN k m i = ((at0 m 0).toNat + 0) + k by omega, Nat.add_mod_right]
end

end Go.Proofs.YtaeledhbkdakcaaGreatDoor
end
