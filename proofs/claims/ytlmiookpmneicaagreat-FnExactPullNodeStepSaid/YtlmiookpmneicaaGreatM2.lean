/- Own texts, merged: V7, V8, V9, VStable, AllV, Rules, Leaf, Net, Sort. -/
import Derived.Test.YtlmiookpmneicaaGreatM1
import Derived.Laws.OwnMore
import Derived.Great.BuildSlice
import Derived.Laws.StructEq
import Derived.Shelf.Sort.Plain
import Derived.Shelf.Slices.In.SortNone
import Derived.Ground.SlsfProg
import Derived.Test.YtlmiookpmneicaaGreatProg
section
/- What each function's code computes to. Printed by a program. -/
namespace Go.Proofs.YtlmiookpmneicaaGreat
open Go.GX Go.RowKit
set_option linter.unusedVariables false
set_option maxRecDepth 100000

def V_s_l1Own (Q : Sl → World → Prop) (l : Sl) (w : World) : Prop :=
  RUN Tryz.prog (.at .sl) (Instr.buildSlice T.t_sl_int 0 #[]) w fun (x3 : Sl) w1 =>
  RUN Tryz.prog (.at .sl) (bsem .append #[T.t_sl_int, T.t_sl_int] T.t_sl_int #[x3.v, l.v]) w1 fun (x5 : Sl) w2 =>
  Q x5 w2

theorem C_s_l1Own {Q : Sl → World → Prop} {l : Sl} {w : World} (h : V_s_l1Own Q l w) : Calls Tryz.prog F.s_l1Own #[l.v] w (Ret [.at .sl] Q) :=
  mkC (hint := hint) (ann := annOf []) (args := [l.v]) (rs := [.at .sl]) Tryz.func192 (by kernel_rfl) (by kernel_rfl) h

def V_l_toEnd (Q : Int → Int → World → Prop) (a_0 : Int) (a_1 : Int) (w : World) : Prop :=
  NEW T.t_l_End #[.int .i64 a_0, .int .i64 a_1] w fun (p_a : Addr) w1 =>
  NEW T.t_i_End #[.int .i64 0, .int .i64 0] w1 fun (px2 : Addr) w2 =>
  NEW T.t_i_End #[.int .i64 0, .int .i64 0] w2 fun (p_out : Addr) w3 =>
  LD [.int .i64] (p_a.add 0) w3 fun (x5 : Int) =>
  ST (p_out.add 0) 0 [.int .i64 x5] w3 fun w4 =>
  LD [.int .i64] (p_a.add 1) w4 fun (x8 : Int) =>
  ST (p_out.add 1) 0 [.int .i64 x8] w4 fun w5 =>
  LD [.int .i64, .int .i64] p_out w5 fun (x10_0 : Int) (x10_1 : Int) =>
  ST px2 0 [.int .i64 x10_0, .int .i64 x10_1] w5 fun w6 =>
  LD [.int .i64, .int .i64] px2 w6 fun (r0_0 : Int) (r0_1 : Int) =>
  Q r0_0 r0_1 w6

theorem C_l_toEnd {Q : Int → Int → World → Prop} {a_0 : Int} {a_1 : Int} {w : World} (h : V_l_toEnd Q a_0 a_1 w) : Calls Tryz.prog F.l_toEnd #[.agg #[.int .i64 a_0, .int .i64 a_1]] w (Ret [.agg [.int .i64, .int .i64]] Q) :=
  mkC (hint := hint) (ann := annOf []) (args := [.agg #[.int .i64 a_0, .int .i64 a_1]]) (rs := [.agg [.int .i64, .int .i64]]) Tryz.func193 (by kernel_rfl) (by kernel_rfl) h

def V_i_configurationsOk (Q : Bool → World → Prop) (list : Sl) (size1 : Int) (labels : Int) (w : World) : Prop :=
  ∃ (I2 : Int → World → Prop) (m2 : Int → World → Nat), I2 0 w ∧ ∀ (x11 : Int) w1, I2 x11 w1 → ∀ _ _ _ _ _ _ _ _ _ _ _ _ _ _ _ _ _ _ _ _ _ _ _ _ _ _ _ _ _ _ _ _ _ _ _ _ _ _ : Value,
  cond (decide ((x11 : Int) < list.len)) (
  IX list x11 1 fun (px14 : Addr) =>
  LD [.sl] px14 w1 fun (x15 : Sl) =>
  cond ((x15.len : Int) != size1) (
  Q false w1) (
  Calls Tryz.prog F.slices_IsSorted_sl_int_int #[x15.v] w1 (Ret [.at .bool] fun (x22 : Bool) w2 =>
  cond (!x22) (
  Q false w2) (
  Calls Tryz.prog F.i_allWithin #[x15.v, .int .i64 0, .int .i64 (IntKind.i64.wrap (labels - 1))] w2 (Ret [.at .bool] fun (x29 : Bool) w3 =>
  cond (!x29) (
  Q false w3) (
  cond (decide ((x11 : Int) > 0)) (
  IX list (IntKind.i64.wrap (x11 - 1)) 1 fun (px39 : Addr) =>
  LD [.sl] px39 w3 fun (x40 : Sl) =>
  Calls Tryz.prog F.slices_Compare_sl_int_int #[x40.v, x15.v] w3 (Ret [.at (.int .i64)] fun (x42 : Int) w4 =>
  cond (decide ((x42 : Int) ≥ 0)) (
  Q false w4) (
  I2 (IntKind.i64.wrap (x11 + 1)) w4 ∧ m2 (IntKind.i64.wrap (x11 + 1)) w4 < m2 x11 w1))) (
  I2 (IntKind.i64.wrap (x11 + 1)) w3 ∧ m2 (IntKind.i64.wrap (x11 + 1)) w3 < m2 x11 w1))))))) (
  Q true w1)

theorem C_i_configurationsOk {Q : Bool → World → Prop} {list : Sl} {size1 : Int} {labels : Int} {w : World} (h : V_i_configurationsOk Q list size1 labels w) : Calls Tryz.prog F.i_configurationsOk #[list.v, .int .i64 size1, .int .i64 labels] w (Ret [.at .bool] Q) :=
  mkC (hint := hint) (ann := annOf [(2, ⟨[(11, .int .i64)], [6, 7, 8, 12, 13, 14, 15, 16, 17, 18, 19, 20, 21, 22, 23, 24, 25, 26, 27, 28, 29, 30, 31, 32, 33, 34, 35, 36, 37, 38, 39, 40, 41, 42, 43, 44, 45, 46]⟩)]) (args := [list.v, .int .i64 size1, .int .i64 labels]) (rs := [.at .bool]) Tryz.func194 (by kernel_rfl) (by kernel_rfl) h

def V_i_allWithin (Q : Bool → World → Prop) (list : Sl) (low : Int) (high : Int) (w : World) : Prop :=
  NEW T.t_int #[.int .i64 low] w fun (p_low : Addr) w1 =>
  NEW T.t_int #[.int .i64 high] w1 fun (p_high : Addr) w2 =>
  Calls Tryz.prog F.slices_ContainsFunc_sl_int_int #[list.v, .func (.func F.i_allWithin_1) #[] #[.pointer (some p_low), .pointer (some p_high)]] w2 (Ret [.at .bool] fun (x9 : Bool) w3 =>
  Q (!x9) w3)

theorem C_i_allWithin {Q : Bool → World → Prop} {list : Sl} {low : Int} {high : Int} {w : World} (h : V_i_allWithin Q list low high w) : Calls Tryz.prog F.i_allWithin #[list.v, .int .i64 low, .int .i64 high] w (Ret [.at .bool] Q) :=
  mkC (hint := hint) (ann := annOf []) (args := [list.v, .int .i64 low, .int .i64 high]) (rs := [.at .bool]) Tryz.func195 (by kernel_rfl) (by kernel_rfl) h

def V_i_hasConfiguration (Q : Bool → World → Prop) (list : Sl) (labels : Sl) (w : World) : Prop :=
  Calls Tryz.prog F.slices_Values_sl_int_int #[labels.v] w (Ret [.at .val] fun (x10 : Value) w1 =>
  Calls Tryz.prog F.slices_Sorted_int #[x10] w1 (Ret [.at .sl] fun (x11 : Sl) w2 =>
  Calls Tryz.prog F.slices_BinarySearchFunc_sl_sl_int_sl_int_sl_int #[list.v, x11.v, .func (.func F.slices_Compare_sl_int_int) #[] #[]] w2 (Ret [.at (.int .i64), .at .bool] fun (x12_0 : Int) (x12_1 : Bool) w3 =>
  Q x12_1 w3)))

theorem C_i_hasConfiguration {Q : Bool → World → Prop} {list : Sl} {labels : Sl} {w : World} (h : V_i_hasConfiguration Q list labels w) : Calls Tryz.prog F.i_hasConfiguration #[list.v, labels.v] w (Ret [.at .bool] Q) :=
  mkC (hint := hint) (ann := annOf []) (args := [list.v, labels.v]) (rs := [.at .bool]) Tryz.func196 (by kernel_rfl) (by kernel_rfl) h

def V_i_increasing (Q : Bool → World → Prop) (list : Sl) (low : Int) (high : Int) (w : World) : Prop :=
  ∃ (I2 : Int → World → Prop) (m2 : Int → World → Nat), I2 0 w ∧ ∀ (x11 : Int) w1, I2 x11 w1 → ∀ _ _ _ _ _ _ _ _ _ _ _ _ _ _ _ _ _ _ _ _ _ _ _ _ _ _ : Value,
  cond (decide ((x11 : Int) < list.len)) (
  IX list x11 1 fun (px14 : Addr) =>
  LD [.int .i64] px14 w1 fun (x15 : Int) =>
  Calls Tryz.prog F.i_within #[.int .i64 x15, .int .i64 low, .int .i64 high] w1 (Ret [.at .bool] fun (x19 : Bool) w2 =>
  cond (!x19) (
  Q false w2) (
  cond (decide ((x11 : Int) > 0)) (
  IX list (IntKind.i64.wrap (x11 - 1)) 1 fun (px28 : Addr) =>
  LD [.int .i64] px28 w2 fun (x29 : Int) =>
  cond (decide ((x29 : Int) ≥ x15)) (
  Q false w2) (
  I2 (IntKind.i64.wrap (x11 + 1)) w2 ∧ m2 (IntKind.i64.wrap (x11 + 1)) w2 < m2 x11 w1)) (
  I2 (IntKind.i64.wrap (x11 + 1)) w2 ∧ m2 (IntKind.i64.wrap (x11 + 1)) w2 < m2 x11 w1)))) (
  Q true w1)

theorem C_i_increasing {Q : Bool → World → Prop} {list : Sl} {low : Int} {high : Int} {w : World} (h : V_i_increasing Q list low high w) : Calls Tryz.prog F.i_increasing #[list.v, .int .i64 low, .int .i64 high] w (Ret [.at .bool] Q) :=
  mkC (hint := hint) (ann := annOf [(2, ⟨[(11, .int .i64)], [6, 7, 8, 12, 13, 14, 15, 16, 17, 18, 19, 20, 21, 22, 23, 24, 25, 26, 27, 28, 29, 30, 31, 32, 33, 34]⟩)]) (args := [list.v, .int .i64 low, .int .i64 high]) (rs := [.at .bool]) Tryz.func197 (by kernel_rfl) (by kernel_rfl) h

def V_i_Network_hasNode (Q : Bool → World → Prop) (n_0 : Sl) (n_1 : Sl) (n_2 : Sl) (v : Int) (w : World) : Prop :=
  NEW T.t_i_Network #[n_0.v, n_1.v, n_2.v] w fun (p_n : Addr) w1 =>
  LD [.sl] (p_n.add 0) w1 fun (x7 : Sl) =>
  Calls Tryz.prog F.i_within #[.int .i64 v, .int .i64 0, .int .i64 (IntKind.i64.wrap (x7.len - 1))] w1 (Ret [.at .bool] fun (x10 : Bool) w2 =>
  Q x10 w2)

theorem C_i_Network_hasNode {Q : Bool → World → Prop} {n_0 : Sl} {n_1 : Sl} {n_2 : Sl} {v : Int} {w : World} (h : V_i_Network_hasNode Q n_0 n_1 n_2 v w) : Calls Tryz.prog F.i_Network_hasNode #[.agg #[n_0.v, n_1.v, n_2.v], .int .i64 v] w (Ret [.at .bool] Q) :=
  mkC (hint := hint) (ann := annOf []) (args := [.agg #[n_0.v, n_1.v, n_2.v], .int .i64 v]) (rs := [.at .bool]) Tryz.func198 (by kernel_rfl) (by kernel_rfl) h

def V_l_eqEnd (Q : Bool → World → Prop) (a_0 : Int) (a_1 : Int) (b_0 : Int) (b_1 : Int) (w : World) : Prop :=
  NEW T.t_i_End #[.int .i64 a_0, .int .i64 a_1] w fun (p_a : Addr) w1 =>
  NEW T.t_i_End #[.int .i64 b_0, .int .i64 b_1] w1 fun (p_b : Addr) w2 =>
  LD [.int .i64] (p_a.add 0) w2 fun (x6 : Int) =>
  LD [.int .i64] (p_b.add 0) w2 fun (x8 : Int) =>
  cond ((x6 : Int) != x8) (
  Q false w2) (
  LD [.int .i64] (p_a.add 1) w2 fun (x11 : Int) =>
  LD [.int .i64] (p_b.add 1) w2 fun (x13 : Int) =>
  cond ((x11 : Int) != x13) (
  Q false w2) (
  Q true w2))

theorem C_l_eqEnd {Q : Bool → World → Prop} {a_0 : Int} {a_1 : Int} {b_0 : Int} {b_1 : Int} {w : World} (h : V_l_eqEnd Q a_0 a_1 b_0 b_1 w) : Calls Tryz.prog F.l_eqEnd #[.agg #[.int .i64 a_0, .int .i64 a_1], .agg #[.int .i64 b_0, .int .i64 b_1]] w (Ret [.at .bool] Q) :=
  mkC (hint := hint) (ann := annOf []) (args := [.agg #[.int .i64 a_0, .int .i64 a_1], .agg #[.int .i64 b_0, .int .i64 b_1]]) (rs := [.at .bool]) Tryz.func205 (by kernel_rfl) (by kernel_rfl) h

def V_s_reChoices_k7 (I7 : Sl → Int → World → Prop) (m7 : Sl → Int → World → Nat) (x20 : Int) (w3 : World) (labels : Int) (next1 : Sl) (x23 : Sl) (from1 : Int) (w4 : World) : Prop :=
  ∃ (I13 : Sl → Int → World → Prop) (m13 : Sl → Int → World → Nat), I13 next1 from1 w4 ∧ ∀ (next1_2 : Sl) (a : Int) w5, I13 next1_2 a w5 → ∀ _ _ _ _ _ _ _ _ _ _ _ _ _ : Value,
  cond (decide ((a : Int) < labels)) (
  Calls Tryz.prog F.s_l1Own #[x23.v] w5 (Ret [.at .sl] fun (x39 : Sl) w6 =>
  RUN Tryz.prog (.at .sl) (Instr.buildSlice T.t_sl_int 1 #[(0, .int .i64 a)]) w6 fun (x41 : Sl) w7 =>
  RUN Tryz.prog (.at .sl) (bsem .append #[T.t_sl_int, T.t_sl_int] T.t_sl_int #[x39.v, x41.v]) w7 fun (x42 : Sl) w8 =>
  RUN Tryz.prog (.at .sl) (Instr.buildSlice T.t_sl_sl_int 1 #[(0, x42.v)]) w8 fun (x43 : Sl) w9 =>
  RUN Tryz.prog (.at .sl) (bsem .append #[T.t_sl_sl_int, T.t_sl_sl_int] T.t_sl_sl_int #[next1_2.v, x43.v]) w9 fun (x44 : Sl) w10 =>
  I13 x44 (IntKind.i64.wrap (a + 1)) w10 ∧ m13 x44 (IntKind.i64.wrap (a + 1)) w10 < m13 next1_2 a w5)) (
  I7 next1_2 (IntKind.i64.wrap (x20 + 1)) w5 ∧ m7 next1_2 (IntKind.i64.wrap (x20 + 1)) w5 < m7 next1 x20 w3)

def V_s_reChoices (Q : Sl → World → Prop) (labels : Int) (size1 : Int) (w : World) : Prop :=
  RUN Tryz.prog (.at .sl) (Instr.buildSlice T.t_sl_sl_int 1 #[(0, .slice none 0 0)]) w fun (x12 : Sl) w1 =>
  ∃ (I3 : Sl → Int → World → Prop) (m3 : Sl → Int → World → Nat), I3 x12 0 w1 ∧ ∀ (out : Sl) (k : Int) w2, I3 out k w2 → ∀ _ _ _ _ _ _ _ _ _ _ _ _ _ _ _ _ _ _ _ _ _ _ _ _ _ _ _ _ _ _ _ _ _ _ _ _ _ _ : Value,
  cond (decide ((k : Int) < size1)) (
  ∃ (I7 : Sl → Int → World → Prop) (m7 : Sl → Int → World → Nat), I7 (⟨none, 0, 0⟩) 0 w2 ∧ ∀ (next1 : Sl) (x20 : Int) w3, I7 next1 x20 w3 → ∀ _ _ _ _ _ _ _ _ _ _ _ _ _ _ _ _ _ _ _ _ _ _ _ _ _ _ _ _ : Value,
  cond (decide ((x20 : Int) < out.len)) (
  IX out x20 1 fun (px22 : Addr) =>
  LD [.sl] px22 w3 fun (x23 : Sl) =>
  cond (decide ((k : Int) > 0)) (
  IX x23 (IntKind.i64.wrap (k - 1)) 1 fun (px29 : Addr) =>
  LD [.int .i64] px29 w3 fun (x30 : Int) =>
  V_s_reChoices_k7 I7 m7 x20 w3 labels next1 x23 x30 w3) (
  V_s_reChoices_k7 I7 m7 x20 w3 labels next1 x23 0 w3)) (
  I3 next1 (IntKind.i64.wrap (k + 1)) w3 ∧ m3 next1 (IntKind.i64.wrap (k + 1)) w3 < m3 out k w2)) (
  Q out w2)

theorem C_s_reChoices {Q : Sl → World → Prop} {labels : Int} {size1 : Int} {w : World} (h : V_s_reChoices Q labels size1 w) : Calls Tryz.prog F.s_reChoices #[.int .i64 labels, .int .i64 size1] w (Ret [.at .sl] Q) :=
  mkC (hint := hint) (ann := annOf [(3, ⟨[(5, .sl), (6, .int .i64)], [7, 9, 10, 11, 13, 14, 15, 16, 17, 18, 19, 20, 21, 22, 23, 24, 25, 26, 27, 28, 29, 30, 31, 32, 33, 34, 35, 36, 37, 38, 39, 40, 41, 42, 43, 44, 45, 46]⟩), (7, ⟨[(7, .sl), (20, .int .i64)], [9, 10, 11, 21, 22, 23, 24, 25, 26, 27, 28, 29, 30, 31, 32, 33, 34, 35, 36, 37, 38, 39, 40, 41, 42, 43, 44, 45]⟩), (13, ⟨[(7, .sl), (11, .int .i64)], [32, 33, 34, 35, 36, 37, 38, 39, 40, 41, 42, 43, 44]⟩)]) (args := [.int .i64 labels, .int .i64 size1]) (rs := [.at .sl]) Tryz.func206 (by kernel_rfl) (by kernel_rfl) h

def V_slices_DeleteFunc_sl_sl_int_sl_int (Q : Sl → World → Prop) (s : Sl) (del : Value) (w : World) : Prop :=
  Calls Tryz.prog F.slices_IndexFunc_sl_sl_int_sl_int #[s.v, del] w (Ret [.at (.int .i64)] fun (x10 : Int) w1 =>
  cond ((x10 : Int) == (-1)) (
  Q s w1) (
  ∃ (I5 : Int → Int → World → Prop) (m5 : Int → Int → World → Nat), I5 x10 (IntKind.i64.wrap (x10 + 1)) w1 ∧ ∀ (i : Int) (j : Int) w2, I5 i j w2 → ∀ _ _ _ _ _ _ _ _ _ _ _ _ _ _ _ _ _ _ _ _ _ : Value,
  cond (decide ((j : Int) < s.len)) (
  IX s j 1 fun (px24 : Addr) =>
  LD [.sl] px24 w2 fun (x25 : Sl) =>
  CALLV Tryz.prog del #[x25.v] w2 (Ret [.at .bool] fun (x28 : Bool) w3 =>
  cond (!x28) (
  IX s i 1 fun (px33 : Addr) =>
  ST px33 0 [x25.v] w3 fun w4 =>
  I5 (IntKind.i64.wrap (i + 1)) (IntKind.i64.wrap (j + 1)) w4 ∧ m5 (IntKind.i64.wrap (i + 1)) (IntKind.i64.wrap (j + 1)) w4 < m5 i j w2) (
  I5 i (IntKind.i64.wrap (j + 1)) w3 ∧ m5 i (IntKind.i64.wrap (j + 1)) w3 < m5 i j w2))) (
  SLC s (some i) none 1 fun (x38 : Sl) =>
  RUN Tryz.prog (.at .val) (bsem .clear #[T.t_sl_sl_int] T.t_unit #[x38.v]) w2 fun (x : Value) w5 =>
  SLC s none (some i) 1 fun (x41 : Sl) =>
  Q x41 w5)))

theorem C_slices_DeleteFunc_sl_sl_int_sl_int {Q : Sl → World → Prop} {s : Sl} {del : Value} {w : World} (h : V_slices_DeleteFunc_sl_sl_int_sl_int Q s del w) : Calls Tryz.prog F.slices_DeleteFunc_sl_sl_int_sl_int #[s.v, del] w (Ret [.at .sl] Q) :=
  mkC (hint := hint) (ann := annOf [(5, ⟨[(5, .int .i64), (6, .int .i64)], [7, 16, 17, 18, 19, 20, 21, 22, 23, 24, 25, 26, 27, 28, 29, 30, 31, 32, 33, 34, 35]⟩)]) (args := [s.v, del]) (rs := [.at .sl]) Tryz.func207 (by kernel_rfl) (by kernel_rfl) h

def V_i_multisets_k7 (I6 : Sl → Int → World → Prop) (m6 : Sl → Int → World → Nat) (x17 : Int) (w3 : World) (labels : Int) (next1 : Sl) (x20 : Sl) (from1 : Int) (w4 : World) : Prop :=
  ∃ (I12 : Sl → Int → World → Prop) (m12 : Sl → Int → World → Nat), I12 next1 from1 w4 ∧ ∀ (next1_2 : Sl) (a : Int) w5, I12 next1_2 a w5 → ∀ _ _ _ _ _ _ _ _ _ _ _ _ _ : Value,
  cond (decide ((a : Int) < labels)) (
  Calls Tryz.prog F.slices_Clone_sl_int_int #[x20.v] w5 (Ret [.at .sl] fun (x38 : Sl) w6 =>
  RUN Tryz.prog (.at .sl) (Instr.buildSlice T.t_sl_int 1 #[(0, .int .i64 a)]) w6 fun (x40 : Sl) w7 =>
  RUN Tryz.prog (.at .sl) (bsem .append #[T.t_sl_int, T.t_sl_int] T.t_sl_int #[x38.v, x40.v]) w7 fun (x41 : Sl) w8 =>
  RUN Tryz.prog (.at .sl) (Instr.buildSlice T.t_sl_sl_int 1 #[(0, x41.v)]) w8 fun (x42 : Sl) w9 =>
  RUN Tryz.prog (.at .sl) (bsem .append #[T.t_sl_sl_int, T.t_sl_sl_int] T.t_sl_sl_int #[next1_2.v, x42.v]) w9 fun (x43 : Sl) w10 =>
  I12 x43 (IntKind.i64.wrap (a + 1)) w10 ∧ m12 x43 (IntKind.i64.wrap (a + 1)) w10 < m12 next1_2 a w5)) (
  I6 next1_2 (IntKind.i64.wrap (x17 + 1)) w5 ∧ m6 next1_2 (IntKind.i64.wrap (x17 + 1)) w5 < m6 next1 x17 w3)

def V_i_multisets (Q : Sl → World → Prop) (labels : Int) (size1 : Int) (w : World) : Prop :=
  RUN Tryz.prog (.at .sl) (Instr.buildSlice T.t_sl_sl_int 1 #[(0, .slice none 0 0)]) w fun (x11 : Sl) w1 =>
  ∃ (I3 : Sl → Int → World → Prop) (m3 : Sl → Int → World → Nat), I3 x11 0 w1 ∧ ∀ (out : Sl) (x13 : Int) w2, I3 out x13 w2 → ∀ _ _ _ _ _ _ _ _ _ _ _ _ _ _ _ _ _ _ _ _ _ _ _ _ _ _ _ _ _ _ _ _ _ _ _ _ _ : Value,
  cond (decide ((x13 : Int) < size1)) (
  ∃ (I6 : Sl → Int → World → Prop) (m6 : Sl → Int → World → Nat), I6 (⟨none, 0, 0⟩) 0 w2 ∧ ∀ (next1 : Sl) (x17 : Int) w3, I6 next1 x17 w3 → ∀ _ _ _ _ _ _ _ _ _ _ _ _ _ _ _ _ _ _ _ _ _ _ _ _ _ _ _ _ _ _ : Value,
  cond (decide ((x17 : Int) < out.len)) (
  IX out x17 1 fun (px19 : Addr) =>
  LD [.sl] px19 w3 fun (x20 : Sl) =>
  cond (decide ((x20.len : Int) > 0)) (
  IX x20 (IntKind.i64.wrap (x20.len - 1)) 1 fun (px28 : Addr) =>
  LD [.int .i64] px28 w3 fun (x29 : Int) =>
  V_i_multisets_k7 I6 m6 x17 w3 labels next1 x20 x29 w3) (
  V_i_multisets_k7 I6 m6 x17 w3 labels next1 x20 0 w3)) (
  I3 next1 (IntKind.i64.wrap (x13 + 1)) w3 ∧ m3 next1 (IntKind.i64.wrap (x13 + 1)) w3 < m3 out x13 w2)) (
  Q out w2)

theorem C_i_multisets {Q : Sl → World → Prop} {labels : Int} {size1 : Int} {w : World} (h : V_i_multisets Q labels size1 w) : Calls Tryz.prog F.i_multisets #[.int .i64 labels, .int .i64 size1] w (Ret [.at .sl] Q) :=
  mkC (hint := hint) (ann := annOf [(3, ⟨[(5, .sl), (13, .int .i64)], [6, 8, 9, 10, 14, 15, 16, 17, 18, 19, 20, 21, 22, 23, 24, 25, 26, 27, 28, 29, 30, 31, 32, 33, 34, 35, 36, 37, 38, 39, 40, 41, 42, 43, 44, 45, 46]⟩), (6, ⟨[(6, .sl), (17, .int .i64)], [8, 9, 10, 18, 19, 20, 21, 22, 23, 24, 25, 26, 27, 28, 29, 30, 31, 32, 33, 34, 35, 36, 37, 38, 39, 40, 41, 42, 43, 44]⟩), (12, ⟨[(6, .sl), (10, .int .i64)], [31, 32, 33, 34, 35, 36, 37, 38, 39, 40, 41, 42, 43]⟩)]) (args := [.int .i64 labels, .int .i64 size1]) (rs := [.at .sl]) Tryz.func208 (by kernel_rfl) (by kernel_rfl) h

def V_i_allowedBy_1 (Q : Bool → World → Prop) (c : Sl) (cap0 : Addr) (w : World) : Prop :=
  LD [.val] cap0 w fun (x4 : Value) =>
  CALLV Tryz.prog x4 #[c.v] w (Ret [.at .bool] fun (x6 : Bool) w1 =>
  Q (!x6) w1)

theorem C_i_allowedBy_1 {Q : Bool → World → Prop} {c : Sl} {cap0 : Addr} {w : World} (h : V_i_allowedBy_1 Q c cap0 w) : Calls Tryz.prog F.i_allowedBy_1 #[c.v, .pointer (some cap0)] w (Ret [.at .bool] Q) :=
  mkC (hint := hint) (ann := annOf []) (args := [c.v, .pointer (some cap0)]) (rs := [.at .bool]) Tryz.func209 (by kernel_rfl) (by kernel_rfl) h

def V_slices_IndexFunc_sl_sl_int_sl_int (Q : Int → World → Prop) (s : Sl) (f : Value) (w : World) : Prop :=
  ∃ (I2 : Int → World → Prop) (m2 : Int → World → Nat), I2 0 w ∧ ∀ (x8 : Int) w1, I2 x8 w1 → ∀ _ _ _ _ _ _ _ _ _ _ _ _ : Value,
  cond (decide ((x8 : Int) < s.len)) (
  IX s x8 1 fun (px14 : Addr) =>
  LD [.sl] px14 w1 fun (x15 : Sl) =>
  CALLV Tryz.prog f #[x15.v] w1 (Ret [.at .bool] fun (x16 : Bool) w2 =>
  cond x16 (
  Q x8 w2) (
  I2 (IntKind.i64.wrap (x8 + 1)) w2 ∧ m2 (IntKind.i64.wrap (x8 + 1)) w2 < m2 x8 w1))) (
  Q (-1) w1)

theorem C_slices_IndexFunc_sl_sl_int_sl_int {Q : Int → World → Prop} {s : Sl} {f : Value} {w : World} (h : V_slices_IndexFunc_sl_sl_int_sl_int Q s f w) : Calls Tryz.prog F.slices_IndexFunc_sl_sl_int_sl_int #[s.v, f] w (Ret [.at (.int .i64)] Q) :=
  mkC (hint := hint) (ann := annOf [(2, ⟨[(8, .int .i64)], [4, 5, 9, 10, 11, 12, 13, 14, 15, 16, 17, 18]⟩)]) (args := [s.v, f]) (rs := [.at (.int .i64)]) Tryz.func210 (by kernel_rfl) (by kernel_rfl) h

def V_s_elTabled_k4 (Q : Int → Int → Sl → Sl → Sl → World → Prop) (p_p : Addr) (px2 : Addr) (x : Addr) (w11 : World) : Prop :=
  LD [.sl] (x.add 4) w11 fun (x24 : Sl) =>
  ∃ (I8 : Int → World → Prop) (m8 : Int → World → Nat), I8 0 w11 ∧ ∀ (x26 : Int) w12, I8 x26 w12 → ∀ _ _ _ _ _ _ _ _ _ _ _ _ _ _ _ _ _ _ _ _ _ _ _ _ _ _ _ _ _ _ : Value,
  cond (decide ((x26 : Int) < x24.len)) (
  ∃ (I12 : Sl → Int → World → Prop) (m12 : Sl → Int → World → Nat), I12 (⟨none, 0, 0⟩) x26 w12 ∧ ∀ (l : Sl) (rest : Int) w13, I12 l rest w13 → ∀ _ _ _ _ _ _ _ _ _ _ _ _ _ _ _ _ : Value,
  LD [.int .i64] (p_p.add 1) w13 fun (x33 : Int) =>
  cond (decide ((l.len : Int) < x33)) (
  LD [.int .i64] (p_p.add 0) w13 fun (x42 : Int) =>
  (x42 : Int) ≠ 0 ∧ (
  RUN Tryz.prog (.at .sl) (Instr.buildSlice T.t_sl_int 1 #[(0, .int .i64 (Int.tmod rest x42))]) w13 fun (x44 : Sl) w14 =>
  RUN Tryz.prog (.at .sl) (bsem .append #[T.t_sl_int, T.t_sl_int] T.t_sl_int #[l.v, x44.v]) w14 fun (x45 : Sl) w15 =>
  LD [.int .i64] (p_p.add 0) w15 fun (x37 : Int) =>
  (x37 : Int) ≠ 0 ∧ (
  I12 x45 (IntKind.i64.wrap (Int.tdiv rest x37)) w15 ∧ m12 x45 (IntKind.i64.wrap (Int.tdiv rest x37)) w15 < m12 l rest w13))) (
  ∀ w16, Ext w13 w16 → w16.heap = w13.heap → ∃ (D16 : Nat → Prop),
  ¬ D16 (x.add 4).block ∧ (
  LD [.sl] (x.add 4) w16 fun (x47 : Sl) =>
  ¬ D16 p_p.block ∧ (
  LD [.int .i64, .int .i64, .sl, .sl] p_p w16 fun (x49_0 : Int) (x49_1 : Int) (x49_2 : Sl) (x49_3 : Sl) =>
  Chg w16 w16 D16 ∧ (
  Calls Tryz.prog F.s_prNode #[.agg #[.int .i64 x49_0, .int .i64 x49_1, x49_2.v, x49_3.v], l.v] w16 (Ret [.at .bool] fun (x51 : Bool) w17 =>
  Chg w16 w17 D16 ∧ (
  IX x47 x26 1 fun (px52 : Addr) =>
  ST px52 0 [.bool x51] w17 fun w18 =>
  I8 (IntKind.i64.wrap (x26 + 1)) w18 ∧ m8 (IntKind.i64.wrap (x26 + 1)) w18 < m8 x26 w12))))))) (
  LD [.int .i64, .int .i64, .sl, .sl, .sl] x w12 fun (x54_0 : Int) (x54_1 : Int) (x54_2 : Sl) (x54_3 : Sl) (x54_4 : Sl) =>
  ST px2 0 [.int .i64 x54_0, .int .i64 x54_1, x54_2.v, x54_3.v, x54_4.v] w12 fun w19 =>
  LD [.int .i64, .int .i64, .sl, .sl, .sl] px2 w19 fun (r0_0 : Int) (r0_1 : Int) (r0_2 : Sl) (r0_3 : Sl) (r0_4 : Sl) =>
  Q r0_0 r0_1 r0_2 r0_3 r0_4 w19)

def V_s_elTabled (Q : Int → Int → Sl → Sl → Sl → World → Prop) (p_0 : Int) (p_1 : Int) (p_2 : Sl) (p_3 : Sl) (w : World) : Prop :=
  NEW T.t_i_Problem #[.int .i64 p_0, .int .i64 p_1, p_2.v, p_3.v] w fun (p_p : Addr) w1 =>
  NEW T.t_s_elTable #[.int .i64 0, .int .i64 0, .slice none 0 0, .slice none 0 0, .slice none 0 0] w1 fun (px2 : Addr) w2 =>
  ∃ (I3 : Int → Int → World → Prop) (m3 : Int → Int → World → Nat), I3 1 0 w2 ∧ ∀ (size1 : Int) (k : Int) w3, I3 size1 k w3 → ∀ _ _ _ _ _ _ _ _ _ _ : Value,
  LD [.int .i64] (p_p.add 1) w3 fun (x11 : Int) =>
  cond (decide ((k : Int) < x11)) (
  LD [.int .i64] (p_p.add 0) w3 fun (x17 : Int) =>
  I3 (IntKind.i64.wrap (size1 * x17)) (IntKind.i64.wrap (k + 1)) w3 ∧ m3 (IntKind.i64.wrap (size1 * x17)) (IntKind.i64.wrap (k + 1)) w3 < m3 size1 k w3) (
  ∀ w4, Ext w3 w4 → w4.heap = w3.heap → ∃ (D4 : Nat → Prop),
  ¬ D4 p_p.block ∧ (
  LD [.int .i64, .int .i64, .sl, .sl] p_p w4 fun (x19_0 : Int) (x19_1 : Int) (x19_2 : Sl) (x19_3 : Sl) =>
  (
  RUN Tryz.prog (.at .sl) (Instr.makeSlice T.t_sl_bool (.int .i64 size1) (.int .i64 size1)) w4 fun (x21 : Sl) w5 =>
  Chg w4 w5 D4 ∧ (
  NEW T.t_s_elTable #[.int .i64 0, .int .i64 0, .slice none 0 0, .slice none 0 0, .slice none 0 0] w5 fun (px : Addr) w6 =>
  Chg w4 w6 D4 ∧ (
  ST px 0 [.int .i64 x19_0, .int .i64 x19_1, x19_2.v, x19_3.v, x21.v] w6 fun w7 =>
  Chg w4 w7 D4 ∧ (
  V_s_elTabled_k4 Q p_p px2 px w7)))) ∧ (
  NEW T.t_s_elTable #[.int .i64 0, .int .i64 0, .slice none 0 0, .slice none 0 0, .slice none 0 0] w4 fun (px_2 : Addr) w8 =>
  Chg w4 w8 D4 ∧ (
  RUN Tryz.prog (.at .sl) (Instr.makeSlice T.t_sl_bool (.int .i64 size1) (.int .i64 size1)) w8 fun (x21_2 : Sl) w9 =>
  Chg w4 w9 D4 ∧ (
  Chg w4 w9 D4 ∧ (
  ST px_2 0 [.int .i64 x19_0, .int .i64 x19_1, x19_2.v, x19_3.v, x21_2.v] w9 fun w10 =>
  Chg w4 w10 D4 ∧ (
  V_s_elTabled_k4 Q p_p px2 px_2 w10)))))))

theorem C_s_elTabled {Q : Int → Int → Sl → Sl → Sl → World → Prop} {p_0 : Int} {p_1 : Int} {p_2 : Sl} {p_3 : Sl} {w : World} (h : V_s_elTabled Q p_0 p_1 p_2 p_3 w) : Calls Tryz.prog F.s_elTabled #[.agg #[.int .i64 p_0, .int .i64 p_1, p_2.v, p_3.v]] w (Ret [.agg [.int .i64, .int .i64, .sl, .sl, .sl]] Q) :=
  mkC (hint := hint) (ann := annOf [(3, ⟨[(3, .int .i64), (4, .int .i64)], [9, 10, 11, 12, 13, 14, 15, 16, 17, 18]⟩), (8, ⟨[(26, .int .i64)], [6, 7, 8, 27, 28, 29, 30, 31, 32, 33, 34, 35, 36, 37, 38, 39, 40, 41, 42, 43, 44, 45, 46, 47, 48, 49, 50, 51, 52, 53]⟩), (12, ⟨[(7, .sl), (8, .int .i64)], [30, 31, 32, 33, 34, 35, 36, 37, 38, 39, 40, 41, 42, 43, 44, 45]⟩)]) (args := [.agg #[.int .i64 p_0, .int .i64 p_1, p_2.v, p_3.v]]) (rs := [.agg [.int .i64, .int .i64, .sl, .sl, .sl]]) Tryz.func211 (by kernel_rfl) (by kernel_rfl) h

def V_s_elTable_rest (Q : Int → World → Prop) (x0_0 : Int) (x0_1 : Int) (x0_2 : Sl) (x0_3 : Sl) (x0_4 : Sl) (x1 : Sl) (x2 : Int) (w : World) : Prop :=
  NEW T.t_s_elTable #[.int .i64 x0_0, .int .i64 x0_1, x0_2.v, x0_3.v, x0_4.v] w fun (px3 : Addr) w1 =>
  cond ((x1.len : Int) == 0) (
  ∃ (I4 : Int → Int → World → Prop) (m4 : Int → Int → World → Nat), I4 0 0 w1 ∧ ∀ (x7 : Int) (x8 : Int) w2, I4 x7 x8 w2 → ∀ _ _ _ _ _ _ _ _ _ _ _ _ _ _ _ _ _ _ _ _ _ _ : Value,
  LD [.int .i64] ((px3.add 0).add 0) w2 fun (x18 : Int) =>
  cond (decide ((x8 : Int) < x18)) (
  LD [.sl] (px3.add 4) w2 fun (x23 : Sl) =>
  LD [.int .i64] ((px3.add 0).add 0) w2 fun (x27 : Int) =>
  IX x23 (IntKind.i64.wrap ((IntKind.i64.wrap (x2 * x27)) + x8)) 1 fun (px31 : Addr) =>
  LD [.bool] px31 w2 fun (x32 : Bool) =>
  cond x32 (
  (0 : Int) ≤ x8 ∧ (
  I4 (IntKind.i64.wrap (x7 + (shlI .i64 1 x8))) (IntKind.i64.wrap (x8 + 1)) w2 ∧ m4 (IntKind.i64.wrap (x7 + (shlI .i64 1 x8))) (IntKind.i64.wrap (x8 + 1)) w2 < m4 x7 x8 w2)) (
  I4 x7 (IntKind.i64.wrap (x8 + 1)) w2 ∧ m4 x7 (IntKind.i64.wrap (x8 + 1)) w2 < m4 x7 x8 w2)) (
  Q x7 w2)) (
  LD [.int .i64] ((px3.add 0).add 0) w1 fun (x40 : Int) =>
  (0 : Int) ≤ x40 ∧ (
  IX x1 0 1 fun (px44 : Addr) =>
  LD [.int .i64] px44 w1 fun (x45 : Int) =>
  Calls Tryz.prog F.s_elLabels #[.int .i64 x45] w1 (Ret [.at .sl] fun (x46 : Sl) w3 =>
  ∃ (I11 : Int → Int → World → Prop) (m11 : Int → Int → World → Nat), I11 (IntKind.i64.wrap ((shlI .i64 1 x40) - 1)) 0 w3 ∧ ∀ (x9 : Int) (x48 : Int) w4, I11 x9 x48 w4 → ∀ _ _ _ _ _ _ _ _ _ _ _ _ _ _ _ _ _ _ _ _ : Value,
  cond (decide ((x48 : Int) < x46.len)) (
  IX x46 x48 1 fun (px50 : Addr) =>
  LD [.int .i64] px50 w4 fun (x51 : Int) =>
  cond (decide ((x9 : Int) > 0)) (
  LD [.int .i64, .int .i64, .sl, .sl, .sl] px3 w4 fun (x55_0 : Int) (x55_1 : Int) (x55_2 : Sl) (x55_3 : Sl) (x55_4 : Sl) =>
  SLC x1 (some 1) none 1 fun (x57 : Sl) =>
  LD [.int .i64] ((px3.add 0).add 0) w4 fun (x61 : Int) =>
  QCALL Tryz.prog F.s_elTable_rest #[.agg #[.int .i64 x55_0, .int .i64 x55_1, x55_2.v, x55_3.v, x55_4.v], x57.v, .int .i64 (IntKind.i64.wrap ((IntKind.i64.wrap (x2 * x61)) + x51))] w4 [.at (.int .i64)] fun (x65 : Int) =>
  ∀ w5, Ext w4 w5 →
  I11 (bitAnd .i64 x9 x65) (IntKind.i64.wrap (x48 + 1)) w5 ∧ m11 (bitAnd .i64 x9 x65) (IntKind.i64.wrap (x48 + 1)) w5 < m11 x9 x48 w4) (
  I11 x9 (IntKind.i64.wrap (x48 + 1)) w4 ∧ m11 x9 (IntKind.i64.wrap (x48 + 1)) w4 < m11 x9 x48 w4)) (
  Q x9 w4))))

theorem C_s_elTable_rest {Q : Int → World → Prop} {x0_0 : Int} {x0_1 : Int} {x0_2 : Sl} {x0_3 : Sl} {x0_4 : Sl} {x1 : Sl} {x2 : Int} {w : World} (h : V_s_elTable_rest Q x0_0 x0_1 x0_2 x0_3 x0_4 x1 x2 w) : Calls Tryz.prog F.s_elTable_rest #[.agg #[.int .i64 x0_0, .int .i64 x0_1, x0_2.v, x0_3.v, x0_4.v], x1.v, .int .i64 x2] w (Ret [.at (.int .i64)] Q) :=
  mkC (hint := hint) (ann := annOf [(4, ⟨[(7, .int .i64), (8, .int .i64)], [15, 16, 17, 18, 19, 20, 21, 22, 23, 24, 25, 26, 27, 28, 29, 30, 31, 32, 33, 34, 35, 36]⟩), (11, ⟨[(9, .int .i64), (48, .int .i64)], [11, 49, 50, 51, 52, 53, 54, 55, 56, 57, 58, 59, 60, 61, 62, 63, 64, 65, 66, 67]⟩)]) (args := [.agg #[.int .i64 x0_0, .int .i64 x0_1, x0_2.v, x0_3.v, x0_4.v], x1.v, .int .i64 x2]) (rs := [.at (.int .i64)]) Tryz.func212 (by kernel_rfl) (by kernel_rfl) h

def V_s_elTable_full (Q : Bool → World → Prop) (x_0 : Int) (x_1 : Int) (x_2 : Sl) (x_3 : Sl) (x_4 : Sl) (sets : Sl) (w : World) : Prop :=
  NEW T.t_s_elTable #[.int .i64 x_0, .int .i64 x_1, x_2.v, x_3.v, x_4.v] w fun (px : Addr) w1 =>
  ∃ (I2 : Int → World → Prop) (m2 : Int → World → Nat), I2 0 w1 ∧ ∀ (x10 : Int) w2, I2 x10 w2 → ∀ _ _ _ _ _ _ _ _ _ _ _ _ _ _ _ _ _ _ _ _ _ _ _ : Value,
  cond (decide ((x10 : Int) < sets.len)) (
  IX sets x10 1 fun (px13 : Addr) =>
  LD [.int .i64] px13 w2 fun (x14 : Int) =>
  ∀ w3, Ext w2 w3 → w3.heap = w2.heap → ∃ (D3 : Nat → Prop),
  SLC sets none (some x10) 1 fun (x17 : Sl) =>
  SLC sets (some (IntKind.i64.wrap (x10 + 1))) none 1 fun (x22 : Sl) =>
  Calls Tryz.prog F.s_l1Own #[x17.v] w3 (Ret [.at .sl] fun (x18 : Sl) w4 =>
  Chg w3 w4 D3 ∧ (
  RUN Tryz.prog (.at .sl) (bsem .append #[T.t_sl_int, T.t_sl_int] T.t_sl_int #[x18.v, x22.v]) w4 fun (x23 : Sl) w5 =>
  Chg w3 w5 D3 ∧ (
  LD [.int .i64, .int .i64, .sl, .sl, .sl] px w5 fun (x24_0 : Int) (x24_1 : Int) (x24_2 : Sl) (x24_3 : Sl) (x24_4 : Sl) =>
  Calls Tryz.prog F.s_elTable_rest #[.agg #[.int .i64 x24_0, .int .i64 x24_1, x24_2.v, x24_3.v, x24_4.v], x23.v, .int .i64 0] w5 (Ret [.at (.int .i64)] fun (x26 : Int) w6 =>
  cond ((x26 : Int) != x14) (
  Q false w6) (
  I2 (IntKind.i64.wrap (x10 + 1)) w6 ∧ m2 (IntKind.i64.wrap (x10 + 1)) w6 < m2 x10 w2)))))) (
  Q true w2)

theorem C_s_elTable_full {Q : Bool → World → Prop} {x_0 : Int} {x_1 : Int} {x_2 : Sl} {x_3 : Sl} {x_4 : Sl} {sets : Sl} {w : World} (h : V_s_elTable_full Q x_0 x_1 x_2 x_3 x_4 sets w) : Calls Tryz.prog F.s_elTable_full #[.agg #[.int .i64 x_0, .int .i64 x_1, x_2.v, x_3.v, x_4.v], sets.v] w (Ret [.at .bool] Q) :=
  mkC (hint := hint) (ann := annOf [(2, ⟨[(10, .int .i64)], [4, 5, 6, 7, 11, 12, 13, 14, 15, 16, 17, 18, 19, 20, 21, 22, 23, 24, 25, 26, 27, 28, 29]⟩)]) (args := [.agg #[.int .i64 x_0, .int .i64 x_1, x_2.v, x_3.v, x_4.v], sets.v]) (rs := [.at .bool]) Tryz.func213 (by kernel_rfl) (by kernel_rfl) h

def V_s_elMade (Q : Int → Int → Sl → Sl → Sl → Bool → World → Prop) (x0_0 : Int) (x0_1 : Int) (x0_2 : Sl) (x0_3 : Sl) (x1 : Sl) (x2 : Bool) (w : World) : Prop :=
  NEW T.t_i_Problem #[.int .i64 x0_0, .int .i64 x0_1, x0_2.v, x0_3.v] w fun (px3 : Addr) w1 =>
  NEW T.t_i_Problem #[.int .i64 0, .int .i64 0, .slice none 0 0, .slice none 0 0] w1 fun (px6 : Addr) w2 =>
  ∃ (I3 : Sl → Int → World → Prop) (m3 : Sl → Int → World → Nat), I3 (⟨none, 0, 0⟩) 0 w2 ∧ ∀ (x9 : Sl) (x20 : Int) w3, I3 x9 x20 w3 → ∀ _ _ _ _ _ _ _ _ _ _ _ _ _ _ _ _ : Value,
  cond (decide ((x20 : Int) < x1.len)) (
  IX x1 x20 1 fun (px22 : Addr) =>
  LD [.sl] px22 w3 fun (x23 : Sl) =>
  ∃ (I6 : Sl → Int → World → Prop) (m6 : Sl → Int → World → Nat), I6 x9 0 w3 ∧ ∀ (x9_2 : Sl) (x26 : Int) w4, I6 x9_2 x26 w4 → ∀ _ _ _ _ _ _ _ _ : Value,
  cond (decide ((x26 : Int) < x23.len)) (
  IX x23 x26 1 fun (px28 : Addr) =>
  LD [.int .i64] px28 w4 fun (x29 : Int) =>
  Calls Tryz.prog F.s_l1Put #[x9_2.v, .int .i64 x29] w4 (Ret [.at .sl] fun (x32 : Sl) w5 =>
  I6 x32 (IntKind.i64.wrap (x26 + 1)) w5 ∧ m6 x32 (IntKind.i64.wrap (x26 + 1)) w5 < m6 x9_2 x26 w4)) (
  I3 x9_2 (IntKind.i64.wrap (x20 + 1)) w4 ∧ m3 x9_2 (IntKind.i64.wrap (x20 + 1)) w4 < m3 x9 x20 w3)) (
  Calls Tryz.prog F.s_l1In #[.int .i64 x9.len, .int .i64 1, .int .i64 8] w3 (Ret [.at .bool] fun (x37 : Bool) w6 =>
  cond (!x37) (
  ST px6 0 [.int .i64 0, .int .i64 0, .slice none 0 0, .slice none 0 0] w6 fun w7 =>
  LD [.int .i64, .int .i64, .sl, .sl] px6 w7 fun (r0_0 : Int) (r0_1 : Int) (r0_2 : Sl) (r0_3 : Sl) =>
  Q r0_0 r0_1 r0_2 r0_3 (⟨none, 0, 0⟩) false w7) (
  LD [.int .i64] (px3.add 1) w6 fun (x43 : Int) =>
  NEW T.t_i_Problem #[.int .i64 0, .int .i64 0, .slice none 0 0, .slice none 0 0] w6 fun (px14 : Addr) w8 =>
  ST px14 0 [.int .i64 x9.len, .int .i64 x43, .slice none 0 0, .slice none 0 0] w8 fun w9 =>
  ∃ (I16 : Sl → Int → World → Prop) (m16 : Sl → Int → World → Nat), I16 (⟨none, 0, 0⟩) 0 w9 ∧ ∀ (x15 : Sl) (x47 : Int) w10, I16 x15 x47 w10 → ∀ _ _ _ _ _ _ _ _ _ _ : Value,
  cond (decide ((x47 : Int) < x1.len)) (
  IX x1 x47 1 fun (px49 : Addr) =>
  LD [.sl] px49 w10 fun (x50 : Sl) =>
  Calls Tryz.prog F.s_elNumbers #[x9.v, x50.v] w10 (Ret [.at .sl] fun (x54 : Sl) w11 =>
  Calls Tryz.prog F.s_prInsert #[x15.v, x54.v] w11 (Ret [.at .sl] fun (x55 : Sl) w12 =>
  I16 x55 (IntKind.i64.wrap (x47 + 1)) w12 ∧ m16 x55 (IntKind.i64.wrap (x47 + 1)) w12 < m16 x15 x47 w10))) (
  cond x2 (
  ST (px14.add 3) 0 [x15.v] w10 fun w13 =>
  LD [.sl] (px3.add 2) w13 fun (x61 : Sl) =>
  LD [.int .i64] (px3.add 1) w13 fun (x64 : Int) =>
  Calls Tryz.prog F.s_elSome #[x61.v, x9.v, .int .i64 x64] w13 (Ret [.at .sl] fun (x65 : Sl) w14 =>
  ST (px14.add 2) 0 [x65.v] w14 fun w15 =>
  LD [.int .i64, .int .i64, .sl, .sl] px14 w15 fun (x74_0 : Int) (x74_1 : Int) (x74_2 : Sl) (x74_3 : Sl) =>
  ST px6 0 [.int .i64 x74_0, .int .i64 x74_1, x74_2.v, x74_3.v] w15 fun w19 =>
  LD [.int .i64, .int .i64, .sl, .sl] px6 w19 fun (r0_0_2 : Int) (r0_1_2 : Int) (r0_2_2 : Sl) (r0_3_2 : Sl) =>
  Q r0_0_2 r0_1_2 r0_2_2 r0_3_2 x9 true w19)) (
  ST (px14.add 2) 0 [x15.v] w10 fun w16 =>
  LD [.sl] (px3.add 3) w16 fun (x70 : Sl) =>
  Calls Tryz.prog F.s_elSome #[x70.v, x9.v, .int .i64 2] w16 (Ret [.at .sl] fun (x72 : Sl) w17 =>
  ST (px14.add 3) 0 [x72.v] w17 fun w18 =>
  LD [.int .i64, .int .i64, .sl, .sl] px14 w18 fun (x74_0_2 : Int) (x74_1_2 : Int) (x74_2_2 : Sl) (x74_3_2 : Sl) =>
  ST px6 0 [.int .i64 x74_0_2, .int .i64 x74_1_2, x74_2_2.v, x74_3_2.v] w18 fun w20 =>
  LD [.int .i64, .int .i64, .sl, .sl] px6 w20 fun (r0_0_3 : Int) (r0_1_3 : Int) (r0_2_3 : Sl) (r0_3_3 : Sl) =>
  Q r0_0_3 r0_1_3 r0_2_3 r0_3_3 x9 true w20))))))

theorem C_s_elMade {Q : Int → Int → Sl → Sl → Sl → Bool → World → Prop} {x0_0 : Int} {x0_1 : Int} {x0_2 : Sl} {x0_3 : Sl} {x1 : Sl} {x2 : Bool} {w : World} (h : V_s_elMade Q x0_0 x0_1 x0_2 x0_3 x1 x2 w) : Calls Tryz.prog F.s_elMade #[.agg #[.int .i64 x0_0, .int .i64 x0_1, x0_2.v, x0_3.v], x1.v, .bool x2] w (Ret [.agg [.int .i64, .int .i64, .sl, .sl], .at .sl, .at .bool] Q) :=
  mkC (hint := hint) (ann := annOf [(3, ⟨[(9, .sl), (20, .int .i64)], [11, 13, 21, 22, 23, 24, 25, 26, 27, 28, 29, 30, 31, 32, 33, 34]⟩), (6, ⟨[(9, .sl), (26, .int .i64)], [13, 27, 28, 29, 30, 31, 32, 33]⟩), (16, ⟨[(15, .sl), (47, .int .i64)], [17, 48, 49, 50, 51, 52, 53, 54, 55, 56]⟩)]) (args := [.agg #[.int .i64 x0_0, .int .i64 x0_1, x0_2.v, x0_3.v], x1.v, .bool x2]) (rs := [.agg [.int .i64, .int .i64, .sl, .sl], .at .sl, .at .bool]) Tryz.func214 (by kernel_rfl) (by kernel_rfl) h

def V_s_elHas (Q : Bool → World → Prop) (set1 : Int) (a : Int) (w : World) : Prop :=
  (0 : Int) ≤ a ∧ (
  (2 : Int) ≠ 0 ∧ (
  Q (((Int.tmod (shrI .i64 set1 a) 2) : Int) == 1) w))

theorem C_s_elHas {Q : Bool → World → Prop} {set1 : Int} {a : Int} {w : World} (h : V_s_elHas Q set1 a w) : Calls Tryz.prog F.s_elHas #[.int .i64 set1, .int .i64 a] w (Ret [.at .bool] Q) :=
  mkC (hint := hint) (ann := annOf []) (args := [.int .i64 set1, .int .i64 a]) (rs := [.at .bool]) Tryz.func218 (by kernel_rfl) (by kernel_rfl) h

def V_i_newLabels (Q : Sl → Sl → World → Prop) (full : Sl) (w : World) : Prop :=
  Calls Tryz.prog F.slices_Concat_sl_int_int #[full.v] w (Ret [.at .sl] fun (x14 : Sl) w1 =>
  Calls Tryz.prog F.slices_Sort_sl_int_int #[x14.v] w1 (Ret [] fun w2 =>
  Calls Tryz.prog F.slices_Compact_sl_int_int #[x14.v] w2 (Ret [.at .sl] fun (x18 : Sl) w3 =>
  ∃ (I6 : Sl → Int → World → Prop) (m6 : Sl → Int → World → Nat), I6 (⟨none, 0, 0⟩) 0 w3 ∧ ∀ (out : Sl) (x21 : Int) w4, I6 out x21 w4 → ∀ _ _ _ _ _ _ _ _ _ _ _ _ _ _ _ _ _ _ _ _ _ _ _ _ _ _ _ _ _ _ _ _ : Value,
  cond (decide ((x21 : Int) < full.len)) (
  IX full x21 1 fun (px23 : Addr) =>
  LD [.sl] px23 w4 fun (x24 : Sl) =>
  ∃ (I10 : Sl → Int → World → Prop) (m10 : Sl → Int → World → Nat), I10 (⟨none, 0, 0⟩) 0 w4 ∧ ∀ (numbers : Sl) (x27 : Int) w5, I10 numbers x27 w5 → ∀ _ _ _ _ _ _ _ _ _ _ _ _ _ _ _ _ _ : Value,
  cond (decide ((x27 : Int) < x24.len)) (
  IX x24 x27 1 fun (px29 : Addr) =>
  LD [.int .i64] px29 w5 fun (x30 : Int) =>
  Calls Tryz.prog F.slices_BinarySearch_sl_int_int #[x18.v, .int .i64 x30] w5 (Ret [.at (.int .i64), .at .bool] fun (x34_0 : Int) (x34_1 : Bool) w6 =>
  RUN Tryz.prog (.at .sl) (Instr.buildSlice T.t_sl_int 1 #[(0, .int .i64 x34_0)]) w6 fun (x39 : Sl) w7 =>
  RUN Tryz.prog (.at .sl) (bsem .append #[T.t_sl_int, T.t_sl_int] T.t_sl_int #[numbers.v, x39.v]) w7 fun (x40 : Sl) w8 =>
  I10 x40 (IntKind.i64.wrap (x27 + 1)) w8 ∧ m10 x40 (IntKind.i64.wrap (x27 + 1)) w8 < m10 numbers x27 w5)) (
  Calls Tryz.prog F.slices_Sort_sl_int_int #[numbers.v] w5 (Ret [] fun w9 =>
  RUN Tryz.prog (.at .sl) (Instr.buildSlice T.t_sl_sl_int 1 #[(0, numbers.v)]) w9 fun (x46 : Sl) w10 =>
  RUN Tryz.prog (.at .sl) (bsem .append #[T.t_sl_sl_int, T.t_sl_sl_int] T.t_sl_sl_int #[out.v, x46.v]) w10 fun (x47 : Sl) w11 =>
  I6 x47 (IntKind.i64.wrap (x21 + 1)) w11 ∧ m6 x47 (IntKind.i64.wrap (x21 + 1)) w11 < m6 out x21 w4))) (
  Calls Tryz.prog F.i_sortedLists #[out.v] w4 (Ret [.at .sl] fun (x51 : Sl) w12 =>
  Q x18 x51 w12)))))

theorem C_i_newLabels {Q : Sl → Sl → World → Prop} {full : Sl} {w : World} (h : V_i_newLabels Q full w) : Calls Tryz.prog F.i_newLabels #[full.v] w (Ret [.at .sl, .at .sl] Q) :=
  mkC (hint := hint) (ann := annOf [(6, ⟨[(5, .sl), (21, .int .i64)], [7, 8, 10, 11, 12, 22, 23, 24, 25, 26, 27, 28, 29, 30, 31, 32, 33, 34, 35, 36, 37, 38, 39, 40, 41, 42, 43, 44, 45, 46, 47, 48]⟩), (10, ⟨[(8, .sl), (27, .int .i64)], [10, 11, 12, 28, 29, 30, 31, 32, 33, 34, 35, 36, 37, 38, 39, 40, 41]⟩)]) (args := [full.v]) (rs := [.at .sl, .at .sl]) Tryz.func220 (by kernel_rfl) (by kernel_rfl) h

def V_i_firstChoice_1 (Q : Bool → World → Prop) (k : Int) (cap0 : Addr) (cap1 : Addr) (cap2 : Addr) (cap3 : Addr) (w : World) : Prop :=
  LD [.sl] cap0 w fun (x10 : Sl) =>
  cond ((k : Int) == x10.len) (
  LD [.val] cap1 w fun (x13 : Value) =>
  LD [.sl] cap2 w fun (x14 : Sl) =>
  CALLV Tryz.prog x13 #[x14.v] w (Ret [.at .bool] fun (x15 : Bool) w1 =>
  Q x15 w1)) (
  LD [.sl] cap0 w fun (x16 : Sl) =>
  IX x16 k 1 fun (px18 : Addr) =>
  LD [.sl] px18 w fun (x19 : Sl) =>
  ∃ (I4 : Int → World → Prop) (m4 : Int → World → Nat), I4 0 w ∧ ∀ (x21 : Int) w2, I4 x21 w2 → ∀ _ _ _ _ _ _ _ _ _ _ _ _ _ _ : Value,
  cond (decide ((x21 : Int) < x19.len)) (
  IX x19 x21 1 fun (px23 : Addr) =>
  LD [.int .i64] px23 w2 fun (x24 : Int) =>
  LD [.sl] cap2 w2 fun (x25 : Sl) =>
  IX x25 k 1 fun (px28 : Addr) =>
  ST px28 0 [.int .i64 x24] w2 fun w3 =>
  LD [.val] cap3 w3 fun (x29 : Value) =>
  CALLV Tryz.prog x29 #[.int .i64 (IntKind.i64.wrap (k + 1))] w3 (Ret [.at .bool] fun (x32 : Bool) w4 =>
  cond x32 (
  Q true w4) (
  I4 (IntKind.i64.wrap (x21 + 1)) w4 ∧ m4 (IntKind.i64.wrap (x21 + 1)) w4 < m4 x21 w2))) (
  Q false w2))

theorem C_i_firstChoice_1 {Q : Bool → World → Prop} {k : Int} {cap0 : Addr} {cap1 : Addr} {cap2 : Addr} {cap3 : Addr} {w : World} (h : V_i_firstChoice_1 Q k cap0 cap1 cap2 cap3 w) : Calls Tryz.prog F.i_firstChoice_1 #[.int .i64 k, .pointer (some cap0), .pointer (some cap1), .pointer (some cap2), .pointer (some cap3)] w (Ret [.at .bool] Q) :=
  mkC (hint := hint) (ann := annOf [(4, ⟨[(21, .int .i64)], [6, 8, 22, 23, 24, 25, 26, 27, 28, 29, 30, 31, 32, 33]⟩)]) (args := [.int .i64 k, .pointer (some cap0), .pointer (some cap1), .pointer (some cap2), .pointer (some cap3)]) (rs := [.at .bool]) Tryz.func223 (by kernel_rfl) (by kernel_rfl) h

def V_i_newNodeSets (Q : Addr → World → Prop) (x0_0 : Int) (x0_1 : Int) (x0_2 : Sl) (x0_3 : Sl) (w : World) : Prop :=
  NEW T.t_i_Problem #[.int .i64 x0_0, .int .i64 x0_1, x0_2.v, x0_3.v] w fun (px1 : Addr) w1 =>
  LD [.int .i64] (px1.add 1) w1 fun (x11 : Int) =>
  ∃ (I3 : Int → Int → World → Prop) (m3 : Int → Int → World → Nat), I3 1 0 w1 ∧ ∀ (x3 : Int) (x13 : Int) w2, I3 x3 x13 w2 → ∀ _ _ _ _ _ _ : Value,
  cond (decide ((x13 : Int) < (IntKind.i64.wrap (x11 - 1)))) (
  LD [.int .i64] (px1.add 0) w2 fun (x17 : Int) =>
  I3 (IntKind.i64.wrap (x3 * x17)) (IntKind.i64.wrap (x13 + 1)) w2 ∧ m3 (IntKind.i64.wrap (x3 * x17)) (IntKind.i64.wrap (x13 + 1)) w2 < m3 x3 x13 w2) (
  ∀ w3, Ext w2 w3 → w3.heap = w2.heap →
  LD [.int .i64, .int .i64, .sl, .sl] px1 w3 fun (x20_0 : Int) (x20_1 : Int) (x20_2 : Sl) (x20_3 : Sl) =>
  Ext w3 w3 ∧ (
  RUN Tryz.prog (.at .sl) (Instr.makeSlice T.t_sl_int (.int .i64 x3) (.int .i64 x3)) w3 fun (x22 : Sl) w4 =>
  Ext w3 w4 ∧ (
  NEW T.t_i_nodeSets #[.int .i64 x20_0, .int .i64 x20_1, x20_2.v, x20_3.v, x22.v] w4 fun (px24 : Addr) w5 =>
  Ext w3 w5 ∧ (
  LD [.sl] (px24.add 4) w5 fun (x28 : Sl) =>
  ∃ (I8 : Int → World → Prop) (m8 : Int → World → Nat), I8 0 w5 ∧ ∀ (x30 : Int) w6, I8 x30 w6 → ∀ _ _ _ _ _ _ _ _ _ _ _ _ _ _ _ _ _ _ _ _ _ _ _ _ _ _ _ _ _ _ _ _ _ _ _ _ _ _ _ _ _ _ _ _ _ _ _ _ _ _ _ _ _ _ _ _ : Value,
  cond (decide ((x30 : Int) < x28.len)) (
  LD [.int .i64] (px1.add 1) w6 fun (x34 : Int) =>
  RUN Tryz.prog (.at .sl) (Instr.makeSlice T.t_sl_int (.int .i64 x34) (.int .i64 x34)) w6 fun (x35 : Sl) w7 =>
  LD [.int .i64] (px1.add 1) w7 fun (x38 : Int) =>
  ∃ (I13 : Int → Int → World → Prop) (m13 : Int → Int → World → Nat), I13 x30 0 w7 ∧ ∀ (x7 : Int) (x40 : Int) w8, I13 x7 x40 w8 → ∀ _ _ _ _ _ _ _ _ _ _ _ _ _ _ _ : Value,
  cond (decide ((x40 : Int) < (IntKind.i64.wrap (x38 - 1)))) (
  LD [.int .i64] (px1.add 0) w8 fun (x47 : Int) =>
  (x47 : Int) ≠ 0 ∧ (
  IX x35 x40 1 fun (px49 : Addr) =>
  ST px49 0 [.int .i64 (Int.tmod x7 x47)] w8 fun w9 =>
  LD [.int .i64] (px1.add 0) w9 fun (x52 : Int) =>
  (x52 : Int) ≠ 0 ∧ (
  I13 (IntKind.i64.wrap (Int.tdiv x7 x52)) (IntKind.i64.wrap (x40 + 1)) w9 ∧ m13 (IntKind.i64.wrap (Int.tdiv x7 x52)) (IntKind.i64.wrap (x40 + 1)) w9 < m13 x7 x40 w8))) (
  LD [.int .i64] (px1.add 0) w8 fun (x56 : Int) =>
  ∃ (I19 : Int → World → Prop) (m19 : Int → World → Nat), I19 0 w8 ∧ ∀ (x57 : Int) w10, I19 x57 w10 → ∀ _ _ _ _ _ _ _ _ _ _ _ _ _ _ _ _ _ _ _ _ _ _ _ _ : Value,
  cond (decide ((x57 : Int) < x56)) (
  LD [.int .i64] (px1.add 1) w10 fun (x62 : Int) =>
  IX x35 (IntKind.i64.wrap (x62 - 1)) 1 fun (px65 : Addr) =>
  ST px65 0 [.int .i64 x57] w10 fun w11 =>
  LD [.int .i64, .int .i64, .sl, .sl] px1 w11 fun (x66_0 : Int) (x66_1 : Int) (x66_2 : Sl) (x66_3 : Sl) =>
  Calls Tryz.prog F.i_Problem_node #[.agg #[.int .i64 x66_0, .int .i64 x66_1, x66_2.v, x66_3.v], x35.v] w11 (Ret [.at .bool] fun (x68 : Bool) w12 =>
  cond x68 (
  ∀ w13, Ext w12 w13 → w13.heap = w12.heap → ∃ (D13 : Nat → Prop),
  (0 : Int) ≤ x57 ∧ (
  Chg w13 w13 D13 ∧ (
  Chg w13 w13 D13 ∧ (
  LD [.sl] (px24.add 4) w13 fun (x72 : Sl) =>
  Chg w13 w13 D13 ∧ (
  IX x72 x30 1 fun (px74 : Addr) =>
  Chg w13 w13 D13 ∧ (
  LD [.int .i64] px74 w13 fun (x75 : Int) =>
  Chg w13 w13 D13 ∧ (
  Chg w13 w13 D13 ∧ (
  IX x72 x30 1 fun (px79 : Addr) =>
  ST px79 0 [.int .i64 (bitOr .i64 x75 (shlI .i64 1 x57))] w13 fun w14 =>
  I19 (IntKind.i64.wrap (x57 + 1)) w14 ∧ m19 (IntKind.i64.wrap (x57 + 1)) w14 < m19 x57 w10)))))))) (
  I19 (IntKind.i64.wrap (x57 + 1)) w12 ∧ m19 (IntKind.i64.wrap (x57 + 1)) w12 < m19 x57 w10))) (
  I8 (IntKind.i64.wrap (x30 + 1)) w10 ∧ m8 (IntKind.i64.wrap (x30 + 1)) w10 < m8 x30 w6))) (
  Q px24 w6)))))

theorem C_i_newNodeSets {Q : Addr → World → Prop} {x0_0 : Int} {x0_1 : Int} {x0_2 : Sl} {x0_3 : Sl} {w : World} (h : V_i_newNodeSets Q x0_0 x0_1 x0_2 x0_3 w) : Calls Tryz.prog F.i_newNodeSets #[.agg #[.int .i64 x0_0, .int .i64 x0_1, x0_2.v, x0_3.v]] w (Ret [.at .ptr] Q) :=
  mkC (hint := hint) (ann := annOf [(3, ⟨[(3, .int .i64), (13, .int .i64)], [14, 15, 16, 17, 18, 19]⟩), (8, ⟨[(30, .int .i64)], [5, 6, 7, 8, 9, 31, 32, 33, 34, 35, 36, 37, 38, 39, 40, 41, 42, 43, 44, 45, 46, 47, 48, 49, 50, 51, 52, 53, 54, 55, 56, 57, 58, 59, 60, 61, 62, 63, 64, 65, 66, 67, 68, 69, 70, 71, 72, 73, 74, 75, 76, 77, 78, 79, 80, 81]⟩), (13, ⟨[(7, .int .i64), (40, .int .i64)], [8, 41, 42, 43, 44, 45, 46, 47, 48, 49, 50, 51, 52, 53, 54]⟩), (19, ⟨[(57, .int .i64)], [9, 58, 59, 60, 61, 62, 63, 64, 65, 66, 67, 68, 69, 70, 71, 72, 73, 74, 75, 76, 77, 78, 79, 80]⟩)]) (args := [.agg #[.int .i64 x0_0, .int .i64 x0_1, x0_2.v, x0_3.v]]) (rs := [.at .ptr]) Tryz.func224 (by kernel_rfl) (by kernel_rfl) h

def V_ptr_i_nodeSets_fullLists_k2 (Q : Sl → World → Prop) (x0 : Addr) (x23_3 : Sl) (x24 : Int) (w4 : World) : Prop :=
  ∃ (I3 : Sl → Int → World → Prop) (m3 : Sl → Int → World → Nat), I3 (⟨none, 0, 0⟩) 0 w4 ∧ ∀ (x3 : Sl) (x25 : Int) w5, I3 x3 x25 w5 → ∀ _ _ _ _ _ _ _ _ _ _ _ _ _ _ _ _ _ _ _ _ _ _ _ _ _ _ _ _ _ _ _ _ _ _ _ _ _ _ _ _ _ _ _ _ : Value,
  cond (decide ((x25 : Int) < x24)) (
  IX x23_3 x25 1 fun (px27 : Addr) =>
  LD [.sl] px27 w5 fun (x28 : Sl) =>
  LD [.int .i64] ((x0.add 0).add 1) w5 fun (x33 : Int) =>
  RUN Tryz.prog (.at .sl) (Instr.makeSlice T.t_sl_int (.int .i64 0) (.int .i64 x33)) w5 fun (x34 : Sl) w6 =>
  ∃ (I7 : Sl → Int → World → Prop) (m7 : Sl → Int → World → Nat), I7 x34 0 w6 ∧ ∀ (x6 : Sl) (x37 : Int) w7, I7 x6 x37 w7 → ∀ _ _ _ _ _ _ _ _ _ _ : Value,
  cond (decide ((x37 : Int) < x28.len)) (
  IX x28 x37 1 fun (px39 : Addr) =>
  LD [.int .i64] px39 w7 fun (x40 : Int) =>
  RUN Tryz.prog (.at .sl) (Instr.buildSlice T.t_sl_int 1 #[(0, .int .i64 (IntKind.i64.wrap (x40 + 1)))]) w7 fun (x44 : Sl) w8 =>
  RUN Tryz.prog (.at .sl) (bsem .append #[T.t_sl_int, T.t_sl_int] T.t_sl_int #[x6.v, x44.v]) w8 fun (x45 : Sl) w9 =>
  I7 x45 (IntKind.i64.wrap (x37 + 1)) w9 ∧ m7 x45 (IntKind.i64.wrap (x37 + 1)) w9 < m7 x6 x37 w7) (
  Calls Tryz.prog F.ptr_i_nodeSets_completing #[.pointer (some x0), x6.v] w7 (Ret [.at (.int .i64)] fun (x49 : Int) w10 =>
  cond ((x49 : Int) == 0) (
  I3 x3 (IntKind.i64.wrap (x25 + 1)) w10 ∧ m3 x3 (IntKind.i64.wrap (x25 + 1)) w10 < m3 x3 x25 w5) (
  RUN Tryz.prog (.at .sl) (Instr.buildSlice T.t_sl_int 1 #[(0, .int .i64 x49)]) w10 fun (x54 : Sl) w11 =>
  RUN Tryz.prog (.at .sl) (bsem .append #[T.t_sl_int, T.t_sl_int] T.t_sl_int #[x6.v, x54.v]) w11 fun (x55 : Sl) w12 =>
  Calls Tryz.prog F.ptr_i_nodeSets_isFull #[.pointer (some x0), x55.v] w12 (Ret [.at .bool] fun (x58 : Bool) w13 =>
  cond x58 (
  Calls Tryz.prog F.slices_Sort_sl_int_int #[x55.v] w13 (Ret [] fun w14 =>
  RUN Tryz.prog (.at .sl) (Instr.buildSlice T.t_sl_sl_int 1 #[(0, x55.v)]) w14 fun (x63 : Sl) w15 =>
  RUN Tryz.prog (.at .sl) (bsem .append #[T.t_sl_sl_int, T.t_sl_sl_int] T.t_sl_sl_int #[x3.v, x63.v]) w15 fun (x64 : Sl) w16 =>
  I3 x64 (IntKind.i64.wrap (x25 + 1)) w16 ∧ m3 x64 (IntKind.i64.wrap (x25 + 1)) w16 < m3 x3 x25 w5)) (
  I3 x3 (IntKind.i64.wrap (x25 + 1)) w13 ∧ m3 x3 (IntKind.i64.wrap (x25 + 1)) w13 < m3 x3 x25 w5)))))) (
  Calls Tryz.prog F.i_sortedLists #[x3.v] w5 (Ret [.at .sl] fun (x67_3 : Sl) w19 =>
  Q x67_3 w19))

def V_ptr_i_nodeSets_fullLists (Q : Sl → World → Prop) (x0 : Addr) (w : World) : Prop :=
  ∀ w1, Ext w w1 → w1.heap = w.heap →
  (
  Ext w1 w1 ∧ (
  LD [.int .i64] ((x0.add 0).add 0) w1 fun (x14 : Int) =>
  (0 : Int) ≤ x14 ∧ (
  Ext w1 w1 ∧ (
  Ext w1 w1 ∧ (
  Ext w1 w1 ∧ (
  LD [.int .i64] ((x0.add 0).add 1) w1 fun (x21 : Int) =>
  Ext w1 w1 ∧ (
  Ext w1 w1 ∧ (
  Calls Tryz.prog F.i_multisets #[.int .i64 (IntKind.i64.wrap ((shlI .i64 1 x14) - 1)), .int .i64 (IntKind.i64.wrap (x21 - 1))] w1 (Ret [.at .sl] fun (x23 : Sl) w2 =>
  Ext w1 w2 ∧ (
  Ext w2 w2 ∧ (
  V_ptr_i_nodeSets_fullLists_k2 Q x0 x23 x23.len w2))))))))))) ∧ (
  Ext w1 w1 ∧ (
  LD [.int .i64] ((x0.add 0).add 1) w1 fun (x21_2 : Int) =>
  Ext w1 w1 ∧ (
  Ext w1 w1 ∧ (
  Ext w1 w1 ∧ (
  LD [.int .i64] ((x0.add 0).add 0) w1 fun (x14_2 : Int) =>
  Ext w1 w1 ∧ (
  (0 : Int) ≤ x14_2 ∧ (
  Ext w1 w1 ∧ (
  Ext w1 w1 ∧ (
  Calls Tryz.prog F.i_multisets #[.int .i64 (IntKind.i64.wrap ((shlI .i64 1 x14_2) - 1)), .int .i64 (IntKind.i64.wrap (x21_2 - 1))] w1 (Ret [.at .sl] fun (x23_2 : Sl) w3 =>
  Ext w1 w3 ∧ (
  Ext w3 w3 ∧ (
  V_ptr_i_nodeSets_fullLists_k2 Q x0 x23_2 x23_2.len w3))))))))))))

theorem C_ptr_i_nodeSets_fullLists {Q : Sl → World → Prop} {x0 : Addr} {w : World} (h : V_ptr_i_nodeSets_fullLists Q x0 w) : Calls Tryz.prog F.ptr_i_nodeSets_fullLists #[.pointer (some x0)] w (Ret [.at .sl] Q) :=
  mkC (hint := hint) (ann := annOf [(3, ⟨[(3, .sl), (25, .int .i64)], [5, 6, 8, 9, 26, 27, 28, 29, 30, 31, 32, 33, 34, 35, 36, 37, 38, 39, 40, 41, 42, 43, 44, 45, 46, 47, 48, 49, 50, 51, 52, 53, 54, 55, 56, 57, 58, 59, 60, 61, 62, 63, 64, 65]⟩), (7, ⟨[(6, .sl), (37, .int .i64)], [8, 38, 39, 40, 41, 42, 43, 44, 45, 46]⟩)]) (args := [.pointer (some x0)]) (rs := [.at .sl]) Tryz.func225 (by kernel_rfl) (by kernel_rfl) h

def V_i_nodeStep_1 (Q : Bool → World → Prop) (c : Sl) (cap0 : Addr) (cap1 : Addr) (w : World) : Prop :=
  ∀ w1, Ext w w1 → w1.heap = w.heap →
  LD [.int .i64, .int .i64, .sl, .sl] cap0 w1 fun (x8_0 : Int) (x8_1 : Int) (x8_2 : Sl) (x8_3 : Sl) =>
  LD [.sl] cap1 w1 fun (x9 : Sl) =>
  Ext w1 w1 ∧ (
  Calls Tryz.prog F.i_listsOf #[x9.v, c.v] w1 (Ret [.at .sl] fun (x11 : Sl) w2 =>
  Ext w1 w2 ∧ (
  Calls Tryz.prog F.i_Problem_edgeChoice #[.agg #[.int .i64 x8_0, .int .i64 x8_1, x8_2.v, x8_3.v], x11.v] w2 (Ret [.at .sl, .at .bool] fun (x12_0 : Sl) (x12_1 : Bool) w3 =>
  Ext w1 w3 ∧ (
  Ext w1 w3 ∧ (
  Ext w1 w3 ∧ (
  Q x12_1 w3)))))))

theorem C_i_nodeStep_1 {Q : Bool → World → Prop} {c : Sl} {cap0 : Addr} {cap1 : Addr} {w : World} (h : V_i_nodeStep_1 Q c cap0 cap1 w) : Calls Tryz.prog F.i_nodeStep_1 #[c.v, .pointer (some cap0), .pointer (some cap1)] w (Ret [.at .bool] Q) :=
  mkC (hint := hint) (ann := annOf []) (args := [c.v, .pointer (some cap0), .pointer (some cap1)]) (rs := [.at .bool]) Tryz.func226 (by kernel_rfl) (by kernel_rfl) h

end Go.Proofs.YtlmiookpmneicaaGreat
end

section
/- What each function's code computes to. Printed by a program. -/
namespace Go.Proofs.YtlmiookpmneicaaGreat
open Go.GX Go.RowKit
set_option linter.unusedVariables false
set_option maxRecDepth 100000

def V_s_prOrder (Q : Int → World → Prop) (a : Sl) (b : Sl) (w : World) : Prop :=
  ∃ (I2 : Int → World → Prop) (m2 : Int → World → Nat), I2 0 w ∧ ∀ (x9 : Int) w1, I2 x9 w1 → ∀ _ _ _ _ _ _ _ _ _ _ _ _ _ _ _ _ _ _ _ _ _ : Value,
  cond (decide ((x9 : Int) < a.len)) (
  IX a x9 1 fun (px12 : Addr) =>
  LD [.int .i64] px12 w1 fun (x13 : Int) =>
  IX b x9 1 fun (px17 : Addr) =>
  LD [.int .i64] px17 w1 fun (x18 : Int) =>
  cond ((x13 : Int) != x18) (
  IX b x9 1 fun (px23 : Addr) =>
  LD [.int .i64] px23 w1 fun (x24 : Int) =>
  Calls Tryz.prog F.s_l1Sign #[.int .i64 (IntKind.i64.wrap (x13 - x24))] w1 (Ret [.at (.int .i64)] fun (x26 : Int) w2 =>
  Q x26 w2)) (
  I2 (IntKind.i64.wrap (x9 + 1)) w1 ∧ m2 (IntKind.i64.wrap (x9 + 1)) w1 < m2 x9 w1)) (
  Q 0 w1)

theorem C_s_prOrder {Q : Int → World → Prop} {a : Sl} {b : Sl} {w : World} (h : V_s_prOrder Q a b w) : Calls Tryz.prog F.s_prOrder #[a.v, b.v] w (Ret [.at (.int .i64)] Q) :=
  mkC (hint := hint) (ann := annOf [(2, ⟨[(9, .int .i64)], [4, 5, 6, 10, 11, 12, 13, 14, 15, 16, 17, 18, 19, 20, 21, 22, 23, 24, 25, 26, 27]⟩)]) (args := [a.v, b.v]) (rs := [.at (.int .i64)]) Tryz.func236 (by kernel_rfl) (by kernel_rfl) h

def V_s_l1Has (Q : Bool → World → Prop) (l : Sl) (n : Int) (w : World) : Prop :=
  ∃ (I2 : Int → World → Prop) (m2 : Int → World → Nat), I2 0 w ∧ ∀ (x9 : Int) w1, I2 x9 w1 → ∀ _ _ _ _ _ _ _ _ _ : Value,
  cond (decide ((x9 : Int) < l.len)) (
  IX l x9 1 fun (px11 : Addr) =>
  LD [.int .i64] px11 w1 fun (x12 : Int) =>
  cond ((x12 : Int) == n) (
  Q true w1) (
  I2 (IntKind.i64.wrap (x9 + 1)) w1 ∧ m2 (IntKind.i64.wrap (x9 + 1)) w1 < m2 x9 w1)) (
  Q false w1)

theorem C_s_l1Has {Q : Bool → World → Prop} {l : Sl} {n : Int} {w : World} (h : V_s_l1Has Q l n w) : Calls Tryz.prog F.s_l1Has #[l.v, .int .i64 n] w (Ret [.at .bool] Q) :=
  mkC (hint := hint) (ann := annOf [(2, ⟨[(9, .int .i64)], [4, 6, 10, 11, 12, 13, 14, 15, 16]⟩)]) (args := [l.v, .int .i64 n]) (rs := [.at .bool]) Tryz.func237 (by kernel_rfl) (by kernel_rfl) h

def V_slices_IsSorted_sl_int_int (Q : Bool → World → Prop) (x : Sl) (w : World) : Prop :=
  ∃ (I2 : Int → World → Prop) (m2 : Int → World → Nat), I2 (IntKind.i64.wrap (x.len - 1)) w ∧ ∀ (i : Int) w1, I2 i w1 → ∀ _ _ _ _ _ _ _ _ _ _ _ _ _ _ _ : Value,
  cond (decide ((i : Int) > 0)) (
  IX x i 1 fun (px13 : Addr) =>
  LD [.int .i64] px13 w1 fun (x14 : Int) =>
  IX x (IntKind.i64.wrap (i - 1)) 1 fun (px18 : Addr) =>
  LD [.int .i64] px18 w1 fun (x19 : Int) =>
  QCALL Tryz.prog F.cmp_Less_int #[.int .i64 x14, .int .i64 x19] w1 [.at .bool] fun (x20 : Bool) =>
  ∀ w2, Ext w1 w2 →
  cond x20 (
  Q false w2) (
  I2 (IntKind.i64.wrap (i - 1)) w2 ∧ m2 (IntKind.i64.wrap (i - 1)) w2 < m2 i w1)) (
  Q true w1)

theorem C_slices_IsSorted_sl_int_int {Q : Bool → World → Prop} {x : Sl} {w : World} (h : V_slices_IsSorted_sl_int_int Q x w) : Calls Tryz.prog F.slices_IsSorted_sl_int_int #[x.v] w (Ret [.at .bool] Q) :=
  mkC (hint := hint) (ann := annOf [(2, ⟨[(3, .int .i64)], [2, 7, 8, 9, 10, 11, 12, 13, 14, 15, 16, 17, 18, 19, 20]⟩)]) (args := [x.v]) (rs := [.at .bool]) Tryz.func238 (by kernel_rfl) (by kernel_rfl) h

def V_slices_ContainsFunc_sl_int_int (Q : Bool → World → Prop) (s : Sl) (f : Value) (w : World) : Prop :=
  Calls Tryz.prog F.slices_IndexFunc_sl_int_int #[s.v, f] w (Ret [.at (.int .i64)] fun (x7 : Int) w1 =>
  Q (decide ((x7 : Int) ≥ 0)) w1)

theorem C_slices_ContainsFunc_sl_int_int {Q : Bool → World → Prop} {s : Sl} {f : Value} {w : World} (h : V_slices_ContainsFunc_sl_int_int Q s f w) : Calls Tryz.prog F.slices_ContainsFunc_sl_int_int #[s.v, f] w (Ret [.at .bool] Q) :=
  mkC (hint := hint) (ann := annOf []) (args := [s.v, f]) (rs := [.at .bool]) Tryz.func239 (by kernel_rfl) (by kernel_rfl) h

def V_i_allWithin_1 (Q : Bool → World → Prop) (n : Int) (cap0 : Addr) (cap1 : Addr) (w : World) : Prop :=
  LD [.int .i64] cap0 w fun (x6 : Int) =>
  LD [.int .i64] cap1 w fun (x7 : Int) =>
  Calls Tryz.prog F.i_within #[.int .i64 n, .int .i64 x6, .int .i64 x7] w (Ret [.at .bool] fun (x8 : Bool) w1 =>
  Q (!x8) w1)

theorem C_i_allWithin_1 {Q : Bool → World → Prop} {n : Int} {cap0 : Addr} {cap1 : Addr} {w : World} (h : V_i_allWithin_1 Q n cap0 cap1 w) : Calls Tryz.prog F.i_allWithin_1 #[.int .i64 n, .pointer (some cap0), .pointer (some cap1)] w (Ret [.at .bool] Q) :=
  mkC (hint := hint) (ann := annOf []) (args := [.int .i64 n, .pointer (some cap0), .pointer (some cap1)]) (rs := [.at .bool]) Tryz.func240 (by kernel_rfl) (by kernel_rfl) h

def V_s_l1Put_k4 (l : Sl) (n : Int) (Q : Sl → World → Prop) (k : Int) (w3 : World) : Prop :=
  RUN Tryz.prog (.at .sl) (Instr.buildSlice T.t_sl_int 0 #[]) w3 fun (x34 : Sl) w4 =>
  SLC l none (some k) 1 fun (x37 : Sl) =>
  RUN Tryz.prog (.at .sl) (bsem .append #[T.t_sl_int, T.t_sl_int] T.t_sl_int #[x34.v, x37.v]) w4 fun (x38 : Sl) w5 =>
  RUN Tryz.prog (.at .sl) (Instr.buildSlice T.t_sl_int 1 #[(0, .int .i64 n)]) w5 fun (x41 : Sl) w6 =>
  RUN Tryz.prog (.at .sl) (bsem .append #[T.t_sl_int, T.t_sl_int] T.t_sl_int #[x38.v, x41.v]) w6 fun (x42 : Sl) w7 =>
  SLC l (some k) none 1 fun (x46 : Sl) =>
  RUN Tryz.prog (.at .sl) (bsem .append #[T.t_sl_int, T.t_sl_int] T.t_sl_int #[x42.v, x46.v]) w7 fun (x47 : Sl) w8 =>
  Q x47 w8

def V_s_l1Put_k1 (l : Sl) (n : Int) (Q : Sl → World → Prop) (k : Int) (w2 : World) : Prop :=
  cond (decide ((k : Int) < l.len)) (
  IX l k 1 fun (px28 : Addr) =>
  LD [.int .i64] px28 w2 fun (x29 : Int) =>
  cond ((x29 : Int) == n) (
  Q l w2) (
  V_s_l1Put_k4 l n Q k w2)) (
  V_s_l1Put_k4 l n Q k w2)

def V_s_l1Put (Q : Sl → World → Prop) (l : Sl) (n : Int) (w : World) : Prop :=
  ∃ (I2 : Int → World → Prop) (m2 : Int → World → Nat), I2 0 w ∧ ∀ (k : Int) w1, I2 k w1 → ∀ _ _ _ _ _ _ _ _ _ _ _ _ _ _ : Value,
  cond (decide ((k : Int) < l.len)) (
  IX l k 1 fun (px14 : Addr) =>
  LD [.int .i64] px14 w1 fun (x15 : Int) =>
  cond (decide ((x15 : Int) < n)) (
  I2 (IntKind.i64.wrap (k + 1)) w1 ∧ m2 (IntKind.i64.wrap (k + 1)) w1 < m2 k w1) (
  V_s_l1Put_k1 l n Q k w1)) (
  V_s_l1Put_k1 l n Q k w1)

theorem C_s_l1Put {Q : Sl → World → Prop} {l : Sl} {n : Int} {w : World} (h : V_s_l1Put Q l n w) : Calls Tryz.prog F.s_l1Put #[l.v, .int .i64 n] w (Ret [.at .sl] Q) :=
  mkC (hint := hint) (ann := annOf [(2, ⟨[(5, .int .i64)], [7, 8, 9, 10, 11, 12, 13, 14, 15, 16, 17, 18, 19, 20]⟩)]) (args := [l.v, .int .i64 n]) (rs := [.at .sl]) Tryz.func253 (by kernel_rfl) (by kernel_rfl) h

def V_s_prInsert_k4 (l : Sl) (x : Sl) (Q : Sl → World → Prop) (k : Int) (w5 : World) : Prop :=
  RUN Tryz.prog (.at .sl) (Instr.buildSlice T.t_sl_sl_int 0 #[]) w5 fun (x35 : Sl) w6 =>
  SLC l none (some k) 1 fun (x38 : Sl) =>
  RUN Tryz.prog (.at .sl) (bsem .append #[T.t_sl_sl_int, T.t_sl_sl_int] T.t_sl_sl_int #[x35.v, x38.v]) w6 fun (x39 : Sl) w7 =>
  RUN Tryz.prog (.at .sl) (Instr.buildSlice T.t_sl_sl_int 1 #[(0, x.v)]) w7 fun (x42 : Sl) w8 =>
  RUN Tryz.prog (.at .sl) (bsem .append #[T.t_sl_sl_int, T.t_sl_sl_int] T.t_sl_sl_int #[x39.v, x42.v]) w8 fun (x43 : Sl) w9 =>
  SLC l (some k) none 1 fun (x47 : Sl) =>
  RUN Tryz.prog (.at .sl) (bsem .append #[T.t_sl_sl_int, T.t_sl_sl_int] T.t_sl_sl_int #[x43.v, x47.v]) w9 fun (x48 : Sl) w10 =>
  Q x48 w10

def V_s_prInsert_k1 (l : Sl) (x : Sl) (Q : Sl → World → Prop) (k : Int) (w3 : World) : Prop :=
  cond (decide ((k : Int) < l.len)) (
  IX l k 1 fun (px29 : Addr) =>
  LD [.sl] px29 w3 fun (x30 : Sl) =>
  Calls Tryz.prog F.s_l1Same #[x30.v, x.v] w3 (Ret [.at .bool] fun (x32 : Bool) w4 =>
  cond x32 (
  Q l w4) (
  V_s_prInsert_k4 l x Q k w4))) (
  V_s_prInsert_k4 l x Q k w3)

def V_s_prInsert (Q : Sl → World → Prop) (l : Sl) (x : Sl) (w : World) : Prop :=
  ∃ (I2 : Int → World → Prop) (m2 : Int → World → Nat), I2 0 w ∧ ∀ (k : Int) w1, I2 k w1 → ∀ _ _ _ _ _ _ _ _ _ _ _ _ _ _ _ : Value,
  cond (decide ((k : Int) < l.len)) (
  IX l k 1 fun (px14 : Addr) =>
  LD [.sl] px14 w1 fun (x15 : Sl) =>
  Calls Tryz.prog F.s_prOrder #[x15.v, x.v] w1 (Ret [.at (.int .i64)] fun (x17 : Int) w2 =>
  cond (decide ((x17 : Int) < 0)) (
  I2 (IntKind.i64.wrap (k + 1)) w2 ∧ m2 (IntKind.i64.wrap (k + 1)) w2 < m2 k w1) (
  V_s_prInsert_k1 l x Q k w2))) (
  V_s_prInsert_k1 l x Q k w1)

theorem C_s_prInsert {Q : Sl → World → Prop} {l : Sl} {x : Sl} {w : World} (h : V_s_prInsert Q l x w) : Calls Tryz.prog F.s_prInsert #[l.v, x.v] w (Ret [.at .sl] Q) :=
  mkC (hint := hint) (ann := annOf [(2, ⟨[(5, .int .i64)], [7, 8, 9, 10, 11, 12, 13, 14, 15, 16, 17, 18, 19, 20, 21]⟩)]) (args := [l.v, x.v]) (rs := [.at .sl]) Tryz.func254 (by kernel_rfl) (by kernel_rfl) h

def V_s_elNumbers (Q : Sl → World → Prop) (sets : Sl) (x : Sl) (w : World) : Prop :=
  ∃ (I3 : Sl → Int → World → Prop) (m3 : Sl → Int → World → Nat), I3 (⟨none, 0, 0⟩) 0 w ∧ ∀ (out : Sl) (x12 : Int) w1, I3 out x12 w1 → ∀ _ _ _ _ _ _ _ _ _ _ _ _ _ _ _ _ _ _ _ _ _ _ : Value,
  cond (decide ((x12 : Int) < x.len)) (
  IX x x12 1 fun (px14 : Addr) =>
  LD [.int .i64] px14 w1 fun (x15 : Int) =>
  ∃ (I6 : Sl → Int → World → Prop) (m6 : Sl → Int → World → Nat), I6 out 0 w1 ∧ ∀ (out_2 : Sl) (x18 : Int) w2, I6 out_2 x18 w2 → ∀ _ _ _ _ _ _ _ _ _ _ _ _ _ _ : Value,
  cond (decide ((x18 : Int) < sets.len)) (
  IX sets x18 1 fun (px21 : Addr) =>
  LD [.int .i64] px21 w2 fun (x22 : Int) =>
  cond ((x15 : Int) == x22) (
  RUN Tryz.prog (.at .sl) (Instr.buildSlice T.t_sl_int 1 #[(0, .int .i64 x18)]) w2 fun (x28 : Sl) w3 =>
  RUN Tryz.prog (.at .sl) (bsem .append #[T.t_sl_int, T.t_sl_int] T.t_sl_int #[out_2.v, x28.v]) w3 fun (x29 : Sl) w4 =>
  I6 x29 (IntKind.i64.wrap (x18 + 1)) w4 ∧ m6 x29 (IntKind.i64.wrap (x18 + 1)) w4 < m6 out_2 x18 w2) (
  I6 out_2 (IntKind.i64.wrap (x18 + 1)) w2 ∧ m6 out_2 (IntKind.i64.wrap (x18 + 1)) w2 < m6 out_2 x18 w2)) (
  I3 out_2 (IntKind.i64.wrap (x12 + 1)) w2 ∧ m3 out_2 (IntKind.i64.wrap (x12 + 1)) w2 < m3 out x12 w1)) (
  Calls Tryz.prog F.s_prSorted #[out.v] w1 (Ret [.at .sl] fun (x33 : Sl) w5 =>
  Q x33 w5))

theorem C_s_elNumbers {Q : Sl → World → Prop} {sets : Sl} {x : Sl} {w : World} (h : V_s_elNumbers Q sets x w) : Calls Tryz.prog F.s_elNumbers #[sets.v, x.v] w (Ret [.at .sl] Q) :=
  mkC (hint := hint) (ann := annOf [(3, ⟨[(5, .sl), (12, .int .i64)], [7, 8, 9, 13, 14, 15, 16, 17, 18, 19, 20, 21, 22, 23, 24, 25, 26, 27, 28, 29, 30, 31]⟩), (6, ⟨[(5, .sl), (18, .int .i64)], [8, 9, 19, 20, 21, 22, 23, 24, 25, 26, 27, 28, 29, 30]⟩)]) (args := [sets.v, x.v]) (rs := [.at .sl]) Tryz.func255 (by kernel_rfl) (by kernel_rfl) h

def V_s_elSome (Q : Sl → World → Prop) (good : Sl) (sets : Sl) (size1 : Int) (w : World) : Prop :=
  Calls Tryz.prog F.s_reChoices #[.int .i64 sets.len, .int .i64 size1] w (Ret [.at .sl] fun (x15 : Sl) w1 =>
  ∃ (I3 : Sl → Int → World → Prop) (m3 : Sl → Int → World → Nat), I3 (⟨none, 0, 0⟩) 0 w1 ∧ ∀ (out : Sl) (x17 : Int) w2, I3 out x17 w2 → ∀ _ _ _ _ _ _ _ _ _ _ _ _ _ _ _ _ _ _ _ _ : Value,
  cond (decide ((x17 : Int) < x15.len)) (
  IX x15 x17 1 fun (px19 : Addr) =>
  LD [.sl] px19 w2 fun (x20 : Sl) =>
  Calls Tryz.prog F.s_coThrough #[sets.v, x20.v] w2 (Ret [.at .sl] fun (x25 : Sl) w3 =>
  Calls Tryz.prog F.s_elChoice #[good.v, x25.v, .slice none 0 0] w3 (Ret [.at .sl, .at .bool] fun (x26_0 : Sl) (x26_1 : Bool) w4 =>
  cond x26_1 (
  RUN Tryz.prog (.at .sl) (Instr.buildSlice T.t_sl_sl_int 1 #[(0, x20.v)]) w4 fun (x32 : Sl) w5 =>
  RUN Tryz.prog (.at .sl) (bsem .append #[T.t_sl_sl_int, T.t_sl_sl_int] T.t_sl_sl_int #[out.v, x32.v]) w5 fun (x33 : Sl) w6 =>
  I3 x33 (IntKind.i64.wrap (x17 + 1)) w6 ∧ m3 x33 (IntKind.i64.wrap (x17 + 1)) w6 < m3 out x17 w2) (
  I3 out (IntKind.i64.wrap (x17 + 1)) w4 ∧ m3 out (IntKind.i64.wrap (x17 + 1)) w4 < m3 out x17 w2)))) (
  Q out w2))

theorem C_s_elSome {Q : Sl → World → Prop} {good : Sl} {sets : Sl} {size1 : Int} {w : World} (h : V_s_elSome Q good sets size1 w) : Calls Tryz.prog F.s_elSome #[good.v, sets.v, .int .i64 size1] w (Ret [.at .sl] Q) :=
  mkC (hint := hint) (ann := annOf [(3, ⟨[(7, .sl), (17, .int .i64)], [9, 10, 11, 18, 19, 20, 21, 22, 23, 24, 25, 26, 27, 28, 29, 30, 31, 32, 33, 34]⟩)]) (args := [good.v, sets.v, .int .i64 size1]) (rs := [.at .sl]) Tryz.func256 (by kernel_rfl) (by kernel_rfl) h

def V_slices_Concat_sl_int_int (Q : Sl → World → Prop) (slices : Sl) (w : World) : Prop :=
  ∃ (I3 : Int → Int → World → Prop) (m3 : Int → Int → World → Nat), I3 0 0 w ∧ ∀ (size1 : Int) (x11 : Int) w1, I3 size1 x11 w1 → ∀ _ _ _ _ _ _ _ _ _ _ _ _ : Value,
  cond (decide ((x11 : Int) < slices.len)) (
  IX slices x11 1 fun (px13 : Addr) =>
  LD [.sl] px13 w1 fun (x14 : Sl) =>
  cond (decide (((IntKind.i64.wrap (size1 + x14.len)) : Int) < 0)) (
  False) (
  I3 (IntKind.i64.wrap (size1 + x14.len)) (IntKind.i64.wrap (x11 + 1)) w1 ∧ m3 (IntKind.i64.wrap (size1 + x14.len)) (IntKind.i64.wrap (x11 + 1)) w1 < m3 size1 x11 w1)) (
  Calls Tryz.prog F.slices_Grow_sl_int_int #[.slice none 0 0, .int .i64 size1] w1 (Ret [.at .sl] fun (x24 : Sl) w2 =>
  ∃ (I11 : Sl → Int → World → Prop) (m11 : Sl → Int → World → Nat), I11 x24 0 w2 ∧ ∀ (newslice : Sl) (x27 : Int) w3, I11 newslice x27 w3 → ∀ _ _ _ _ _ _ _ _ : Value,
  cond (decide ((x27 : Int) < slices.len)) (
  IX slices x27 1 fun (px29 : Addr) =>
  LD [.sl] px29 w3 fun (x30 : Sl) =>
  RUN Tryz.prog (.at .sl) (bsem .append #[T.t_sl_int, T.t_sl_int] T.t_sl_int #[newslice.v, x30.v]) w3 fun (x33 : Sl) w4 =>
  I11 x33 (IntKind.i64.wrap (x27 + 1)) w4 ∧ m11 x33 (IntKind.i64.wrap (x27 + 1)) w4 < m11 newslice x27 w3) (
  Q newslice w3)))

theorem C_slices_Concat_sl_int_int {Q : Sl → World → Prop} {slices : Sl} {w : World} (h : V_slices_Concat_sl_int_int Q slices w) : Calls Tryz.prog F.slices_Concat_sl_int_int #[slices.v] w (Ret [.at .sl] Q) :=
  mkC (hint := hint) (ann := annOf [(3, ⟨[(3, .int .i64), (11, .int .i64)], [5, 12, 13, 14, 15, 16, 17, 18, 19, 20, 21, 22]⟩), (11, ⟨[(6, .sl), (27, .int .i64)], [8, 28, 29, 30, 31, 32, 33, 34]⟩)]) (args := [slices.v]) (rs := [.at .sl]) Tryz.func258 (by kernel_rfl) (by kernel_rfl) h

def V_slices_Compact_sl_int_int (Q : Sl → World → Prop) (s : Sl) (w : World) : Prop :=
  cond (decide ((s.len : Int) < 2)) (
  Q s w) (
  ∃ (I4 : Int → World → Prop) (m4 : Int → World → Nat), I4 1 w ∧ ∀ (k : Int) w1, I4 k w1 → ∀ _ _ _ _ _ _ _ _ _ _ _ _ _ _ _ _ _ _ _ _ _ _ _ _ _ _ _ _ _ _ _ _ _ _ _ _ _ _ _ _ _ _ _ _ _ _ _ _ _ _ _ _ _ : Value,
  cond (decide ((k : Int) < s.len)) (
  IX s k 1 fun (px18 : Addr) =>
  LD [.int .i64] px18 w1 fun (x19 : Int) =>
  IX s (IntKind.i64.wrap (k - 1)) 1 fun (px23 : Addr) =>
  LD [.int .i64] px23 w1 fun (x24 : Int) =>
  ∀ w2, Ext w1 w2 →
  cond ((x19 : Int) == x24) (
  SLC s (some k) none 1 fun (x28 : Sl) =>
  ∃ (I9 : Int → Int → World → Prop) (m9 : Int → Int → World → Nat), I9 k 1 w2 ∧ ∀ (k_2 : Int) (k2 : Int) w3, I9 k_2 k2 w3 → ∀ _ _ _ _ _ _ _ _ _ _ _ _ _ _ _ _ _ _ _ _ _ _ _ _ _ : Value,
  cond (decide ((k2 : Int) < x28.len)) (
  IX x28 k2 1 fun (px37 : Addr) =>
  LD [.int .i64] px37 w3 fun (x38 : Int) =>
  IX x28 (IntKind.i64.wrap (k2 - 1)) 1 fun (px42 : Addr) =>
  LD [.int .i64] px42 w3 fun (x43 : Int) =>
  ∀ w4, Ext w3 w4 →
  cond ((x38 : Int) != x43) (
  IX x28 k2 1 fun (px49 : Addr) =>
  LD [.int .i64] px49 w4 fun (x50 : Int) =>
  IX s k_2 1 fun (px51 : Addr) =>
  ST px51 0 [.int .i64 x50] w4 fun w5 =>
  I9 (IntKind.i64.wrap (k_2 + 1)) (IntKind.i64.wrap (k2 + 1)) w5 ∧ m9 (IntKind.i64.wrap (k_2 + 1)) (IntKind.i64.wrap (k2 + 1)) w5 < m9 k_2 k2 w3) (
  I9 k_2 (IntKind.i64.wrap (k2 + 1)) w4 ∧ m9 k_2 (IntKind.i64.wrap (k2 + 1)) w4 < m9 k_2 k2 w3)) (
  SLC s (some k_2) none 1 fun (x56 : Sl) =>
  RUN Tryz.prog (.at .val) (bsem .clear #[T.t_sl_int] T.t_unit #[x56.v]) w3 fun (x : Value) w6 =>
  SLC s none (some k_2) 1 fun (x59 : Sl) =>
  Q x59 w6)) (
  I4 (IntKind.i64.wrap (k + 1)) w2 ∧ m4 (IntKind.i64.wrap (k + 1)) w2 < m4 k w1)) (
  Q s w1))

theorem C_slices_Compact_sl_int_int {Q : Sl → World → Prop} {s : Sl} {w : World} (h : V_slices_Compact_sl_int_int Q s w) : Calls Tryz.prog F.slices_Compact_sl_int_int #[s.v] w (Ret [.at .sl] Q) :=
  mkC (hint := hint) (ann := annOf [(4, ⟨[(3, .int .i64)], [2, 4, 5, 10, 11, 12, 13, 14, 15, 16, 17, 18, 19, 20, 21, 22, 23, 24, 25, 26, 27, 28, 29, 30, 31, 32, 33, 34, 35, 36, 37, 38, 39, 40, 41, 42, 43, 44, 45, 46, 47, 48, 49, 50, 51, 52, 53, 54, 55, 56, 57, 58, 59]⟩), (9, ⟨[(3, .int .i64), (5, .int .i64)], [29, 30, 31, 32, 33, 34, 35, 36, 37, 38, 39, 40, 41, 42, 43, 44, 45, 46, 47, 48, 49, 50, 51, 52, 53]⟩)]) (args := [s.v]) (rs := [.at .sl]) Tryz.func259 (by kernel_rfl) (by kernel_rfl) h

def V_slices_BinarySearch_sl_int_int (Q : Int → Bool → World → Prop) (x : Sl) (target : Int) (w : World) : Prop :=
  ∃ (I3 : Int → Int → World → Prop) (m3 : Int → Int → World → Nat), I3 0 x.len w ∧ ∀ (i : Int) (j : Int) w1, I3 i j w1 → ∀ _ _ _ _ _ _ _ _ _ _ _ _ _ _ _ _ _ _ _ : Value,
  cond (decide ((i : Int) < j)) (
  (0 : Int) ≤ 1 ∧ (
  IX x (IntKind.i64.wrap (shrI .u64 (IntKind.u64.wrap (IntKind.i64.wrap (i + j))) 1)) 1 fun (px24 : Addr) =>
  LD [.int .i64] px24 w1 fun (x25 : Int) =>
  Calls Tryz.prog F.cmp_Less_int #[.int .i64 x25, .int .i64 target] w1 (Ret [.at .bool] fun (x27 : Bool) w2 =>
  cond x27 (
  I3 (IntKind.i64.wrap ((IntKind.i64.wrap (shrI .u64 (IntKind.u64.wrap (IntKind.i64.wrap (i + j))) 1)) + 1)) j w2 ∧ m3 (IntKind.i64.wrap ((IntKind.i64.wrap (shrI .u64 (IntKind.u64.wrap (IntKind.i64.wrap (i + j))) 1)) + 1)) j w2 < m3 i j w1) (
  I3 i (IntKind.i64.wrap (shrI .u64 (IntKind.u64.wrap (IntKind.i64.wrap (i + j))) 1)) w2 ∧ m3 i (IntKind.i64.wrap (shrI .u64 (IntKind.u64.wrap (IntKind.i64.wrap (i + j))) 1)) w2 < m3 i j w1)))) (
  cond (decide ((i : Int) < x.len)) (
  IX x i 1 fun (px38 : Addr) =>
  LD [.int .i64] px38 w1 fun (x39 : Int) =>
  cond ((x39 : Int) == target) (
  Q i true w1) (
  IX x i 1 fun (px45 : Addr) =>
  LD [.int .i64] px45 w1 fun (x46 : Int) =>
  Calls Tryz.prog F.slices_isNaN_int #[.int .i64 x46] w1 (Ret [.at .bool] fun (x47 : Bool) w3 =>
  cond x47 (
  Calls Tryz.prog F.slices_isNaN_int #[.int .i64 target] w3 (Ret [.at .bool] fun (x50 : Bool) w4 =>
  Q i x50 w4)) (
  Q i false w3)))) (
  Q i false w1))

theorem C_slices_BinarySearch_sl_int_int {Q : Int → Bool → World → Prop} {x : Sl} {target : Int} {w : World} (h : V_slices_BinarySearch_sl_int_int Q x target w) : Calls Tryz.prog F.slices_BinarySearch_sl_int_int #[x.v, .int .i64 target] w (Ret [.at (.int .i64), .at .bool] Q) :=
  mkC (hint := hint) (ann := annOf [(3, ⟨[(7, .int .i64), (8, .int .i64)], [9, 13, 14, 15, 16, 17, 18, 19, 20, 21, 22, 23, 24, 25, 26, 27, 28, 29, 30]⟩)]) (args := [x.v, .int .i64 target]) (rs := [.at (.int .i64), .at .bool]) Tryz.func260 (by kernel_rfl) (by kernel_rfl) h

def V_i_sortedLists (Q : Sl → World → Prop) (list : Sl) (w : World) : Prop :=
  Calls Tryz.prog F.slices_SortFunc_sl_sl_int_sl_int #[list.v, .func (.func F.slices_Compare_sl_int_int) #[] #[]] w (Ret [] fun w1 =>
  Calls Tryz.prog F.slices_CompactFunc_sl_sl_int_sl_int #[list.v, .func (.func F.slices_Equal_sl_int_int) #[] #[]] w1 (Ret [.at .sl] fun (x6 : Sl) w2 =>
  Q x6 w2))

theorem C_i_sortedLists {Q : Sl → World → Prop} {list : Sl} {w : World} (h : V_i_sortedLists Q list w) : Calls Tryz.prog F.i_sortedLists #[list.v] w (Ret [.at .sl] Q) :=
  mkC (hint := hint) (ann := annOf []) (args := [list.v]) (rs := [.at .sl]) Tryz.func261 (by kernel_rfl) (by kernel_rfl) h

def V_ptr_i_nodeSets_completing (Q : Int → World → Prop) (s : Addr) (sets : Sl) (w : World) : Prop :=
  NEW T.t_ptr_i_nodeSets #[.pointer (some s)] w fun (p_s : Addr) w1 =>
  NEW T.t_sl_int #[sets.v] w1 fun (p_sets : Addr) w2 =>
  LD [.ptr] p_s w2 fun (x7 : Addr) =>
  LD [.int .i64] ((x7.add 0).add 0) w2 fun (x11 : Int) =>
  (0 : Int) ≤ x11 ∧ (
  NEW T.t_int #[.int .i64 0] w2 fun (p_out : Addr) w3 =>
  ST p_out 0 [.int .i64 (IntKind.i64.wrap ((shlI .i64 1 x11) - 1))] w3 fun w4 =>
  NEW T.t_func_int_int_int_1 #[.nilFunc] w4 fun (p_fill : Addr) w5 =>
  ST p_fill 0 [.func (.func F.ptr_i_nodeSets_completing_1) #[] #[.pointer (some p_sets), .pointer (some p_out), .pointer (some p_s), .pointer (some p_fill)]] w5 fun w6 =>
  LD [.val] p_fill w6 fun (x15 : Value) =>
  CALLV Tryz.prog x15 #[.int .i64 0, .int .i64 0, .int .i64 1] w6 (Ret [] fun w7 =>
  LD [.int .i64] p_out w7 fun (x17 : Int) =>
  Q x17 w7))

theorem C_ptr_i_nodeSets_completing {Q : Int → World → Prop} {s : Addr} {sets : Sl} {w : World} (h : V_ptr_i_nodeSets_completing Q s sets w) : Calls Tryz.prog F.ptr_i_nodeSets_completing #[.pointer (some s), sets.v] w (Ret [.at (.int .i64)] Q) :=
  mkC (hint := hint) (ann := annOf []) (args := [.pointer (some s), sets.v]) (rs := [.at (.int .i64)]) Tryz.func263 (by kernel_rfl) (by kernel_rfl) h

def V_ptr_i_nodeSets_isFull (Q : Bool → World → Prop) (s : Addr) (list : Sl) (w : World) : Prop :=
  ∃ (I2 : Int → World → Prop) (m2 : Int → World → Nat), I2 0 w ∧ ∀ (x8 : Int) w1, I2 x8 w1 → ∀ _ _ _ _ _ _ _ _ _ _ _ _ _ _ _ _ _ _ : Value,
  cond (decide ((x8 : Int) < list.len)) (
  ∀ w2, Ext w1 w2 → w2.heap = w1.heap →
  IX list x8 1 fun (px21 : Addr) =>
  LD [.int .i64] px21 w2 fun (x22 : Int) =>
  Calls Tryz.prog F.slices_Clone_sl_int_int #[list.v] w2 (Ret [.at .sl] fun (x13 : Sl) w3 =>
  Ext w2 w3 ∧ (
  Calls Tryz.prog F.slices_Delete_sl_int_int #[x13.v, .int .i64 x8, .int .i64 (IntKind.i64.wrap (x8 + 1))] w3 (Ret [.at .sl] fun (x17 : Sl) w4 =>
  Ext w2 w4 ∧ (
  Calls Tryz.prog F.ptr_i_nodeSets_completing #[.pointer (some s), x17.v] w4 (Ret [.at (.int .i64)] fun (x18 : Int) w5 =>
  Ext w2 w5 ∧ (
  Ext w2 w5 ∧ (
  cond ((x18 : Int) != x22) (
  Q false w5) (
  I2 (IntKind.i64.wrap (x8 + 1)) w5 ∧ m2 (IntKind.i64.wrap (x8 + 1)) w5 < m2 x8 w1))))))))) (
  Q true w1)

theorem C_ptr_i_nodeSets_isFull {Q : Bool → World → Prop} {s : Addr} {list : Sl} {w : World} (h : V_ptr_i_nodeSets_isFull Q s list w) : Calls Tryz.prog F.ptr_i_nodeSets_isFull #[.pointer (some s), list.v] w (Ret [.at .bool] Q) :=
  mkC (hint := hint) (ann := annOf [(2, ⟨[(8, .int .i64)], [4, 5, 9, 10, 11, 12, 13, 14, 15, 16, 17, 18, 19, 20, 21, 22, 23, 24]⟩)]) (args := [.pointer (some s), list.v]) (rs := [.at .bool]) Tryz.func264 (by kernel_rfl) (by kernel_rfl) h

end Go.Proofs.YtlmiookpmneicaaGreat
end

section
/- What each function's code computes to. Printed by a program. -/
namespace Go.Proofs.YtlmiookpmneicaaGreat
open Go.GX Go.RowKit
set_option linter.unusedVariables false
set_option maxRecDepth 100000

def V_s_l1Sign (Q : Int → World → Prop) (n : Int) (w : World) : Prop :=
  cond (decide ((n : Int) > 0)) (
  Q 1 w) (
  cond (decide ((n : Int) < 0)) (
  Q (-1) w) (
  Q 0 w))

theorem C_s_l1Sign {Q : Int → World → Prop} {n : Int} {w : World} (h : V_s_l1Sign Q n w) : Calls Tryz.prog F.s_l1Sign #[.int .i64 n] w (Ret [.at (.int .i64)] Q) :=
  mkC (hint := hint) (ann := annOf []) (args := [.int .i64 n]) (rs := [.at (.int .i64)]) Tryz.func268 (by kernel_rfl) (by kernel_rfl) h

def V_slices_IndexFunc_sl_int_int (Q : Int → World → Prop) (s : Sl) (f : Value) (w : World) : Prop :=
  ∃ (I2 : Int → World → Prop) (m2 : Int → World → Nat), I2 0 w ∧ ∀ (x8 : Int) w1, I2 x8 w1 → ∀ _ _ _ _ _ _ _ _ _ _ _ _ : Value,
  cond (decide ((x8 : Int) < s.len)) (
  IX s x8 1 fun (px14 : Addr) =>
  LD [.int .i64] px14 w1 fun (x15 : Int) =>
  CALLV Tryz.prog f #[.int .i64 x15] w1 (Ret [.at .bool] fun (x16 : Bool) w2 =>
  cond x16 (
  Q x8 w2) (
  I2 (IntKind.i64.wrap (x8 + 1)) w2 ∧ m2 (IntKind.i64.wrap (x8 + 1)) w2 < m2 x8 w1))) (
  Q (-1) w1)

theorem C_slices_IndexFunc_sl_int_int {Q : Int → World → Prop} {s : Sl} {f : Value} {w : World} (h : V_slices_IndexFunc_sl_int_int Q s f w) : Calls Tryz.prog F.slices_IndexFunc_sl_int_int #[s.v, f] w (Ret [.at (.int .i64)] Q) :=
  mkC (hint := hint) (ann := annOf [(2, ⟨[(8, .int .i64)], [4, 5, 9, 10, 11, 12, 13, 14, 15, 16, 17, 18]⟩)]) (args := [s.v, f]) (rs := [.at (.int .i64)]) Tryz.func269 (by kernel_rfl) (by kernel_rfl) h

def V_slices_Grow_sl_int_int (Q : Sl → World → Prop) (s : Sl) (n : Int) (w : World) : Prop :=
  cond (decide ((n : Int) < 0)) (
  False) (
  RUN Tryz.prog (.at (.int .i64)) (bsem .cap #[T.t_sl_int] T.t_int #[s.v]) w fun (x10 : Int) w1 =>
  cond (decide (((IntKind.i64.wrap (n - (IntKind.i64.wrap (x10 - s.len)))) : Int) > 0)) (
  RUN Tryz.prog (.at (.int .i64)) (bsem .cap #[T.t_sl_int] T.t_int #[s.v]) w1 fun (x19 : Int) w2 =>
  SLC s none (some x19) 1 fun (x20 : Sl) =>
  RUN Tryz.prog (.at .sl) (bsem .append #[T.t_sl_int, T.t_int] T.t_sl_int #[x20.v, .int .i64 (IntKind.i64.wrap (n - (IntKind.i64.wrap (x10 - s.len))))]) w2 fun (x22 : Sl) w3 =>
  SLC x22 none (some s.len) 1 fun (x25 : Sl) =>
  Q x25 w3) (
  Q s w1))

theorem C_slices_Grow_sl_int_int {Q : Sl → World → Prop} {s : Sl} {n : Int} {w : World} (h : V_slices_Grow_sl_int_int Q s n w) : Calls Tryz.prog F.slices_Grow_sl_int_int #[s.v, .int .i64 n] w (Ret [.at .sl] Q) :=
  mkC (hint := hint) (ann := annOf []) (args := [s.v, .int .i64 n]) (rs := [.at .sl]) Tryz.func276 (by kernel_rfl) (by kernel_rfl) h

def V_slices_CompactFunc_sl_sl_int_sl_int (Q : Sl → World → Prop) (x0 : Sl) (x1 : Value) (w : World) : Prop :=
  cond (decide ((x0.len : Int) < 2)) (
  Q x0 w) (
  ∃ (I4 : Int → World → Prop) (m4 : Int → World → Nat), I4 1 w ∧ ∀ (x5 : Int) w1, I4 x5 w1 → ∀ _ _ _ _ _ _ _ _ _ _ _ _ _ _ _ _ _ _ _ _ _ _ _ _ _ _ _ _ _ _ _ _ _ _ _ _ _ _ _ _ _ _ _ _ _ _ _ _ _ _ _ _ _ _ _ _ : Value,
  cond (decide ((x5 : Int) < x0.len)) (
  ∀ w2, Ext w1 w2 → w2.heap = w1.heap →
  IX x0 x5 1 fun (px21 : Addr) =>
  LD [.sl] px21 w2 fun (x22 : Sl) =>
  Ext w2 w2 ∧ (
  Ext w2 w2 ∧ (
  IX x0 (IntKind.i64.wrap (x5 - 1)) 1 fun (px26 : Addr) =>
  Ext w2 w2 ∧ (
  LD [.sl] px26 w2 fun (x27 : Sl) =>
  Ext w2 w2 ∧ (
  CALLV Tryz.prog x1 #[x22.v, x27.v] w2 (Ret [.at .bool] fun (x28 : Bool) w3 =>
  Ext w2 w3 ∧ (
  cond x28 (
  SLC x0 (some x5) none 1 fun (x31 : Sl) =>
  ∃ (I9 : Int → Int → World → Prop) (m9 : Int → Int → World → Nat), I9 x5 1 w3 ∧ ∀ (x5_2 : Int) (x7 : Int) w4, I9 x5_2 x7 w4 → ∀ _ _ _ _ _ _ _ _ _ _ _ _ _ _ _ _ _ _ _ _ _ _ _ _ _ _ _ : Value,
  cond (decide ((x7 : Int) < x31.len)) (
  ∀ w5, Ext w4 w5 → w5.heap = w4.heap →
  IX x31 x7 1 fun (px41 : Addr) =>
  LD [.sl] px41 w5 fun (x42 : Sl) =>
  Ext w5 w5 ∧ (
  Ext w5 w5 ∧ (
  IX x31 (IntKind.i64.wrap (x7 - 1)) 1 fun (px46 : Addr) =>
  Ext w5 w5 ∧ (
  LD [.sl] px46 w5 fun (x47 : Sl) =>
  Ext w5 w5 ∧ (
  CALLV Tryz.prog x1 #[x42.v, x47.v] w5 (Ret [.at .bool] fun (x48 : Bool) w6 =>
  Ext w5 w6 ∧ (
  Ext w5 w6 ∧ (
  cond (!x48) (
  IX x31 x7 1 fun (px54 : Addr) =>
  LD [.sl] px54 w6 fun (x55 : Sl) =>
  IX x0 x5_2 1 fun (px56 : Addr) =>
  ST px56 0 [x55.v] w6 fun w7 =>
  I9 (IntKind.i64.wrap (x5_2 + 1)) (IntKind.i64.wrap (x7 + 1)) w7 ∧ m9 (IntKind.i64.wrap (x5_2 + 1)) (IntKind.i64.wrap (x7 + 1)) w7 < m9 x5_2 x7 w4) (
  I9 x5_2 (IntKind.i64.wrap (x7 + 1)) w6 ∧ m9 x5_2 (IntKind.i64.wrap (x7 + 1)) w6 < m9 x5_2 x7 w4))))))))) (
  SLC x0 (some x5_2) none 1 fun (x61 : Sl) =>
  RUN Tryz.prog (.at .val) (bsem .clear #[T.t_sl_sl_int] T.t_unit #[x61.v]) w4 fun (x : Value) w8 =>
  SLC x0 none (some x5_2) 1 fun (x64 : Sl) =>
  Q x64 w8)) (
  I4 (IntKind.i64.wrap (x5 + 1)) w3 ∧ m4 (IntKind.i64.wrap (x5 + 1)) w3 < m4 x5 w1)))))))) (
  Q x0 w1))

theorem C_slices_CompactFunc_sl_sl_int_sl_int {Q : Sl → World → Prop} {x0 : Sl} {x1 : Value} {w : World} (h : V_slices_CompactFunc_sl_sl_int_sl_int Q x0 x1 w) : Calls Tryz.prog F.slices_CompactFunc_sl_sl_int_sl_int #[x0.v, x1] w (Ret [.at .sl] Q) :=
  mkC (hint := hint) (ann := annOf [(4, ⟨[(5, .int .i64)], [4, 6, 7, 12, 13, 14, 15, 16, 17, 18, 19, 20, 21, 22, 23, 24, 25, 26, 27, 28, 29, 30, 31, 32, 33, 34, 35, 36, 37, 38, 39, 40, 41, 42, 43, 44, 45, 46, 47, 48, 49, 50, 51, 52, 53, 54, 55, 56, 57, 58, 59, 60, 61, 62, 63, 64]⟩), (9, ⟨[(5, .int .i64), (7, .int .i64)], [32, 33, 34, 35, 36, 37, 38, 39, 40, 41, 42, 43, 44, 45, 46, 47, 48, 49, 50, 51, 52, 53, 54, 55, 56, 57, 58]⟩)]) (args := [x0.v, x1]) (rs := [.at .sl]) Tryz.func279 (by kernel_rfl) (by kernel_rfl) h

def V_ptr_i_nodeSets_completing_1 (Q : World → Prop) (k : Int) (key : Int) (weight : Int) (cap0 : Addr) (cap1 : Addr) (cap2 : Addr) (cap3 : Addr) (w : World) : Prop :=
  LD [.sl] cap0 w fun (x12 : Sl) =>
  cond ((k : Int) == x12.len) (
  ∀ w1, Ext w w1 → w1.heap = w.heap → ∃ (D1 : Nat → Prop),
  ¬ D1 cap1.block ∧ (
  LD [.int .i64] cap1 w1 fun (x15 : Int) =>
  LD [.ptr] cap2 w1 fun (x16 : Addr) =>
  Chg w1 w1 D1 ∧ (
  Chg w1 w1 D1 ∧ (
  Chg w1 w1 D1 ∧ (
  LD [.sl] (x16.add 4) w1 fun (x19 : Sl) =>
  Chg w1 w1 D1 ∧ (
  IX x19 key 1 fun (px21 : Addr) =>
  Chg w1 w1 D1 ∧ (
  LD [.int .i64] px21 w1 fun (x22 : Int) =>
  Chg w1 w1 D1 ∧ (
  ST cap1 0 [.int .i64 (bitAnd .i64 x15 x22)] w1 fun w2 =>
  Q w2)))))))) (
  LD [.ptr] cap2 w fun (x24 : Addr) =>
  LD [.int .i64] ((x24.add 0).add 0) w fun (x28 : Int) =>
  ∃ (I3 : Int → World → Prop) (m3 : Int → World → Nat), I3 0 w ∧ ∀ (x29 : Int) w3, I3 x29 w3 → ∀ _ _ _ _ _ _ _ _ _ _ _ _ _ _ _ _ _ _ _ _ _ _ _ _ _ _ _ _ _ _ _ _ : Value,
  cond (decide ((x29 : Int) < x28)) (
  LD [.sl] cap0 w3 fun (x32 : Sl) =>
  IX x32 k 1 fun (px34 : Addr) =>
  LD [.int .i64] px34 w3 fun (x35 : Int) =>
  (0 : Int) ≤ x29 ∧ (
  cond (((bitAnd .i64 (shrI .i64 x35 x29) 1) : Int) == 1) (
  LD [.int .i64] cap1 w3 fun (x41 : Int) =>
  cond ((x41 : Int) != 0) (
  ∀ w4, Ext w3 w4 → w4.heap = w3.heap → ∃ (D4 : Nat → Prop),
  ¬ D4 cap3.block ∧ (
  LD [.val] cap3 w4 fun (x44 : Value) =>
  LD [.ptr] cap2 w4 fun (x53 : Addr) =>
  Chg w4 w4 D4 ∧ (
  Chg w4 w4 D4 ∧ (
  Chg w4 w4 D4 ∧ (
  Chg w4 w4 D4 ∧ (
  LD [.int .i64] ((x53.add 0).add 0) w4 fun (x57 : Int) =>
  Chg w4 w4 D4 ∧ (
  Chg w4 w4 D4 ∧ (
  CALLV Tryz.prog x44 #[.int .i64 (IntKind.i64.wrap (k + 1)), .int .i64 (IntKind.i64.wrap (key + (IntKind.i64.wrap (x29 * weight)))), .int .i64 (IntKind.i64.wrap (weight * x57))] w4 (Ret [] fun w5 =>
  I3 (IntKind.i64.wrap (x29 + 1)) w5 ∧ m3 (IntKind.i64.wrap (x29 + 1)) w5 < m3 x29 w3))))))))) (
  I3 (IntKind.i64.wrap (x29 + 1)) w3 ∧ m3 (IntKind.i64.wrap (x29 + 1)) w3 < m3 x29 w3)) (
  I3 (IntKind.i64.wrap (x29 + 1)) w3 ∧ m3 (IntKind.i64.wrap (x29 + 1)) w3 < m3 x29 w3))) (
  Q w3))

theorem C_ptr_i_nodeSets_completing_1 {Q : World → Prop} {k : Int} {key : Int} {weight : Int} {cap0 : Addr} {cap1 : Addr} {cap2 : Addr} {cap3 : Addr} {w : World} (h : V_ptr_i_nodeSets_completing_1 Q k key weight cap0 cap1 cap2 cap3 w) : Calls Tryz.prog F.ptr_i_nodeSets_completing_1 #[.int .i64 k, .int .i64 key, .int .i64 weight, .pointer (some cap0), .pointer (some cap1), .pointer (some cap2), .pointer (some cap3)] w (Ret [] Q) :=
  mkC (hint := hint) (ann := annOf [(500001, ⟨[], [1]⟩), (3, ⟨[(29, .int .i64)], [10, 30, 31, 32, 33, 34, 35, 36, 37, 38, 39, 40, 41, 42, 43, 44, 45, 46, 47, 48, 49, 50, 51, 52, 53, 54, 55, 56, 57, 58, 59, 60]⟩), (500006, ⟨[], [1]⟩)]) (args := [.int .i64 k, .int .i64 key, .int .i64 weight, .pointer (some cap0), .pointer (some cap1), .pointer (some cap2), .pointer (some cap3)]) (rs := []) Tryz.func280 (by kernel_rfl) (by kernel_rfl) h

end Go.Proofs.YtlmiookpmneicaaGreat
end

section
/- What the code of the stable sort computes to. Printed by a program. -/
namespace Go.Proofs.YtlmiookpmneicaaGreat
open Go.GX Go.RowKit
set_option linter.unusedVariables false
set_option maxRecDepth 100000

end Go.Proofs.YtlmiookpmneicaaGreat
end

section
/- All functions' propositions of this seat. -/
end

section
/- Rules for proving the propositions that functions compute to: memory read as lists, loops over indexes, calls. No program is named here. -/
namespace Go.GX
open Go.RowKit

/-! ### Numbers -/

def I64 (n : Int) : Prop := -9223372036854775808 ≤ n ∧ n ≤ 9223372036854775807

theorem wrap_of {n : Int} (h1 : -9223372036854775808 ≤ n) (h2 : n ≤ 9223372036854775807) : IntKind.i64.wrap n = n := by
  have e1 : (2 : Int) ^ 64 = 18446744073709551616 := rfl
  have e2 : (2 : Int) ^ 63 = 9223372036854775808 := rfl
  simp only [IntKind.wrap, IntKind.bits, IntKind.signed, Bool.true_and, decide_eq_true_eq, Nat.reduceSub, e1, e2]
  by_cases h : 0 ≤ n
  · have : n % 18446744073709551616 = n := Int.emod_eq_of_lt h (by omega)
    rw [this, if_neg (by omega)]
  · have : n % 18446744073709551616 = n + 18446744073709551616 := by omega
    rw [this, if_pos (by omega)]; omega

theorem add_zero' (a : Addr) : a.add 0 = a := rfl
theorem add_add (a : Addr) (m n : Nat) : (a.add m).add n = a.add (m + n) := by
  unfold Addr.add
  by_cases hm : m = 0
  · subst hm; simp
  · by_cases hn : n = 0
    · subst hn; simp [hm]
    · simp [hm, hn, Nat.add_assoc]


/-! ### Worlds -/

theorem Ext.size_le {w w' : World} (h : Ext w w') : w.heap.size ≤ w'.heap.size := h.size

theorem Ext.same {w w' : World} (h : Ext w w') {b : Nat} (hb : b < w.heap.size) : w'.heap[b]? = w.heap[b]? := h.block b hb

theorem cell_lt {w : World} {a : Addr} {v : Value} (h : w.cell? a = some v) : a.block < w.heap.size := World.block_lt_of_cell? w a h

theorem ext_push (w : World) (o : Obj) : Ext w { w with heap := w.heap.push o } :=
  ⟨rfl, rfl, rfl, by simp, fun k hk => by simp [Array.getElem?_push, Nat.ne_of_lt hk]⟩

theorem ext_setCell {w0 w : World} (h : Ext w0 w) {a : Addr} (ha : w0.heap.size ≤ a.block) (v : Value) : Ext w0 (w.setCell a v) := Below.setCell h ha v

/-- A block that the call itself has made: its cells, not frozen. -/
def Box (w : World) (p : Addr) (t : TypeId) (cs : List Value) : Prop := p.off = 0 ∧ p.spot = none ∧ w.heap[p.block]? = some (.cells ⟨cs⟩ t (0, 0))

theorem Box.cell {w : World} {p : Addr} {t : TypeId} {cs : List Value} (h : Box w p t cs) {i : Nat} {v : Value} (hi : cs[i]? = some v) : w.cell? (p.add i) = some v := by
  obtain ⟨h1, h2, h3⟩ := h
  unfold Addr.add
  by_cases h0 : i = 0
  · subst h0; simp [World.cell?, h3, h2, h1, hi]
  · simp [World.cell?, h3, h0, h1, hi]

theorem Box.frozen {w : World} {p : Addr} {t : TypeId} {cs : List Value} (h : Box w p t cs) (i : Nat) : w.frozen? (p.add i) = false := by
  obtain ⟨h1, h2, h3⟩ := h
  have : (p.add i).block = p.block := by unfold Addr.add; split <;> rfl
  simp [World.frozen?, this, h3]

theorem Box.lt {w : World} {p : Addr} {t : TypeId} {cs : List Value} (h : Box w p t cs) : p.block < w.heap.size := (Array.getElem?_eq_some_iff.1 h.2.2).1

theorem Box.ext {w w' : World} {p : Addr} {t : TypeId} {cs : List Value} (h : Box w p t cs) (hE : Ext w w') : Box w' p t cs :=
  ⟨h.1, h.2.1, (hE.same h.lt).trans h.2.2⟩

theorem Box.of_block {w w' : World} {p : Addr} {t : TypeId} {cs : List Value} (h : Box w p t cs) (hE : w'.heap[p.block]? = w.heap[p.block]?) : Box w' p t cs :=
  ⟨h.1, h.2.1, hE.trans h.2.2⟩

theorem add_block (p : Addr) (i : Nat) : (p.add i).block = p.block := by unfold Addr.add; split <;> rfl

theorem Box.set {w : World} {p : Addr} {t : TypeId} {cs : List Value} (h : Box w p t cs) (i : Nat) (v : Value) : Box (w.setCell (p.add i) v) p t (cs.set i v) := by
  obtain ⟨h1, h2, h3⟩ := h
  refine ⟨h1, h2, ?_⟩
  have hb : (p.add i).block = p.block := add_block p i
  have ho : (p.add i).off = i := by unfold Addr.add; split <;> simp_all
  have hs : (p.add i).spot = none := by unfold Addr.add; split <;> simp_all
  have hlt := (Array.getElem?_eq_some_iff.1 h3).1
  have hv := (Array.getElem?_eq_some_iff.1 h3).2
  simp only [World.setCell, Array.getElem?_modify, hb, ho, hs]
  simp [h3]

/-- A new variable: its block is the next one. -/
theorem NEW_intro {t : TypeId} {cs : List Value} {w : World} {K : Addr → World → Prop}
    (h : ∀ p w', p.block = w.heap.size → w'.heap.size = w.heap.size + 1 → Ext w w' → Box w' p t cs → K p w') : NEW t ⟨cs⟩ w K :=
  h _ _ rfl (by simp) (ext_push w _) ⟨rfl, rfl, by simp⟩

theorem setCell_size (w : World) (a : Addr) (v : Value) : (w.setCell a v).heap.size = w.heap.size := by simp [World.setCell]

theorem setCell_other (w : World) (a : Addr) (v : Value) {b : Nat} (h : b ≠ a.block) : (w.setCell a v).heap[b]? = w.heap[b]? := Below.heap_setCell w a v b h

/-- A store of one cell into a block of the call's own. -/
theorem ST_box1 {w : World} {p : Addr} {t : TypeId} {cs : List Value} {i : Nat} {v : Value} {K : World → Prop} (h : Box w p t cs) (hi : i < cs.length) (h1 : v.oneCell' = true)
    (hk : ∀ w', w'.heap.size = w.heap.size → (∀ b, b ≠ p.block → w'.heap[b]? = w.heap[b]?) → (∀ w0, Ext w0 w → w0.heap.size ≤ p.block → Ext w0 w') → Box w' p t (cs.set i v) → K w') : ST (p.add i) 0 [v] w K := by
  refine ⟨h1, ⟨cs[i], ?_⟩, ?_, hk _ (setCell_size _ _ _) (fun b hb => setCell_other _ _ _ (by rw [add_add, add_block]; exact hb)) (fun w0 h0 hle => ext_setCell h0 (by rw [add_add, add_block]; exact hle) v) (by rw [add_add]; exact h.set _ v)⟩
  · rw [add_add]; exact h.cell (by simp [hi])
  · rw [add_add]; exact h.frozen _

/-! ### Loads -/

section
variable {w : World} {a : Addr}

theorem LD_sl {K : Sl → Prop} {s : Sl} (hc : w.cell? a = some s.v) (hk : K s) : LD [.sl] a w K :=
  ⟨[s.v], rfl, fun i v hi => by match i, hi with | 0, hi => simp at hi; subst hi; exact hc, hk⟩
theorem LD_int {K : Int → Prop} {n : Int} (hc : w.cell? a = some (.int .i64 n)) (hk : K n) : LD [.int .i64] a w K :=
  ⟨[.int .i64 n], rfl, fun i v hi => by match i, hi with | 0, hi => simp at hi; subst hi; exact hc, hk⟩
theorem LD_bool {K : Bool → Prop} {n : Bool} (hc : w.cell? a = some (.bool n)) (hk : K n) : LD [.bool] a w K :=
  ⟨[.bool n], rfl, fun i v hi => by match i, hi with | 0, hi => simp at hi; subst hi; exact hc, hk⟩
theorem LD_val {K : Value → Prop} {v : Value} (hc : w.cell? a = some v) (hk : K v) : LD [.val] a w K :=
  ⟨[v], rfl, fun i v hi => by match i, hi with | 0, hi => simp at hi; subst hi; exact hc, hk⟩
theorem LD_int2 {K : Int → Int → Prop} {x y : Int} (h0 : w.cell? (a.add 0) = some (.int .i64 x)) (h1 : w.cell? (a.add 1) = some (.int .i64 y)) (hk : K x y) : LD [.int .i64, .int .i64] a w K :=
  ⟨[.int .i64 x, .int .i64 y], rfl, fun i v hi => by
    match i, hi with
    | 0, hi => simp at hi; subst hi; exact h0
    | 1, hi => simp at hi; subst hi; exact h1, hk⟩
theorem LD_int4 {K : Int → Int → Int → Int → Prop} {x y z u : Int} (h0 : w.cell? (a.add 0) = some (.int .i64 x)) (h1 : w.cell? (a.add 1) = some (.int .i64 y)) (h2 : w.cell? (a.add 2) = some (.int .i64 z)) (h3 : w.cell? (a.add 3) = some (.int .i64 u)) (hk : K x y z u) : LD [.int .i64, .int .i64, .int .i64, .int .i64] a w K :=
  ⟨[.int .i64 x, .int .i64 y, .int .i64 z, .int .i64 u], rfl, fun i v hi => by
    match i, hi with
    | 0, hi => simp at hi; subst hi; exact h0
    | 1, hi => simp at hi; subst hi; exact h1
    | 2, hi => simp at hi; subst hi; exact h2
    | 3, hi => simp at hi; subst hi; exact h3, hk⟩
theorem LD_sl3 {K : Sl → Sl → Sl → Prop} {x y z : Sl} (h0 : w.cell? (a.add 0) = some x.v) (h1 : w.cell? (a.add 1) = some y.v) (h2 : w.cell? (a.add 2) = some z.v) (hk : K x y z) : LD [.sl, .sl, .sl] a w K :=
  ⟨[x.v, y.v, z.v], rfl, fun i v hi => by
    match i, hi with
    | 0, hi => simp at hi; subst hi; exact h0
    | 1, hi => simp at hi; subst hi; exact h1
    | 2, hi => simp at hi; subst hi; exact h2, hk⟩
end

/-! ### Memory read as data -/

class Rep (α : Type) where
  sz : Nat
  rep : (Nat → Prop) → World → List Value → α → Prop
  len : ∀ {D w cs a}, rep D w cs a → cs.length = sz
  agr : ∀ {D : Nat → Prop} {w w' : World} {cs a}, (∀ b, D b → w'.heap[b]? = w.heap[b]?) → rep D w cs a → rep D w' cs a
  weak : ∀ {D D' : Nat → Prop} {w cs a}, (∀ b, D b → b < w.heap.size → D' b) → rep D w cs a → rep D' w cs a

/-- The slice s reads as the list l, by blocks in D. -/
def SlR {α : Type} [Rep α] (D : Nat → Prop) (w : World) (s : Sl) (l : List α) : Prop :=
  s.len = l.length ∧ (s.len ≤ s.cap ∧ s.cap ≤ 9223372036854775807) ∧ ∀ i x, l[i]? = some x → ∃ a cs, s.a = some a ∧ D a.block ∧ Rep.rep D w cs x ∧ ∀ j v, cs[j]? = some v → w.cell? (a.add (i * Rep.sz α + j)) = some v

instance : Rep Int where
  sz := 1
  rep _ _ cs n := cs = [.int .i64 n] ∧ I64 n
  len h := by rw [h.1]; rfl
  agr _ h := h
  weak _ h := h

instance : Rep Bool where
  sz := 1
  rep _ _ cs n := cs = [.bool n]
  len h := by rw [h]; rfl
  agr _ h := h
  weak _ h := h

instance : Rep (Int × Int) where
  sz := 2
  rep _ _ cs n := cs = [.int .i64 n.1, .int .i64 n.2] ∧ I64 n.1 ∧ I64 n.2
  len h := by rw [h.1]; rfl
  agr _ h := h
  weak _ h := h

instance : Rep (Int × Int × Int × Int) where
  sz := 4
  rep _ _ cs n := cs = [.int .i64 n.1, .int .i64 n.2.1, .int .i64 n.2.2.1, .int .i64 n.2.2.2] ∧ I64 n.1 ∧ I64 n.2.1 ∧ I64 n.2.2.1 ∧ I64 n.2.2.2
  len h := by rw [h.1]; rfl
  agr _ h := h
  weak _ h := h

section
variable {α : Type} [Rep α] {D D' : Nat → Prop} {w w' : World} {s : Sl} {l : List α}

theorem SlR.agr (hE : ∀ b, D b → w'.heap[b]? = w.heap[b]?) (h : SlR D w s l) : SlR D w' s l :=
  ⟨h.1, h.2.1, fun i x hx => by
    obtain ⟨a, cs, h1, h2, h3, h4⟩ := h.2.2 i x hx
    exact ⟨a, cs, h1, h2, Rep.agr hE h3, fun j v hj => by
      have hb : w'.heap[(a.add (i * Rep.sz α + j)).block]? = w.heap[(a.add (i * Rep.sz α + j)).block]? := by rw [add_block]; exact hE _ h2
      rw [World.cell?_of_block hb]; exact h4 j v hj⟩⟩

theorem SlR.weak (hD : ∀ b, D b → b < w.heap.size → D' b) (h : SlR D w s l) (hsz : 0 < Rep.sz α) : SlR D' w s l :=
  ⟨h.1, h.2.1, fun i x hx => by
    obtain ⟨a, cs, h1, h2, h3, h4⟩ := h.2.2 i x hx
    have hl : cs.length = Rep.sz α := Rep.len h3
    have hlt : a.block < w.heap.size := by
      have := cell_lt (h4 0 cs[0] (by simp))
      rwa [add_block] at this
    exact ⟨a, cs, h1, hD _ h2 hlt, Rep.weak hD h3, h4⟩⟩
end

class RepP (α : Type) extends Rep α where
  pos : 0 < sz

instance : RepP Int := ⟨by decide⟩
instance : RepP Bool := ⟨by decide⟩
instance : RepP (Int × Int) := ⟨by decide⟩
instance : RepP (Int × Int × Int × Int) := ⟨by decide⟩

instance {α : Type} [RepP α] : Rep (List α) where
  sz := 1
  rep D w cs l := ∃ s : Sl, cs = [s.v] ∧ SlR D w s l
  len h := by obtain ⟨s, rfl, _⟩ := h; rfl
  agr hE h := by obtain ⟨s, rfl, h⟩ := h; exact ⟨s, rfl, h.agr hE⟩
  weak hD h := by obtain ⟨s, rfl, h⟩ := h; exact ⟨s, rfl, h.weak hD RepP.pos⟩

instance {α : Type} [RepP α] : RepP (List α) := ⟨by show 0 < 1; decide⟩

abbrev R {α : Type} [Rep α] (w : World) (s : Sl) (l : List α) : Prop := SlR (fun _ => True) w s l

section
variable {α : Type} [RepP α] {D : Nat → Prop} {w w' : World} {s : Sl} {l : List α}

theorem SlR.any (h : SlR D w s l) : R w s l := h.weak (fun _ _ _ => trivial) RepP.pos
theorem SlR.below (h : SlR D w s l) : SlR (fun b => D b ∧ b < w.heap.size) w s l := h.weak (fun _ h1 h2 => ⟨h1, h2⟩) RepP.pos
theorem SlR.ext (hE : Ext w w') (h : SlR D w s l) : SlR D w' s l := by
  have h1 := h.below.agr (w' := w') fun b hb => hE.same hb.2
  exact h1.weak (fun _ h2 _ => h2.1) RepP.pos
theorem SlR.len (h : SlR D w s l) : s.len = l.length := h.1
theorem SlR.le (h : SlR D w s l) : l.length ≤ 9223372036854775807 := by have := h.1; have := h.2.1; omega
end

/-- The element of a slice: its address, and what lies there. -/
theorem SlR.ix {α : Type} [RepP α] {D : Nat → Prop} {w : World} {s : Sl} {l : List α} (h : SlR D w s l) {i : Int} {n : Nat} (hn : n = Rep.sz α) (h0 : 0 ≤ i) (hi : i < l.length) {K : Addr → Prop}
    (hk : ∀ p cs, Rep.rep D w cs (l[i.toNat]'(by omega)) → (∀ j v, cs[j]? = some v → w.cell? (p.add j) = some v) → K p) : IX s i n K := by
  obtain ⟨a, cs, h1, h2, h3, h4⟩ := h.2.2 i.toNat (l[i.toNat]'(by omega)) (by simp)
  refine ⟨a, h1, h0, by rw [h.1]; exact hi, hk _ cs h3 fun j v hj => ?_⟩
  subst hn
  rw [add_add]
  exact h4 j v hj

theorem SlR.ixI {D : Nat → Prop} {w : World} {s : Sl} {l : List Int} (h : SlR D w s l) {i : Nat} (hi : i < l.length) {K : Addr → Prop}
    (hk : ∀ p, I64 l[i] → w.cell? p = some (.int .i64 l[i]) → K p) : IX s i 1 K :=
  h.ix rfl (by omega) (by omega) fun p cs hr hc => by
    obtain ⟨rfl, h64⟩ := hr
    exact hk p h64 (hc 0 _ rfl)

theorem SlR.ixB {D : Nat → Prop} {w : World} {s : Sl} {l : List Bool} (h : SlR D w s l) {i : Nat} (hi : i < l.length) {K : Addr → Prop}
    (hk : ∀ p, w.cell? p = some (.bool l[i]) → K p) : IX s i 1 K :=
  h.ix rfl (by omega) (by omega) fun p cs hr hc => by
    have hr' : cs = [.bool l[i]] := hr
    subst hr'
    exact hk p (hc 0 _ rfl)

theorem SlR.ixE {D : Nat → Prop} {w : World} {s : Sl} {l : List (Int × Int)} (h : SlR D w s l) {i : Nat} (hi : i < l.length) {K : Addr → Prop}
    (hk : ∀ p, I64 l[i].1 → I64 l[i].2 → w.cell? (p.add 0) = some (.int .i64 l[i].1) → w.cell? (p.add 1) = some (.int .i64 l[i].2) → K p) : IX s i 2 K :=
  h.ix rfl (by omega) (by omega) fun p cs hr hc => by
    obtain ⟨rfl, ha, hb⟩ := hr
    exact hk p ha hb (hc 0 _ rfl) (hc 1 _ rfl)

theorem SlR.ixQ {D : Nat → Prop} {w : World} {s : Sl} {l : List (Int × Int × Int × Int)} (h : SlR D w s l) {i : Nat} (hi : i < l.length) {K : Addr → Prop}
    (hk : ∀ p, w.cell? (p.add 0) = some (.int .i64 l[i].1) → w.cell? (p.add 1) = some (.int .i64 l[i].2.1) → w.cell? (p.add 2) = some (.int .i64 l[i].2.2.1) → w.cell? (p.add 3) = some (.int .i64 l[i].2.2.2) → K p) : IX s i 4 K :=
  h.ix rfl (by omega) (by omega) fun p cs hr hc => by
    obtain ⟨rfl, _⟩ := hr
    exact hk p (hc 0 _ rfl) (hc 1 _ rfl) (hc 2 _ rfl) (hc 3 _ rfl)

theorem SlR.ixL {α : Type} [RepP α] {D : Nat → Prop} {w : World} {s : Sl} {l : List (List α)} (h : SlR D w s l) {i : Nat} (hi : i < l.length) {K : Addr → Prop}
    (hk : ∀ p (s' : Sl), SlR D w s' l[i] → w.cell? p = some s'.v → K p) : IX s i 1 K :=
  h.ix rfl (by omega) (by omega) fun p cs hr hc => by
    obtain ⟨s', rfl, hs⟩ := hr
    exact hk p s' hs (hc 0 _ rfl)

theorem not_mem_take_succ {α : Type} {l : List α} {n : α} {i : Nat} (hi : i < l.length) (h : n ∉ l.take i) (hne : l[i] ≠ n) : n ∉ l.take (i + 1) := by
  rw [List.take_succ_eq_append_getElem hi]
  intro hm
  rcases List.mem_append.1 hm with h1 | h1
  · exact h h1
  · exact hne (List.mem_singleton.1 h1).symm

/-! ### Loops over an index -/

def IN (N : Nat) (I : Nat → World → Prop) (x : Int) (w : World) : Prop := ∃ i : Nat, x = i ∧ i ≤ N ∧ I i w
def MN (N : Nat) (x : Int) (_ : World) : Nat := N - x.toNat

theorem IN_zero {N : Nat} {I : Nat → World → Prop} {w : World} (h : I 0 w) : IN N I 0 w := ⟨0, rfl, Nat.zero_le _, h⟩

theorem IN_next {N i : Nat} {I : Nat → World → Prop} {w w' : World} (hN : N ≤ 9223372036854775807) (hi : i < N) (h : I (i + 1) w) :
    IN N I (IntKind.i64.wrap ((i : Int) + 1)) w ∧ MN N (IntKind.i64.wrap ((i : Int) + 1)) w < MN N i w' := by
  rw [wrap_of (by omega) (by omega)]
  exact ⟨⟨i + 1, by omega, hi, h⟩, by unfold MN; omega⟩

/-- A call that only computes, or that makes memory, in a region whose order is open. -/
theorem QCALL_bool {P : Program} {f : FuncId} {args : Array Value} {w : World} {K : Bool → Prop} (b : Bool)
    (h : ∀ w', Ext w w' → Calls P f args w' (Ret [.at .bool] fun (c : Bool) w'' => c = b ∧ Ext w' w'')) (hk : K b) : QCALL P f args w [.at .bool] K :=
  ⟨.bool b, [.bool b], rfl, fun w' hw => (h w' hw).mono fun e w'' he => by
    cases e with
    | returned v =>
      simp only [Ret] at he
      cases v <;> simp [unR, Sh.cells, app, At.un, atsR, botW] at he
      obtain ⟨rfl, h2⟩ := he
      exact ⟨rfl, h2⟩
    | panicked _ => exact he.elim
    | outgrown => exact he.elim, hk⟩

theorem QCALL_int {P : Program} {f : FuncId} {args : Array Value} {w : World} {K : Int → Prop} (b : Int)
    (h : ∀ w', Ext w w' → Calls P f args w' (Ret [.at (.int .i64)] fun (c : Int) w'' => c = b ∧ Ext w' w'')) (hk : K b) : QCALL P f args w [.at (.int .i64)] K :=
  ⟨.int .i64 b, [.int .i64 b], rfl, fun w' hw => (h w' hw).mono fun e w'' he => by
    cases e with
    | returned v =>
      simp only [Ret] at he
      cases v with
      | int k n =>
        cases k <;> simp [unR, Sh.cells, app, At.un, atsR, botW] at he
        obtain ⟨rfl, h2⟩ := he
        exact ⟨rfl, h2⟩
      | _ => simp [unR, Sh.cells, app, At.un, atsR, botW] at he
    | panicked _ => exact he.elim
    | outgrown => exact he.elim, hk⟩

theorem CALLV_mk {P : Program} {g : FuncId} {caps : List Value} {args : Array Value} {w : World} {R : Ending → World → Prop} (hc : callable P g = true) (h : Calls P g ⟨args.toList ++ caps⟩ w R) : CALLV P (.func (.func g) #[] ⟨caps⟩) args w R :=
  ⟨g, caps, rfl, hc, h⟩


/-! ### Branches -/

section
variable {X Y : Prop}
theorem cond_t {b : Bool} (h : b = true) (hx : X) : cond b X Y := by subst h; exact hx
theorem cond_f {b : Bool} (h : b = false) (hy : Y) : cond b X Y := by subst h; exact hy
theorem cond_b {b : Bool} (ht : b = true → X) (hf : b = false → Y) : cond b X Y := by cases b; exact hf rfl; exact ht rfl
theorem cond_not {b : Bool} (hf : b = false → X) (ht : b = true → Y) : cond (!b) X Y := by cases b; exact hf rfl; exact ht rfl
theorem cond_dec {p : Prop} [Decidable p] (ht : p → X) (hf : ¬ p → Y) : cond (decide p) X Y := by
  by_cases h : p
  · rw [decide_eq_true h]; exact ht h
  · rw [decide_eq_false h]; exact hf h
theorem cond_dt {p : Prop} [Decidable p] (h : p) (hx : X) : cond (decide p) X Y := by rw [decide_eq_true h]; exact hx
theorem cond_df {p : Prop} [Decidable p] (h : ¬ p) (hy : Y) : cond (decide p) X Y := by rw [decide_eq_false h]; exact hy
theorem cond_eq {a b : Int} (ht : a = b → X) (hf : a ≠ b → Y) : cond (a == b) X Y := by
  by_cases h : a = b
  · rw [beq_iff_eq.2 h]; exact ht h
  · rw [beq_eq_false_iff_ne.2 h]; exact hf h
theorem cond_ne {a b : Int} (ht : a ≠ b → X) (hf : a = b → Y) : cond (a != b) X Y := by
  by_cases h : a = b
  · rw [bne_eq_false_iff_eq.2 h]; exact hf h
  · rw [bne_iff_ne.2 h]; exact ht h
end

/-! ### Small builtins -/

theorem Ret_bool {Q : Bool → World → Prop} {e : Ending} {w : World} (h : Ret [.at .bool] Q e w) : ∃ b, e = .returned (.bool b) ∧ Q b w := by
  cases e with
  | returned v =>
    simp only [Ret] at h
    cases v <;> simp [unR, Sh.cells, app, At.un, atsR, botW] at h
    exact ⟨_, rfl, h⟩
  | panicked _ => exact h.elim
  | outgrown => exact h.elim


/-! ### Slices of the call's own -/

/-- What is asked of a slice type: its elements' type, their cells and bytes, their zero value. -/
structure SlT (P : Program) (t e : TypeId) (size bytes : Nat) (z : Value) : Prop where
  under : P.underlying t = some (.slice e)
  info : (P.info? e).map (fun i => (i.zero, i.size, i.bytes)) = some (some z, size, bytes)
  zs : z.cells.size = size
  pos : 0 < size

theorem SlT.parts {P : Program} {t e : TypeId} {size bytes : Nat} {z : Value} (h : SlT P t e size bytes z) : ∃ i, P.info? e = some i ∧ i.zero = some z ∧ i.size = size ∧ i.bytes = bytes := by
  have := h.info
  cases hi : P.info? e with
  | none => rw [hi] at this; cases this
  | some i => rw [hi] at this; simp at this; exact ⟨i, rfl, this.1, this.2.1, this.2.2⟩

/-- The slice s is the call's own: its cells. -/
def Own (w : World) (base : Nat) (e : TypeId) (size : Nat) (s : Sl) (xs : List Value) : Prop := w.ownsRow base e size s.v s.len xs

theorem Own.nil (w : World) (base : Nat) (e : TypeId) (size : Nat) : Own w base e size ⟨none, 0, 0⟩ [] := World.ownsRow_nil w base e size

theorem Own.length {w : World} {base : Nat} {e : TypeId} {size : Nat} {s : Sl} {xs : List Value} (h : Own w base e size s xs) : xs.length = s.len * size := h.1

/-- What is behind a step that may write to one block of the call's own, and may make blocks. -/
structure Step (w w' : World) (g : Option Nat) : Prop where
  os : w'.os = w.os
  tape : w'.tape = w.tape
  output : w'.output = w.output
  size : w.heap.size ≤ w'.heap.size
  block : ∀ k, k < w.heap.size → some k ≠ g → w'.heap[k]? = w.heap[k]?

theorem Step.of_grown {w w' : World} {g : Option Nat} (h : w.grownBy w' g) : Step w w' g := ⟨h.os, h.tape, h.output, h.size, h.block⟩
theorem Step.ext {w w' : World} (h : Step w w' none) : Ext w w' := ⟨h.os, h.tape, h.output, h.size, fun k hk => h.block k hk (by simp)⟩
theorem Step.of_ext {w w' : World} (h : Ext w w') (g : Option Nat) : Step w w' g := ⟨h.os, h.tape, h.output, h.size, fun k hk _ => h.block k hk⟩
theorem Step.ext0 {w0 w w' : World} {g : Option Nat} (h : Step w w' g) (hE : Ext w0 w) (hg : ∀ k, g = some k → w0.heap.size ≤ k) : Ext w0 w' :=
  ⟨h.os.trans hE.os, h.tape.trans hE.tape, h.output.trans hE.output, Nat.le_trans hE.size h.size, fun k hk => (h.block k (Nat.lt_of_lt_of_le hk hE.size) (fun e => by have := hg k e.symm; omega)).trans (hE.block k hk)⟩

theorem Step.trans {a b c : World} {g : Option Nat} (h : Step a b g) (k : Step b c g) : Step a c g :=
  ⟨k.os.trans h.os, k.tape.trans h.tape, k.output.trans h.output, Nat.le_trans h.size k.size, fun b hb hne => (k.block b (Nat.lt_of_lt_of_le hb h.size) hne).trans (h.block b hb hne)⟩

theorem Step.refl (w : World) (g : Option Nat) : Step w w g := ⟨rfl, rfl, rfl, Nat.le_refl _, fun _ _ _ => rfl⟩

theorem Own.blk {w : World} {base : Nat} {e : TypeId} {size : Nat} {s : Sl} {xs : List Value} (h : Own w base e size s xs) : ∀ k, s.v.ownBlock = some k → base ≤ k ∧ k < w.heap.size := World.ownsRow.lt h

theorem Own.keep {w w' : World} {base : Nat} {e : TypeId} {size : Nat} {s : Sl} {xs : List Value} (h : Own w base e size s xs) (hb : ∀ k, s.v.ownBlock = some k → w'.heap[k]? = w.heap[k]?) : Own w' base e size s xs := by
  refine ⟨h.1, ?_⟩
  rcases h.2 with hn | ⟨g, cap, cur, hv, hb', hg, rest⟩
  · exact .inl hn
  · refine .inr ⟨g, cap, cur, hv, hb', ?_, rest⟩
    rw [hb g (by rw [hv]; rfl)]; exact hg

theorem Own.ext {w w' : World} {base : Nat} {e : TypeId} {size : Nat} {s : Sl} {xs : List Value} (h : Own w base e size s xs) (hE : Ext w w') : Own w' base e size s xs :=
  h.keep fun k hk => hE.same (h.blk k hk).2

class Flat (α : Type) extends RepP α where
  cells : α → List Value
  ok : α → Prop
  size : ∀ a, (cells a).length = sz
  one : ∀ a, ∀ v ∈ cells a, v.oneCell' = true
  repOk : ∀ {D w a}, ok a → rep D w (cells a) a
  ofRep : ∀ {D w cs a}, rep D w cs a → cs = cells a ∧ ok a

instance : Flat Int where
  cells n := [.int .i64 n]
  ok n := I64 n
  size _ := rfl
  one _ v hv := by simp at hv; subst hv; rfl
  repOk h := ⟨rfl, h⟩
  ofRep h := ⟨h.1, h.2⟩

instance : Flat Bool where
  cells n := [.bool n]
  ok _ := True
  size _ := rfl
  one _ v hv := by simp at hv; subst hv; rfl
  repOk _ := rfl
  ofRep h := ⟨h, trivial⟩

instance : Flat (Int × Int) where
  cells n := [.int .i64 n.1, .int .i64 n.2]
  ok n := I64 n.1 ∧ I64 n.2
  size _ := rfl
  one _ v hv := by simp at hv; rcases hv with rfl | rfl <;> rfl
  repOk h := ⟨rfl, h⟩
  ofRep h := ⟨h.1, h.2⟩

instance : Flat (Int × Int × Int × Int) where
  cells n := [.int .i64 n.1, .int .i64 n.2.1, .int .i64 n.2.2.1, .int .i64 n.2.2.2]
  ok n := I64 n.1 ∧ I64 n.2.1 ∧ I64 n.2.2.1 ∧ I64 n.2.2.2
  size _ := rfl
  one _ v hv := by simp at hv; rcases hv with rfl | rfl | rfl | rfl <;> rfl
  repOk h := ⟨rfl, h⟩
  ofRep h := ⟨h.1, h.2⟩

/-- The call's own slice s holds the list l. -/
def OwnL {α : Type} [Flat α] (w : World) (base : Nat) (e : TypeId) (s : Sl) (l : List α) : Prop :=
  s.len = l.length ∧ Own w base e (Rep.sz α) s (l.flatMap Flat.cells)

section
variable {α : Type} [Flat α] {w w' : World} {base : Nat} {e : TypeId} {s : Sl} {l : List α}

theorem flat_get (l : List α) {i j : Nat} {x : α} {v : Value} (hx : l[i]? = some x) (hv : (Flat.cells x)[j]? = some v) : (l.flatMap Flat.cells)[i * Rep.sz α + j]? = some v := by
  induction l generalizing i with
  | nil => cases hx
  | cons y r ih =>
    simp only [List.flatMap_cons]
    cases i with
    | zero =>
      simp at hx; subst hx
      have hlt := (List.getElem?_eq_some_iff.1 hv).1
      rw [List.getElem?_append_left (by simpa using hlt)]
      simpa using hv
    | succ i =>
      have hl : (Flat.cells y).length = Rep.sz α := Flat.size y
      rw [List.getElem?_append_right (by rw [hl, Nat.succ_mul]; omega), hl, show (i + 1) * Rep.sz α + j - Rep.sz α = i * Rep.sz α + j by rw [Nat.succ_mul]; omega]
      exact ih (by simpa using hx)

theorem OwnL.ext (h : OwnL w base e s l) (hE : Ext w w') : OwnL w' base e s l := ⟨h.1, h.2.ext hE⟩
theorem OwnL.keep (h : OwnL w base e s l) (hb : ∀ k, s.v.ownBlock = some k → w'.heap[k]? = w.heap[k]?) : OwnL w' base e s l := ⟨h.1, h.2.keep hb⟩
theorem OwnL.blk (h : OwnL w base e s l) : ∀ k, s.v.ownBlock = some k → base ≤ k ∧ k < w.heap.size := h.2.blk
theorem OwnL.nil (w : World) (base : Nat) (e : TypeId) : OwnL w base e ⟨none, 0, 0⟩ ([] : List α) := ⟨rfl, Own.nil _ _ _ _⟩

/-- What is owned reads as a list. -/
theorem OwnL.rep (h : OwnL w base e s l) (hok : ∀ x ∈ l, Flat.ok x) : SlR (fun b => base ≤ b) w s l := by
  obtain ⟨h1, h2⟩ := h
  refine ⟨h1, ?_, fun i x hx => ?_⟩
  · rcases h2.2 with ⟨hv, h0⟩ | ⟨g, cap, cur, hv, _, _, hle, hmx, _⟩
    · simp [Sl.v] at hv; omega
    · simp [Sl.v] at hv; obtain ⟨_, rfl⟩ := hv; exact ⟨hle, hmx⟩
  · rcases h2.2 with ⟨hv, h0⟩ | ⟨g, cap, cur, hv, hb, hg, hle, _, hsz, htake⟩
    · rw [h0] at h1; have : l = [] := by cases l; rfl; simp at h1
      subst this; cases hx
    · simp [Sl.v] at hv
      obtain ⟨ha, rfl⟩ := hv
      refine ⟨⟨g, 0, none⟩, Flat.cells x, ha, hb, Flat.repOk (hok x (List.mem_of_getElem? hx)), fun j v hj => ?_⟩
      have hown : w.ownsRow base e (Rep.sz α) s.v s.len (l.flatMap Flat.cells) := h2
      exact World.ownsRow.cells hown (g := g) (by simp [Sl.v, ha, Value.ownBlock]) _ v (flat_get l hx hj)

/-- The place of an element. -/
def Plc (s : Sl) (i size : Nat) (p : Addr) : Prop := ∃ a, s.a = some a ∧ p = a.add (i * size)

theorem IX_own (h : OwnL w base e s l) {i : Nat} (hi : i < l.length) {n : Nat} (hn : n = Rep.sz α) {K : Addr → Prop} (hk : ∀ p, Plc s i (Rep.sz α) p → K p) : IX s i n K := by
  subst hn
  rcases h.2.2 with ⟨hv, h0⟩ | ⟨g, cap, cur, hv, _⟩
  · rw [h.1] at h0; omega
  · simp [Sl.v] at hv
    exact ⟨_, hv.1, by omega, by rw [h.1]; omega, hk _ ⟨_, hv.1, by simp⟩⟩

end

theorem setMany_own {base : Nat} {e : TypeId} {size : Nat} {g n cap : Nat} : ∀ (vs : List Value) (i : Nat) (xs : List Value) (w : World) (K : World → Prop),
    w.ownsRow base e size (.slice (some ⟨g, 0, none⟩) n cap) n xs → (∀ v ∈ vs, v.oneCell' = true) → i + vs.length ≤ xs.length →
    (∀ w', w'.ownsRow base e size (.slice (some ⟨g, 0, none⟩) n cap) n (xs.take i ++ vs ++ xs.drop (i + vs.length)) → Step w w' (some g) → K w') → ∀ (a : Addr) (k : Nat), a.add k = ⟨g, i, none⟩ → ST a k vs w K
  | [], i, xs, w, K, h, _, hl, hk, a, k, _ => by
    refine hk w (by simpa using h) ⟨rfl, rfl, rfl, Nat.le_refl _, fun _ _ _ => rfl⟩
  | v :: vs, i, xs, w, K, h, h1, hl, hk, a, k, ha => by
    have hil : i < xs.length := by simp at hl; omega
    have hin : i < n * size := by rw [← h.1]; exact hil
    refine ⟨h1 v (by simp), ⟨xs[i], ?_⟩, ?_, ?_⟩
    · rw [ha, h.cellAt i hin]; simp [hil]
    · rw [ha]; exact h.frozenAt i
    · rw [ha]
      obtain ⟨hst, hgr⟩ := h.stored i v
      have hak : a.add (k + 1) = ⟨g, i + 1, none⟩ := by rw [← add_add, ha]; rfl
      refine setMany_own vs (i + 1) (xs.set i v) _ K hst (fun u hu => h1 u (by simp [hu])) (by simp at hl ⊢; omega) (fun w' hw' hs' => hk w' ?_ ?_) a (k + 1) hak
      · have e1 : (xs.set i v).take (i + 1) ++ vs ++ (xs.set i v).drop (i + 1 + vs.length) = xs.take i ++ v :: vs ++ xs.drop (i + (v :: vs).length) := by
          rw [List.drop_set_of_lt (by omega), List.take_set, List.take_succ_eq_append_getElem hil, List.set_append_right _ _ (by simp; omega)]
          simp [Nat.min_eq_left (Nat.le_of_lt hil), Nat.add_assoc, Nat.add_comm 1]
        rw [← e1]; exact hw'
      · refine ⟨hs'.os.trans hgr.os, hs'.tape.trans hgr.tape, hs'.output.trans hgr.output, Nat.le_trans hgr.size hs'.size, fun b hb hne => ?_⟩
        rw [hs'.block b (Nat.lt_of_lt_of_le hb hgr.size) hne, hgr.block b hb hne]

theorem flat_set {α : Type} [Flat α] (l : List α) {i : Nat} (hi : i < l.length) (x : α) :
    (l.set i x).flatMap Flat.cells = (l.flatMap Flat.cells).take (i * Rep.sz α) ++ Flat.cells x ++ (l.flatMap Flat.cells).drop (i * Rep.sz α + (Flat.cells x).length) := by
  have hl : ∀ y : α, (Flat.cells y).length = Rep.sz α := Flat.size
  induction l generalizing i with
  | nil => simp at hi
  | cons y r ih =>
    cases i with
    | zero => simp [hl]
    | succ i =>
      have := ih (i := i) (by simpa using hi)
      simp only [List.set_cons_succ, List.flatMap_cons, this, hl]
      rw [show (i + 1) * Rep.sz α = Rep.sz α + i * Rep.sz α by rw [Nat.succ_mul, Nat.add_comm]]
      have e1 : (Flat.cells y ++ List.flatMap Flat.cells r).take (Rep.sz α + i * Rep.sz α) = Flat.cells y ++ (List.flatMap Flat.cells r).take (i * Rep.sz α) := by
        rw [← hl y, List.take_length_add_append]
      have e2 : (Flat.cells y ++ List.flatMap Flat.cells r).drop (Rep.sz α + i * Rep.sz α + Rep.sz α) = (List.flatMap Flat.cells r).drop (i * Rep.sz α + Rep.sz α) := by
        rw [Nat.add_assoc, ← hl y, List.drop_length_add_append]
      rw [e1, e2]
      simp

section
variable {α : Type} [Flat α] {w w' : World} {base : Nat} {e : TypeId} {s : Sl} {l : List α}

/-- A store into the call's own slice. -/
theorem ST_own (h : OwnL w base e s l) {i : Nat} (hi : i < l.length) {p : Addr} (hp : Plc s i (Rep.sz α) p) (x : α) {vs : List Value} (hvs : vs = Flat.cells x) {K : World → Prop}
    (hk : ∀ w', OwnL w' base e s (l.set i x) → Step w w' s.v.ownBlock → K w') : ST p 0 vs w K := by
  subst hvs
  obtain ⟨a, ha, rfl⟩ := hp
  rcases h.2.2 with ⟨hv, h0⟩ | ⟨g, cap, cur, hv, _⟩
  · rw [h.1] at h0; omega
  · have hv' := hv
    simp [Sl.v] at hv
    obtain ⟨hsa, rfl⟩ := hv
    rw [hsa] at ha; cases ha
    have hown : w.ownsRow base e (Rep.sz α) (.slice (some ⟨g, 0, none⟩) s.len s.cap) s.len (l.flatMap Flat.cells) := by
      have := h.2; unfold Own at this; rw [hv'] at this; exact this
    have hlen : (l.flatMap Flat.cells).length = l.length * Rep.sz α := by have := h.2.length; rwa [h.1] at this
    have hcl : (Flat.cells x).length = Rep.sz α := Flat.size x
    refine setMany_own (Flat.cells x) (i * Rep.sz α) _ w K hown (Flat.one x) ?_ (fun w' hw' hs => hk w' ⟨by simp [h.1], ?_⟩ (by rw [hv']; exact hs)) _ 0 (by rw [add_zero']; simp only [Addr.add]; split <;> simp_all)
    · rw [hlen, hcl]
      have : (i + 1) * Rep.sz α ≤ l.length * Rep.sz α := Nat.mul_le_mul_right _ hi
      rw [Nat.succ_mul] at this; omega
    · unfold Own
      rw [hv', flat_set l hi x]
      exact hw'
end

/-- make([]T, n). -/
theorem RUN_make {α : Type} [Flat α] {P : Program} {t e : TypeId} {bytes : Nat} {z : Value} {d : α} (hT : SlT P t e (Rep.sz α) bytes z) (hz : z.cells.toList = Flat.cells d) {n : Nat} (hb : bytes * n ≤ 281474976710656) (h63 : n ≤ maxLen) {w : World} {K : Sl → World → Prop}
    (hk : ∀ s w', Ext w w' → OwnL w' w.heap.size e s (List.replicate n d) → K s w') : RUN P (.at .sl) (Instr.makeSlice t (.int .i64 (n : Int)) (.int .i64 (n : Int))) w K := by
  obtain ⟨i, hi, hz0, hs, hby⟩ := hT.parts
  obtain ⟨w', hr, hown, hg⟩ := run_make_full (P := P) w w.heap.size t e i z (Rep.sz α) hT.under hi hz0 hs .i64 .i64 n (by rw [hby]; exact hb) h63 (Nat.le_refl _)
  unfold RUN
  rw [hr]
  refine hk ⟨some ⟨w.heap.size, 0, none⟩, n, n⟩ w' (Step.of_grown hg).ext ⟨by simp, ?_⟩
  unfold Own
  have hcells : (madeCells z.cells (n * Rep.sz α)).toList = (List.replicate n d).flatMap Flat.cells := by
    have hsz : z.cells.size = Rep.sz α := hT.zs
    have hpos := hT.pos
    apply List.ext_getElem?
    intro j
    by_cases hj : j < n * Rep.sz α
    · have hlt : j % Rep.sz α < Rep.sz α := Nat.mod_lt _ hpos
      have hdl : (Flat.cells d).length = Rep.sz α := Flat.size d
      have h1 : (List.replicate n d)[j / Rep.sz α]? = some d := by
        rw [List.getElem?_replicate, if_pos ((Nat.div_lt_iff_lt_mul hpos).2 hj)]
      have h2 : (Flat.cells d)[j % Rep.sz α]? = some (Flat.cells d)[j % Rep.sz α] := by simp [hdl, hlt]
      have h3 := flat_get (List.replicate n d) h1 h2
      rw [Nat.div_add_mod' j (Rep.sz α)] at h3
      rw [h3]
      simp only [madeCells]
      simp [hj, hsz]
      have : z.cells[j % Rep.sz α]! = (Flat.cells d)[j % Rep.sz α] := by
        have hh : j % Rep.sz α < z.cells.size := by rw [hsz]; exact hlt
        rw [getElem!_pos z.cells _ hh]
        have : z.cells[j % Rep.sz α] = z.cells.toList[j % Rep.sz α]'(by simpa using hh) := by simp
        rw [this]
        simp only [hz]
      exact this
    · have hl2 : ((List.replicate n d).flatMap Flat.cells).length = n * Rep.sz α := by
        have : ∀ m, ((List.replicate m d).flatMap Flat.cells).length = m * Rep.sz α := by
          intro m
          induction m with
          | zero => simp
          | succ m ih => rw [List.replicate_succ, List.flatMap_cons, List.length_append, ih, Flat.size d, Nat.succ_mul, Nat.add_comm]
        exact this n
      rw [List.getElem?_eq_none (by simp [madeCells]; omega), List.getElem?_eq_none (by rw [hl2]; omega)]
  show w'.ownsRow w.heap.size e (Rep.sz α) (.slice (some ⟨w.heap.size, 0, none⟩) n n) n _
  rw [← hcells]
  exact hown


/-! ### Literals and append -/

theorem foldl_sets : ∀ (l : List Value) (k : Nat) (ys : List Value), k + l.length ≤ ys.length →
    (l.zipIdx k).foldl (fun (cs : List Value) x => cs.set (0 + x.2) x.1) ys = ys.take k ++ l ++ ys.drop (k + l.length)
  | [], k, ys, h => by simp
  | v :: l, k, ys, h => by
    have hk : k < ys.length := by simp at h; omega
    simp only [List.zipIdx_cons, List.foldl_cons]
    rw [foldl_sets l (k + 1) _ (by simp at h ⊢; omega)]
    rw [Nat.zero_add, List.drop_set_of_lt (by omega), List.take_set, List.take_succ_eq_append_getElem hk, List.set_append_right _ _ (by simp; omega)]
    simp [Nat.min_eq_left (Nat.le_of_lt hk), Nat.add_assoc, Nat.add_comm 1]

theorem fill_one (arr : Array Value) (v : Value) (sz : Nat) (h1 : arr.size = sz) (h2 : v.cells.size = sz) : Instr.fill (fun i => some (i * sz, sz)) arr [(0, v)] = some v.cells := by
  simp only [Instr.fill, Nat.zero_mul]
  rw [if_neg (by simp [h1, h2])]
  congr 1
  apply Array.ext'
  rw [← Array.foldl_toList]
  have : ∀ (l : List (Value × Nat)) (a : Array Value), (l.foldl (fun (cs : Array Value) x => cs.setIfInBounds (0 + x.2) x.1) a).toList = l.foldl (fun (cs : List Value) x => cs.set (0 + x.2) x.1) a.toList := by
    intro l
    induction l with
    | nil => intro a; rfl
    | cons x r ih => intro a; simp only [List.foldl_cons]; rw [ih]; simp
  have e : v.cells.zipIdx.toList = v.cells.toList.zipIdx 0 := by simp
  rw [e, this, foldl_sets _ _ _ (by simp; omega)]
  simp
  omega

/-- A literal of one element: []T{x}. -/
theorem RUN_lit1 {α : Type} [Flat α] {P : Program} {t e : TypeId} {bytes : Nat} {z v : Value} (hT : SlT P t e (Rep.sz α) bytes z) (x : α) (hv : v.cells.toList = Flat.cells x) (hs : Rep.sz α ≤ 1000) {w : World} {K : Sl → World → Prop}
    (hk : ∀ s w', Ext w w' → OwnL w' w.heap.size e s [x] → K s w') : RUN P (.at .sl) (Instr.buildSlice t 1 #[(0, v)]) w K := by
  obtain ⟨i, hi, hz0, hsz, hby⟩ := hT.parts
  have hvs : v.cells.size = Rep.sz α := by rw [← Array.length_toList, hv, Flat.size]
  have hr := run_buildSlice (P := P) w t e 1 #[(0, v)] v.cells i z hT.under hi hz0 (by rw [hsz]; omega) (by rw [hsz]; have := hT.pos; omega) (by rw [hsz]; exact fill_one _ v _ (by simp) hvs)
  unfold RUN
  rw [hr]
  refine hk ⟨some ⟨w.heap.size, 0, none⟩, 1, 1⟩ _ (ext_push w _) ⟨rfl, ?_⟩
  have := World.ownsRow_lit (base := w.heap.size) (e := e) (size := Rep.sz α) w v.cells 1 (Nat.le_refl _) (by unfold maxLen; omega) (by rw [hvs]; omega)
  unfold Own
  simpa [hv] using this

/-- The cells of a slice that reads as a list. -/
theorem SlR.flat {α : Type} [Flat α] {D : Nat → Prop} {w : World} {y : Sl} {m : List α} (h : SlR D w y m) {a : Addr} (ha : y.a = some a) : ∀ j u, (m.flatMap Flat.cells)[j]? = some u → w.cell? (a.add j) = some u := by
  intro j u hu
  have hpos : 0 < Rep.sz α := RepP.pos
  have hlen : (m.flatMap Flat.cells).length = m.length * Rep.sz α := by
    clear hu h
    induction m with
    | nil => simp
    | cons x r ih => rw [List.flatMap_cons, List.length_append, ih, Flat.size x, List.length_cons, Nat.succ_mul, Nat.add_comm]
  have hj : j < m.length * Rep.sz α := by rw [← hlen]; exact (List.getElem?_eq_some_iff.1 hu).1
  have hi : j / Rep.sz α < m.length := (Nat.div_lt_iff_lt_mul hpos).2 hj
  obtain ⟨a', cs, ha', _, hr, hc⟩ := h.2.2 (j / Rep.sz α) m[j / Rep.sz α] (by simp [hi])
  rw [ha] at ha'; cases ha'
  obtain ⟨rfl, _⟩ := Flat.ofRep hr
  have hmod : j % Rep.sz α < (Flat.cells m[j / Rep.sz α]).length := by rw [Flat.size]; exact Nat.mod_lt _ hpos
  have h2 : (Flat.cells m[j / Rep.sz α])[j % Rep.sz α]? = some (Flat.cells m[j / Rep.sz α])[j % Rep.sz α] := by simp [hmod]
  have h3 := flat_get m (i := j / Rep.sz α) (by simp [hi]) h2
  rw [Nat.div_add_mod' j (Rep.sz α), hu] at h3
  cases h3
  have := hc _ _ h2
  rwa [Nat.div_add_mod' j (Rep.sz α)] at this

/-- What a slice became by appending lies in the same block or in a new one. -/
def NewOr (w : World) (s s' : Sl) : Prop := s'.v.ownBlock = s.v.ownBlock ∨ ∀ k, s'.v.ownBlock = some k → w.heap.size ≤ k

/-- append(s, y...) on a slice of the call's own; what is appended reads as a list. -/
theorem RUN_appendF {α : Type} [Flat α] {P : Program} {t e : TypeId} {bytes : Nat} {z : Value} (hT : SlT P t e (Rep.sz α) bytes z) {w : World} {base : Nat} {s y : Sl} {l m : List α} (h : OwnL w base e s l) (hbase : base ≤ w.heap.size)
    {D : Nat → Prop} (hy : SlR D w y m) (hlen : (l.length + m.length) * bytes ≤ 140737488355328) (hmax : l.length + m.length ≤ maxLen) {K : Sl → World → Prop}
    (hk : ∀ s' w', OwnL w' base e s' (l ++ m) → Step w w' s.v.ownBlock → NewOr w s s' → K s' w') : RUN P (.at .sl) (bsem .append #[t, t] t #[s.v, y.v]) w K := by
  obtain ⟨i, hi, hz0, hsz, hby⟩ := hT.parts
  have hyl : (m.flatMap Flat.cells).length = m.length * Rep.sz α := by
    clear hy hlen hmax hk
    induction m with
    | nil => simp
    | cons x r ih => rw [List.flatMap_cons, List.length_append, ih, Flat.size x, List.length_cons, Nat.succ_mul, Nat.add_comm]
  have hone : ∀ u ∈ m.flatMap Flat.cells, u.oneCell' = true := by
    intro u hu
    obtain ⟨x, _, hx⟩ := List.mem_flatMap.1 hu
    exact Flat.one x u hx
  have hown : w.ownsRow base e (Rep.sz α) s.v l.length (l.flatMap Flat.cells) := by have := h.2; unfold Own at this; rwa [h.1] at this
  have fin : ∀ v' w', (Builtin.append_ #[t, t] t #[s.v, y.v]).run P w = .ok v' w' → w'.ownsRow base e (Rep.sz α) v' (l.length + m.length) (l.flatMap Flat.cells ++ m.flatMap Flat.cells) → Step w w' s.v.ownBlock → (v'.ownBlock = s.v.ownBlock ∨ ∀ k, v'.ownBlock = some k → w.heap.size ≤ k) → RUN P (.at .sl) (bsem .append #[t, t] t #[s.v, y.v]) w K := by
    intro v' w' hr ho hst hnw
    have hsl : ∃ s' : Sl, v' = s'.v ∧ s'.len = l.length + m.length := by
      rcases ho.2 with ⟨rfl, h0⟩ | ⟨g', cap', cur', rfl, _⟩
      · exact ⟨⟨none, 0, 0⟩, rfl, h0.symm⟩
      · exact ⟨⟨some ⟨g', 0, none⟩, l.length + m.length, cap'⟩, rfl, rfl⟩
    obtain ⟨s', rfl, hs'⟩ := hsl
    unfold RUN
    show (match (Builtin.append_ #[t, t] t #[s.v, y.v]).run P w with | .ok v w' => _ | .halt _ _ => False)
    rw [hr]
    refine hk s' w' ⟨by simp [hs'], ?_⟩ hst hnw
    unfold Own
    rw [hs', List.flatMap_append]
    exact ho
  cases hya : y.a with
  | none =>
    have hm : m = [] := by
      cases m with
      | nil => rfl
      | cons x r => obtain ⟨a, _, ha, _⟩ := hy.2.2 0 x rfl; rw [hya] at ha; cases ha
    subst hm
    have hyv : y.v = .slice none 0 y.cap := by have := hy.1; simp at this; simp [Sl.v, hya, this]
    refine fin s.v w ?_ (by simpa using hown) (Step.refl _ _) (.inl rfl)
    rw [hyv]
    obtain ⟨sa, sl, sc⟩ := s
    have hle : sl ≤ sc := by
      rcases hown.2 with ⟨h0, h1⟩ | ⟨g, cap, cur, h0, _, _, h1, _⟩
      · simp [Sl.v] at h0; omega
      · simp [Sl.v] at h0; omega
    cases sa <;> simp [Builtin.append_, underlying_run hT.under, sizeOf_run hi, Builtin.lenOf, hle, Builtin.firstCells, storeCells]
  | some a =>
    have hyv : y.v = .slice (some a) m.length y.cap := by rw [← hy.1]; simp [Sl.v, hya]
    obtain ⟨v', w', hr, ho, hg, _⟩ := run_append_own (P := P) w base t t e i z (Rep.sz α) bytes hT.under hi hz0 hsz hby hT.zs hT.pos s.v l.length _ hown a m.length y.cap (m.flatMap Flat.cells) hyl (hy.flat hya) hone hmax hlen hbase
    refine fin v' w' (by rw [hyv]; exact hr) ho (Step.of_grown hg) ?_
    rcases hown.2 with ⟨h0, h1⟩ | ⟨g, cap, cur, h0, hbg, hgg, hnc, hcm, hcs, htake⟩
    · right
      have hown' : w.ownsRow w.heap.size e (Rep.sz α) s.v l.length (l.flatMap Flat.cells) := ⟨hown.1, .inl ⟨h0, h1⟩⟩
      obtain ⟨v2, w2, hr2, ho2, _⟩ := run_append_own (P := P) w w.heap.size t t e i z (Rep.sz α) bytes hT.under hi hz0 hsz hby hT.zs hT.pos s.v l.length _ hown' a m.length y.cap (m.flatMap Flat.cells) hyl (hy.flat hya) hone hmax hlen (Nat.le_refl _)
      rw [hr] at hr2
      cases hr2
      exact fun k hk => (World.ownsRow.lt ho2 k hk).1
    · have hyl' : (m.flatMap Flat.cells).length = m.length * i.size := by rw [hsz]; exact hyl
      have hol' : (l.flatMap Flat.cells).length = l.length * i.size := by rw [hsz]; exact hown.1
      subst hby
      rw [h0] at hr ⊢
      by_cases hroom : l.length + m.length ≤ cap
      · left
        have hr2 := run_append_room (P := P) w t t e i hT.under hi g l.length cap cur hgg a m.length y.cap (m.flatMap Flat.cells) hyl' (hy.flat hya) hone hroom (by rw [hyl, hcs, hsz, ← Nat.add_mul]; exact Nat.mul_le_mul_right _ hroom)
        rw [hr] at hr2
        cases hr2
        rfl
      · right
        have hr2 := run_append_grow (P := P) w t t e i z hT.under hi hz0 ⟨g, 0, none⟩ l.length cap (l.flatMap Flat.cells) hol' (hown.cells (g := g) (by rw [h0]; rfl)) a m.length y.cap (m.flatMap Flat.cells) hyl' (hy.flat hya) (by omega) (by simp only [maxLen] at hmax; omega) (growslice_fits (by simp only [maxLen] at hmax; omega) hlen)
        rw [hr] at hr2
        cases hr2
        intro k hk
        simp [Value.ownBlock] at hk
        omega

theorem RUN_append {α : Type} [Flat α] {P : Program} {t e : TypeId} {bytes : Nat} {z : Value} (hT : SlT P t e (Rep.sz α) bytes z) {w : World} {base : Nat} {s y : Sl} {l m : List α} (h : OwnL w base e s l) (hbase : base ≤ w.heap.size)
    {D : Nat → Prop} (hy : SlR D w y m) (hlen : (l.length + m.length) * bytes ≤ 140737488355328) (hmax : l.length + m.length ≤ maxLen) {K : Sl → World → Prop}
    (hk : ∀ s' w', OwnL w' base e s' (l ++ m) → Step w w' s.v.ownBlock → K s' w') : RUN P (.at .sl) (bsem .append #[t, t] t #[s.v, y.v]) w K :=
  RUN_appendF hT h hbase hy hlen hmax fun s' w' h1 h2 _ => hk s' w' h1 h2

/-- An empty literal: []T{}. -/
theorem RUN_lit0 {α : Type} [Flat α] {P : Program} {t e : TypeId} {bytes : Nat} {z : Value} (hT : SlT P t e (Rep.sz α) bytes z) {w : World} {K : Sl → World → Prop}
    (hk : ∀ s w', Ext w w' → OwnL w' w.heap.size e s ([] : List α) → K s w') : RUN P (.at .sl) (Instr.buildSlice t 0 #[]) w K := by
  obtain ⟨i, hi, hz0, hsz, hby⟩ := hT.parts
  have hr : (Instr.buildSlice t 0 #[]).run P w = .ok (.slice (some ⟨w.heap.size, 0, none⟩) 0 0) { w with heap := w.heap.push (.cells #[] e) } := by
    simp [Instr.buildSlice, underlying_run hT.under, sizeOf_run hi, Instr.fill, newRow, newObj, Sem.run]
    have : (Array.range 0) = #[] := rfl
    rw [this]; simp
  unfold RUN
  rw [hr]
  refine hk ⟨some ⟨w.heap.size, 0, none⟩, 0, 0⟩ _ (ext_push w _) ⟨rfl, ?_⟩
  have := World.ownsRow_lit (base := w.heap.size) (e := e) (size := Rep.sz α) w #[] 0 (Nat.le_refl _) (by unfold maxLen; omega) (by simp)
  unfold Own
  simpa using this

/-- A slice's first elements. -/
theorem SlR.take {α : Type} [RepP α] {D : Nat → Prop} {w : World} {s : Sl} {l : List α} (h : SlR D w s l) {i : Nat} (hi : i ≤ l.length) {sz : Nat} (_ : sz = Rep.sz α) {K : Sl → Prop} (hk : ∀ s', SlR D w s' (l.take i) → K s') : SLC s none (some (i : Int)) sz K := by
  have h1 := h.1
  have h2 := h.2.1
  refine ⟨by simp, by simp, by simp; omega, hk _ ⟨by simp; omega, by simp; omega, fun j x hx => ?_⟩⟩
  rw [List.getElem?_take] at hx
  split at hx
  · obtain ⟨a, cs, ha, hb, hr, hc⟩ := h.2.2 j x hx
    refine ⟨a, cs, ?_, hb, hr, hc⟩
    simp [ha, add_zero']
  · cases hx

/-- Slices as elements. -/
instance : Rep Sl where
  sz := 1
  rep _ _ cs s := cs = [s.v]
  len h := by rw [h]; rfl
  agr _ h := h
  weak _ h := h
instance : RepP Sl := ⟨by decide⟩
instance : Flat Sl where
  cells s := [s.v]
  ok _ := True
  size _ := rfl
  one _ v hv := by simp at hv; subst hv; rfl
  repOk _ := rfl
  ofRep h := ⟨h, trivial⟩

/-- The call's own slice of slices reads as a list of lists. -/
theorem OwnL.rows {α : Type} [RepP α] {D : Nat → Prop} {w : World} {base : Nat} {e : TypeId} {s : Sl} {ss : List Sl} {l : List (List α)} (h : OwnL w base e s ss) (hlen : ss.length = l.length)
    (hr : ∀ i (h1 : i < ss.length) (h2 : i < l.length), SlR D w ss[i] l[i]) (hD : ∀ b, base ≤ b → D b) : SlR D w s l := by
  have h0 := h.rep (fun _ _ => trivial)
  refine ⟨by rw [h0.1, hlen], h0.2.1, fun i x hx => ?_⟩
  obtain ⟨h2, rfl⟩ := List.getElem?_eq_some_iff.1 hx
  have h1 : i < ss.length := by omega
  obtain ⟨a, cs, ha, hb, hcs, hc⟩ := h0.2.2 i ss[i] (by simp [h1])
  have hcs' : cs = [ss[i].v] := hcs
  subst hcs'
  exact ⟨a, _, ha, hD _ hb, ⟨ss[i], rfl, hr i h1 h2⟩, hc⟩


/-! ### Boxes -/

section
variable {w : World} {p : Addr} {t : TypeId}

theorem LD_box3 {x y z : Sl} {r : List Value} {K : Sl → Sl → Sl → Prop} (hb : Box w p t (x.v :: y.v :: z.v :: r)) (hk : K x y z) : LD [.sl, .sl, .sl] p w K :=
  LD_sl3 (hb.cell (i := 0) rfl) (hb.cell (i := 1) rfl) (hb.cell (i := 2) rfl) hk
theorem LD_bs0 {x : Sl} {r : List Value} {K : Sl → Prop} (hb : Box w p t (x.v :: r)) (hk : K x) : LD [.sl] (p.add 0) w K := LD_sl (hb.cell (i := 0) rfl) hk
theorem LD_bs1 {x : Sl} {v0 : Value} {r : List Value} {K : Sl → Prop} (hb : Box w p t (v0 :: x.v :: r)) (hk : K x) : LD [.sl] (p.add 1) w K := LD_sl (hb.cell (i := 1) rfl) hk
theorem LD_bs2 {x : Sl} {v0 v1 : Value} {r : List Value} {K : Sl → Prop} (hb : Box w p t (v0 :: v1 :: x.v :: r)) (hk : K x) : LD [.sl] (p.add 2) w K := LD_sl (hb.cell (i := 2) rfl) hk
theorem LD_bi {x : Int} {r : List Value} {K : Int → Prop} (hb : Box w p t (.int .i64 x :: r)) (hk : K x) : LD [.int .i64] p w K := LD_int (hb.cell (i := 0) rfl) hk
theorem LD_bs {x : Sl} {r : List Value} {K : Sl → Prop} (hb : Box w p t (x.v :: r)) (hk : K x) : LD [.sl] p w K := LD_sl (hb.cell (i := 0) rfl) hk
theorem LD_bi0 {x : Int} {r : List Value} {K : Int → Prop} (hb : Box w p t (.int .i64 x :: r)) (hk : K x) : LD [.int .i64] (p.add 0) w K := LD_int (hb.cell (i := 0) rfl) hk
theorem LD_bi1 {x : Int} {v0 : Value} {r : List Value} {K : Int → Prop} (hb : Box w p t (v0 :: .int .i64 x :: r)) (hk : K x) : LD [.int .i64] (p.add 1) w K := LD_int (hb.cell (i := 1) rfl) hk
theorem LD_bi2 {x : Int} {v0 v1 : Value} {r : List Value} {K : Int → Prop} (hb : Box w p t (v0 :: v1 :: .int .i64 x :: r)) (hk : K x) : LD [.int .i64] (p.add 2) w K := LD_int (hb.cell (i := 2) rfl) hk
theorem LD_bi3 {x : Int} {v0 v1 v2 : Value} {r : List Value} {K : Int → Prop} (hb : Box w p t (v0 :: v1 :: v2 :: .int .i64 x :: r)) (hk : K x) : LD [.int .i64] (p.add 3) w K := LD_int (hb.cell (i := 3) rfl) hk
theorem LD_box2 {x y : Int} {r : List Value} {K : Int → Int → Prop} (hb : Box w p t (.int .i64 x :: .int .i64 y :: r)) (hk : K x y) : LD [.int .i64, .int .i64] p w K :=
  LD_int2 (hb.cell (i := 0) rfl) (hb.cell (i := 1) rfl) hk
end

theorem ST_box {p : Addr} {t : TypeId} : ∀ (vs : List Value) (i : Nat) (cs : List Value) (w : World) (K : World → Prop), Box w p t cs → (∀ v ∈ vs, v.oneCell' = true) → i + vs.length ≤ cs.length →
    (∀ w', Step w w' (some p.block) → w'.heap.size = w.heap.size → Box w' p t (cs.take i ++ vs ++ cs.drop (i + vs.length)) → K w') → ST p i vs w K
  | [], i, cs, w, K, hb, _, _, hk => hk w (Step.refl _ _) rfl (by simpa using hb)
  | v :: vs, i, cs, w, K, hb, h1, hl, hk => by
    have hi : i < cs.length := by simp at hl; omega
    refine ⟨h1 v (by simp), ⟨cs[i], hb.cell (by simp [hi])⟩, hb.frozen i, ?_⟩
    refine ST_box vs (i + 1) (cs.set i v) _ K (hb.set i v) (fun u hu => h1 u (by simp [hu])) (by simp at hl ⊢; omega) fun w' hs hsz hb' => hk w' ?_ ?_ ?_
    · have h0 : Step w (w.setCell (p.add i) v) (some p.block) := ⟨rfl, rfl, rfl, by rw [setCell_size]; exact Nat.le_refl _, fun k _ hne => setCell_other _ _ _ (by rw [add_block]; intro he; exact hne (by rw [he]))⟩
      exact h0.trans hs
    · rw [hsz, setCell_size]
    · have e1 : (cs.set i v).take (i + 1) ++ vs ++ (cs.set i v).drop (i + 1 + vs.length) = cs.take i ++ v :: vs ++ cs.drop (i + (v :: vs).length) := by
        rw [List.drop_set_of_lt (by omega), List.take_set, List.take_succ_eq_append_getElem hi, List.set_append_right _ _ (by simp; omega)]
        simp [Nat.min_eq_left (Nat.le_of_lt hi), Nat.add_assoc, Nat.add_comm 1]
      rw [← e1]; exact hb'

/-- All cells of a box. -/
theorem ST_all {w : World} {p : Addr} {t : TypeId} {cs vs : List Value} {K : World → Prop} (hb : Box w p t cs) (h1 : ∀ v ∈ vs, v.oneCell' = true) (hl : vs.length = cs.length)
    (hk : ∀ w', Step w w' (some p.block) → w'.heap.size = w.heap.size → Box w' p t vs → K w') : ST p 0 vs w K :=
  ST_box vs 0 cs w K hb h1 (by omega) fun w' h2 h3 h4 => hk w' h2 h3 (by simpa [List.drop_of_length_le (Nat.le_of_eq hl.symm)] using h4)

/-- A new variable that is filled at once. -/
theorem NEW_ST {t : TypeId} {zs vs : List Value} {w : World} {K : Addr → World → Prop} (h1 : ∀ v ∈ vs, v.oneCell' = true) (hl : vs.length = zs.length)
    (hk : ∀ p w', p.block = w.heap.size → Ext w w' → Box w' p t vs → K p w') : NEW t ⟨zs⟩ w fun p w1 => ST p 0 vs w1 fun w2 => K p w2 :=
  NEW_intro fun p w1 hp hsz hE hb => ST_all hb h1 hl fun w2 hs _ hb2 => hk p w2 hp (hs.ext0 hE (fun k hk => by cases hk; omega)) hb2

theorem one2 (x y : Int) : ∀ v ∈ [Value.int .i64 x, .int .i64 y], v.oneCell' = true := by intro v hv; simp at hv; rcases hv with rfl | rfl <;> rfl
theorem one3 (x y z : Sl) : ∀ v ∈ [x.v, y.v, z.v], v.oneCell' = true := by intro v hv; simp at hv; rcases hv with rfl | rfl | rfl <;> rfl
theorem one1s (x : Sl) : ∀ v ∈ [x.v], v.oneCell' = true := by intro v hv; simp at hv; subst hv; rfl


/-- One step of filling. -/
theorem fill_step {α : Type} {l : List α} {i : Nat} (hi : i < l.length) (d : α) : (l.take i ++ List.replicate (l.length - i) d).set i l[i] = l.take (i + 1) ++ List.replicate (l.length - (i + 1)) d := by
  have h1 : (l.take i).length = i := by simp; omega
  rw [List.set_append_right _ _ (by omega), h1, Nat.sub_self, show l.length - i = (l.length - (i + 1)) + 1 by omega, List.replicate_succ, List.set_cons_zero, List.take_succ_eq_append_getElem hi, List.append_assoc]
  rfl

theorem fill_len {α : Type} {l : List α} {i : Nat} (hi : i ≤ l.length) (d : α) : (l.take i ++ List.replicate (l.length - i) d).length = l.length := by simp; omega

/-! ### Structs of numbers compared -/

def intFieldsOk (P : Program) : Nat → List Field → Bool
  | _, [] => true
  | k, f :: fs => f.name != "_" && (match P.underlying f.type with | some (.int _) => true | _ => false) && f.offset == k && intFieldsOk P (k + 1) fs

/-- A struct type of n fields, each a number: '==' goes field by field. -/
def intStruct (P : Program) (t : TypeId) (n : Nat) : Bool :=
  intFieldsOk P 0 (P.fieldsOf t).toList && (P.fieldsOf t).size == n && (match P.underlying t with | some (.struct _) => true | _ => false) && !P.stoodInHeld t && !P.eqGuardType P.depth t

theorem eqFields_run {P : Program} (w : World) (d : Nat) (xs ys : List Int) : ∀ (fs : List Field) (k : Nat), intFieldsOk P k fs = true → k + fs.length = xs.length → xs.length = ys.length →
    (Op.eqFields (d + 1) ⟨xs.map (Value.int .i64)⟩ ⟨ys.map (Value.int .i64)⟩ fs).run P w = .ok (xs.drop k == ys.drop k) w
  | [], k, _, hk, hl => by
    have h1 : xs.drop k = [] := List.drop_of_length_le (by simp at hk; omega)
    have h2 : ys.drop k = [] := List.drop_of_length_le (by simp at hk; omega)
    rw [h1, h2]; simp [Op.eqFields]
  | f :: fs, k, h, hk, hl => by
    simp only [intFieldsOk, Bool.and_eq_true, bne_iff_ne, beq_iff_eq] at h
    obtain ⟨⟨⟨hn, hu⟩, ho⟩, hr⟩ := h
    simp at hk
    have hx : k < xs.length := by omega
    have hy : k < ys.length := by omega
    cases hu' : P.underlying f.type with
    | none => rw [hu'] at hu; cases hu
    | some u =>
      rw [hu'] at hu
      cases u with
      | int kk =>
        have hp : ∀ (zs : List Int) (hz : k < zs.length) (w : World), (part f.type ⟨zs.map (Value.int .i64)⟩ f.offset).run P w = .ok (.int .i64 zs[k]) w := fun zs hz w => by
          simp [part, isAgg, underlying_run hu', ho, hz]
        have ih := eqFields_run (P := P) w d xs ys fs (k + 1) hr (by omega) hl
        have hd : (xs.drop k == ys.drop k) = (xs[k] == ys[k] && (xs.drop (k + 1) == ys.drop (k + 1))) := by
          rw [List.drop_eq_getElem_cons hx, List.drop_eq_getElem_cons hy, List.cons_beq_cons]
        rw [hd]
        simp only [Op.eqFields, ne_eq, hn, not_false_eq_true, if_true, Sem.run_bind, hp xs hx, hp ys hy, Result.andThen_ok, run_equalIn_int w d f.type .i64 kk _ _ hu']
        by_cases he : xs[k] = ys[k]
        · simp [he, ih]
        · simp [he]
      | _ => cases hu

theorem intStruct_eq {P : Program} {t : TypeId} {xs ys : List Int} (h : intStruct P t xs.length = true) (hl : xs.length = ys.length) (w : World) :
    (Op.equalIn 10000 t (.agg ⟨xs.map (Value.int .i64)⟩) (.agg ⟨ys.map (Value.int .i64)⟩)).run P w = .ok (xs == ys) w := by
  simp only [intStruct, Bool.and_eq_true, Bool.not_eq_true', beq_iff_eq] at h
  obtain ⟨⟨⟨⟨h1, h2⟩, h3⟩, h4⟩, _⟩ := h
  have hu : P.underlying t = some (.struct (P.fieldsOf t)) := by
    unfold Program.fieldsOf
    cases hx : P.underlying t with
    | none => rw [hx] at h3; cases h3
    | some u => rw [hx] at h3; cases u <;> first | rfl | cases h3
  rw [show (10000 : Nat) = 9999 + 1 from rfl, run_equalIn_agg w 9999 t _ _ hu h4]
  have := eqFields_run (P := P) w 9998 xs ys (P.fieldsOf t).toList 0 h1 (by simp [h2]) hl
  simpa using this

theorem intStruct_guard {P : Program} {t : TypeId} {n : Nat} (h : intStruct P t n = true) : P.eqGuardType P.depth t = false := by
  simp only [intStruct, Bool.and_eq_true, Bool.not_eq_true'] at h
  exact h.2

theorem AEQ_neq2 {P : Program} {t : TypeId} (h : intStruct P t 2 = true) {x y : Operand} {a b c d : Int} {K : Bool → Prop} (hk : K (!decide ((a, b) = (c, d)))) :
    AEQ P (do eqGuard .neq t x y (.agg #[.int .i64 a, .int .i64 b]) (.agg #[.int .i64 c, .int .i64 d]); binOp .neq t (.agg #[.int .i64 a, .int .i64 b]) (.agg #[.int .i64 c, .int .i64 d])) K :=
  ⟨_, fun w => by
    have := intStruct_eq (xs := [a, b]) (ys := [c, d]) h rfl w
    simp only [List.map_cons, List.map_nil] at this
    rw [Sem.run_bind, run_eqGuard_agg w .neq t x y _ _ (intStruct_guard h), Result.andThen_ok, run_neq_struct w t, this, Result.andThen_ok]
    by_cases h1 : a = c <;> by_cases h2 : b = d <;> simp [h1, h2], hk⟩

theorem AEQ_eql2 {P : Program} {t : TypeId} (h : intStruct P t 2 = true) {x y : Operand} {a b c d : Int} {K : Bool → Prop} (hk : K (decide ((a, b) = (c, d)))) :
    AEQ P (do eqGuard .eql t x y (.agg #[.int .i64 a, .int .i64 b]) (.agg #[.int .i64 c, .int .i64 d]); binOp .eql t (.agg #[.int .i64 a, .int .i64 b]) (.agg #[.int .i64 c, .int .i64 d])) K :=
  ⟨_, fun w => by
    have := intStruct_eq (xs := [a, b]) (ys := [c, d]) h rfl w
    simp only [List.map_cons, List.map_nil] at this
    rw [Sem.run_bind, run_eqGuard_agg w .eql t x y _ _ (intStruct_guard h), Result.andThen_ok, run_eql_struct w t, this, Result.andThen_ok]
    by_cases h1 : a = c <;> by_cases h2 : b = d <;> simp [h1, h2], hk⟩

/-! ### Loops with an accumulator ahead of the index -/

def IN2 {α : Type} (N : Nat) (I : Nat → α → World → Prop) (a : α) (x : Int) (w : World) : Prop := ∃ i : Nat, x = i ∧ i ≤ N ∧ I i a w
def MN2 {α : Type} (N : Nat) (_ : α) (x : Int) (_ : World) : Nat := N - x.toNat

theorem IN2_zero {α : Type} {N : Nat} {I : Nat → α → World → Prop} {a : α} {w : World} (h : I 0 a w) : IN2 N I a 0 w := ⟨0, rfl, Nat.zero_le _, h⟩

theorem IN2_next {α : Type} {N i : Nat} {I : Nat → α → World → Prop} {a a' : α} {w w' : World} (hN : N ≤ 9223372036854775807) (hi : i < N) (h : I (i + 1) a w) :
    IN2 N I a (IntKind.i64.wrap ((i : Int) + 1)) w ∧ MN2 N a (IntKind.i64.wrap ((i : Int) + 1)) w < MN2 N a' i w' := by
  rw [wrap_of (by omega) (by omega)]
  exact ⟨⟨i + 1, by omega, hi, h⟩, by unfold MN2; omega⟩

theorem Ext.ext {a b c : World} (h : Ext a b) (hE : Ext b c) : Ext a c := h.trans hE

theorem all_succ {p : Nat → Prop} {v : Nat} (h : ∀ u < v, p u) (hv : p v) : ∀ u < v + 1, p u := fun u hu => by
  rcases Nat.lt_or_eq_of_le (Nat.le_of_lt_succ hu) with h1 | h1
  · exact h u h1
  · subst h1; exact hv

theorem OwnL.low {α : Type} [Flat α] {w : World} {base base' : Nat} {e : TypeId} {s : Sl} {l : List α} (h : OwnL w base e s l) (hb : base' ≤ base) : OwnL w base' e s l := by
  refine ⟨h.1, h.2.1, ?_⟩
  rcases h.2.2 with h1 | ⟨g, cap, cur, h1, h2, h3⟩
  · exact .inl h1
  · exact .inr ⟨g, cap, cur, h1, Nat.le_trans hb h2, h3⟩

/-! ### Literals of several one-cell elements -/

theorem fill_ones : ∀ (vs : List Value) (k : Nat) (arr : Array Value), (∀ v ∈ vs, v.cells = #[v]) → k + vs.length ≤ arr.size →
    Instr.fill (fun i => some (i * 1, 1)) arr ((vs.zipIdx k).map fun x => (x.2, x.1)) = some ⟨arr.toList.take k ++ vs ++ arr.toList.drop (k + vs.length)⟩
  | [], k, arr, _, _ => by simp [Instr.fill]
  | v :: vs, k, arr, hv, hk => by
    have h1 := hv v (by simp)
    have hk' : k < arr.toList.length := by simp at hk ⊢; omega
    simp only [List.zipIdx_cons, List.map_cons, Instr.fill, Nat.mul_one]
    rw [if_neg (by simp [h1] at hk ⊢; omega), h1]
    have e : ((#[v] : Array Value).zipIdx.foldl (fun (cs : Array Value) (x : Value × Nat) => cs.setIfInBounds (k + x.2) x.1) arr) = arr.setIfInBounds k v := by simp [Array.zipIdx]
    have e' : (fun (i : Nat) => some (i, 1)) = fun i => some (i * 1, 1) := by funext i; rw [Nat.mul_one]
    rw [e, e', fill_ones vs (k + 1) _ (fun u hu => hv u (by simp [hu])) (by simp at hk ⊢; omega)]
    congr 2
    rw [Array.toList_setIfInBounds, List.drop_set_of_lt (by omega), List.take_set, List.take_succ_eq_append_getElem hk', List.set_append_right _ _ (by simp; omega)]
    simp at hk'
    simp [Nat.min_eq_left (Nat.le_of_lt hk'), Nat.add_assoc, Nat.add_comm 1]

/-- A literal of numbers: []int{a, b, ..}. -/
theorem RUN_lits {P : Program} {t e : TypeId} {bytes : Nat} {z : Value} (hT : SlT P t e 1 bytes z) (l : List Int) (h0 : l ≠ []) (hl : l.length ≤ 1000) {n : Nat} (hn : n = l.length) {parts : Array (Nat × Value)} (hp : parts.toList = ((l.map (Value.int .i64)).zipIdx 0).map fun x => (x.2, x.1)) {w : World} {K : Sl → World → Prop}
    (hk : ∀ s w', Ext w w' → OwnL w' w.heap.size e s l → K s w') : RUN P (.at .sl) (Instr.buildSlice t n parts) w K := by
  obtain ⟨i, hi, hz0, hsz, hby⟩ := hT.parts
  subst hn
  have hpos : 0 < l.length := List.length_pos_iff.2 h0
  have hr := run_buildSlice (P := P) w t e l.length parts ⟨l.map (Value.int .i64)⟩ i z hT.under hi hz0 (by rw [hsz]; omega) (by rw [hsz]; omega) (by
    rw [hsz, hp, fill_ones _ 0 _ (by intro v hv; obtain ⟨x, _, rfl⟩ := List.mem_map.1 hv; rfl) (by simp)]
    simp)
  unfold RUN
  rw [hr]
  refine hk ⟨some ⟨w.heap.size, 0, none⟩, l.length, l.length⟩ _ (ext_push w _) ⟨rfl, ?_⟩
  have := World.ownsRow_lit (base := w.heap.size) (e := e) (size := 1) w ⟨l.map (Value.int .i64)⟩ l.length (Nat.le_refl _) (by unfold maxLen; omega) (by simp)
  have hf : l.flatMap Flat.cells = l.map (Value.int .i64) := by
    clear this hr hk hp h0 hl hpos
    induction l with
    | nil => rfl
    | cons x r ih => rw [List.flatMap_cons, ih]; rfl
  unfold Own
  rw [hf]
  exact this

/-! ### Own lists of own lists -/

theorem OwnL.type {α : Type} [Flat α] {w : World} {base : Nat} {e : TypeId} {s : Sl} {l : List α} (h : OwnL w base e s l) {k : Nat} (hk : s.v.ownBlock = some k) : ∃ cs, w.heap[k]? = some (.cells cs e (0, 0)) := by
  rcases h.2.2 with ⟨h1, _⟩ | ⟨g, cap, cur, h1, _, h3, _⟩
  · rw [h1] at hk; cases hk
  · rw [h1] at hk
    cases hk
    exact ⟨cur, h3⟩

/-- A list of another element type is not touched. -/
theorem OwnL.step {α β : Type} [Flat α] [Flat β] {w w' : World} {base base' : Nat} {e e' : TypeId} {s s' : Sl} {l : List α} {l' : List β} (h : OwnL w base e s l) (h' : OwnL w base' e' s' l') (he : e ≠ e') (hs : Step w w' s'.v.ownBlock) : OwnL w' base e s l :=
  h.keep fun k hk => by
    refine hs.block k (h.blk k hk).2 fun hk' => ?_
    obtain ⟨c1, h1⟩ := h.type hk
    obtain ⟨c2, h2⟩ := h'.type hk'.symm
    rw [h1] at h2
    cases h2
    exact he rfl

def Own2 {α : Type} [Flat α] (w : World) (base : Nat) (e e' : TypeId) (s : Sl) (ls : List (List α)) : Prop :=
  ∃ ss : List Sl, OwnL w base e' s ss ∧ ss.length = ls.length ∧ ∀ (i : Nat) (r : Sl) (l : List α), ss[i]? = some r → ls[i]? = some l → OwnL w base e r l

section
variable {α : Type} [Flat α] {w w' : World} {base : Nat} {e e' : TypeId} {s : Sl} {ls : List (List α)}
theorem Own2.nil (w : World) (base : Nat) (e e' : TypeId) : Own2 w base e e' ⟨none, 0, 0⟩ ([] : List (List α)) := ⟨[], OwnL.nil _ _ _, rfl, fun i r l h => by simp at h⟩
theorem Own2.ext (h : Own2 w base e e' s ls) (hE : Ext w w') : Own2 w' base e e' s ls := by
  obtain ⟨ss, h1, h2, h3⟩ := h
  exact ⟨ss, h1.ext hE, h2, fun i r l hr hl => (h3 i r l hr hl).ext hE⟩
theorem Own2.low (h : Own2 w base e e' s ls) {b : Nat} (hb : b ≤ base) : Own2 w b e e' s ls := by
  obtain ⟨ss, h1, h2, h3⟩ := h
  exact ⟨ss, h1.low hb, h2, fun i r l hr hl => (h3 i r l hr hl).low hb⟩
theorem Own2.blk (h : Own2 w base e e' s ls) : ∀ k, s.v.ownBlock = some k → base ≤ k ∧ k < w.heap.size := by
  obtain ⟨ss, h1, _⟩ := h
  exact h1.blk
theorem Own2.repD (h : Own2 w base e e' s ls) (hok : ∀ l ∈ ls, ∀ x ∈ l, Flat.ok x) : SlR (fun b => base ≤ b) w s ls := by
  obtain ⟨ss, h1, h2, h3⟩ := h
  refine (OwnL.rows h1 h2 (fun i hi hj => ?_) (fun _ hb => hb))
  exact (h3 i ss[i] ls[i] (by simp [hi]) (by simp [hj])).rep (hok _ (List.getElem_mem hj))
theorem Own2.rep (h : Own2 w base e e' s ls) (hok : ∀ l ∈ ls, ∀ x ∈ l, Flat.ok x) : R w s ls := (h.repD hok).any
theorem Own2.keep (h : Own2 w base e e' s ls) (hk : ∀ k, base ≤ k → k < w.heap.size → w'.heap[k]? = w.heap[k]?) : Own2 w' base e e' s ls := by
  obtain ⟨ss, h1, h2, h3⟩ := h
  exact ⟨ss, h1.keep fun k hb => hk k (h1.blk k hb).1 (h1.blk k hb).2, h2, fun i r l hr hl => (h3 i r l hr hl).keep fun k hb => hk k ((h3 i r l hr hl).blk k hb).1 ((h3 i r l hr hl).blk k hb).2⟩
end

theorem RUN_append_row {α : Type} [Flat α] {P : Program} {t e e' : TypeId} {bytes : Nat} {z : Value} (hT : SlT P t e' 1 bytes z) (hne : e ≠ e') {w : World} {base b1 : Nat} {s y r : Sl} {ls : List (List α)} {l : List α} (h : Own2 w base e e' s ls) (hbase : base ≤ w.heap.size)
    (hr : OwnL w base e r l) (hy : OwnL w b1 e' y [r]) (hlen : (ls.length + 1) * bytes ≤ 140737488355328) (hmax : ls.length + 1 ≤ maxLen) {K : Sl → World → Prop}
    (hk : ∀ s' w', Own2 w' base e e' s' (ls ++ [l]) → Step w w' s.v.ownBlock → K s' w') : RUN P (.at .sl) (bsem .append #[t, t] t #[s.v, y.v]) w K := by
  obtain ⟨ss, h1, h2, h3⟩ := h
  refine RUN_append (α := Sl) hT h1 hbase (hy.rep fun _ _ => trivial).any (by simp [h2]; exact hlen) (by simp [h2]; exact hmax) fun s' w' hO hs => hk s' w' ⟨ss ++ [r], hO, by simp [h2], fun i q m hq hm => ?_⟩ hs
  by_cases hi : i < ss.length
  · rw [List.getElem?_append_left hi] at hq
    rw [List.getElem?_append_left (by omega)] at hm
    exact (h3 i q m hq hm).step h1 hne hs
  · rw [List.getElem?_append_right (by omega)] at hq
    rw [List.getElem?_append_right (by omega), ← h2] at hm
    have : i - ss.length = 0 := by
      have := (List.getElem?_eq_some_iff.1 hq).1
      simp at this; omega
    rw [this] at hq hm
    simp at hq hm
    subst hq; subst hm
    exact hr.step h1 hne hs

/-! ### Rows of a list of lists, as they were in an earlier world -/

theorem SlR.ixL0 {α : Type} [RepP α] {D : Nat → Prop} {w0 w : World} {s : Sl} {l : List (List α)} (h : SlR D w0 s l) (hE : Ext w0 w) {i : Nat} (hi : i < l.length) {K : Addr → Prop}
    (hk : ∀ p r, SlR D w0 r l[i] → w.cell? p = some r.v → K p) : IX s i 1 K :=
  h.ixL hi fun p r hR hc => hk p r hR (hE.cell hc)

/-! ### Changes within a set of blocks -/

theorem Chg.of_step {w w' : World} {g : Option Nat} {D : Nat → Prop} (h : Step w w' g) (hg : ∀ k, g = some k → D k) : Chg w w' D :=
  ⟨h.os, h.tape, h.output, h.size, fun k hk hD => h.block k hk (fun he => hD (hg k he.symm))⟩
theorem Chg.of_ext {w w' : World} {D : Nat → Prop} (h : Ext w w') : Chg w w' D := ⟨h.os, h.tape, h.output, h.size, fun k hk _ => h.block k hk⟩
theorem Chg.trans {a b c : World} {D : Nat → Prop} (h : Chg a b D) (k : Chg b c D) : Chg a c D :=
  ⟨k.os.trans h.os, k.tape.trans h.tape, k.output.trans h.output, Nat.le_trans h.size k.size, fun i hi hD => (k.block i (Nat.lt_of_lt_of_le hi h.size) hD).trans (h.block i hi hD)⟩
theorem Chg.mono {a b : World} {D D' : Nat → Prop} (h : Chg a b D) (hD : ∀ k, D k → D' k) : Chg a b D' := ⟨h.os, h.tape, h.output, h.size, fun k hk hn => h.block k hk (fun hd => hn (hD k hd))⟩
theorem Chg.ext0 {w0 w w' : World} {D : Nat → Prop} (h : Chg w w' D) (hE : Ext w0 w) (hD : ∀ k, D k → w0.heap.size ≤ k) : Ext w0 w' :=
  ⟨h.os.trans hE.os, h.tape.trans hE.tape, h.output.trans hE.output, Nat.le_trans hE.size h.size, fun k hk => (h.block k (Nat.lt_of_lt_of_le hk hE.size) (fun hd => by have := hD k hd; omega)).trans (hE.block k hk)⟩

theorem SlR.chg {α : Type} [RepP α] {D0 D : Nat → Prop} {w w' : World} {s : Sl} {l : List α} (h : SlR D0 w s l) (hc : Chg w w' D) (hD : ∀ b, D0 b → b < w.heap.size → ¬ D b) : SlR D0 w' s l :=
  (h.below.agr fun b hb => hc.block b hb.2 (hD b hb.1 hb.2)).weak (fun _ hb _ => hb.1) RepP.pos
theorem OwnL.chg {α : Type} [Flat α] {D : Nat → Prop} {w w' : World} {base : Nat} {e : TypeId} {s : Sl} {l : List α} (h : OwnL w base e s l) (hc : Chg w w' D) (hD : ∀ b, s.v.ownBlock = some b → ¬ D b) : OwnL w' base e s l :=
  h.keep fun k hk => hc.block k (h.blk k hk).2 (hD k hk)
theorem Box.chg {D : Nat → Prop} {w w' : World} {p : Addr} {t : TypeId} {cs : List Value} (h : Box w p t cs) (hc : Chg w w' D) (hD : ¬ D p.block) : Box w' p t cs :=
  h.of_block (hc.block _ h.lt hD)

end Go.GX
end

section
/- Contracts of the small functions. -/
namespace Go.Proofs.YtlmiookpmneicaaGreat
open Go.GX Go.RowKit

def inR (n lo hi : Int) : Bool := decide (lo ≤ n) && decide (n ≤ hi)

theorem inR_true {n lo hi : Int} (h : inR n lo hi = true) : lo ≤ n ∧ n ≤ hi := by simpa [inR] using h
theorem inR_false {n lo hi : Int} (h : inR n lo hi = false) : ¬ (lo ≤ n ∧ n ≤ hi) := by
  intro ⟨h1, h2⟩; simp [inR, h1, h2] at h

theorem within_ok (n lo hi : Int) (w : World) : Calls Tryz.prog F.i_within #[.int .i64 n, .int .i64 lo, .int .i64 hi] w (Ret [.at .bool] fun (b : Bool) w' => b = inR n lo hi ∧ w = w') := by
  refine C_i_within ?_
  unfold V_i_within inR
  by_cases h : lo ≤ n <;> simp [h]

theorem l1In_ok (n lo hi : Int) (w : World) : Calls Tryz.prog F.s_l1In #[.int .i64 n, .int .i64 lo, .int .i64 hi] w (Ret [.at .bool] fun (b : Bool) w' => b = inR n lo hi ∧ w = w') := by
  refine C_s_l1In ?_
  unfold V_s_l1In inR
  by_cases h : lo ≤ n <;> simp [h]

theorem l1Has_ok {w : World} {s : Sl} {l : List Int} (h : R w s l) (n : Int) :
    Calls Tryz.prog F.s_l1Has #[s.v, .int .i64 n] w (Ret [.at .bool] fun (b : Bool) w' => b = l.contains n ∧ w = w') := by
  refine C_s_l1Has ?_
  unfold V_s_l1Has
  refine ⟨IN l.length fun i w' => w' = w ∧ n ∉ l.take i, MN l.length, IN_zero ⟨rfl, by simp⟩, ?_⟩
  rintro x w1 ⟨i, rfl, hi, rfl, hn⟩
  intros
  rw [h.len]
  refine cond_dec (fun hlt => ?_) (fun hge => ⟨?_, rfl⟩)
  · have hlt' : i < l.length := by omega
    refine h.ixI hlt' fun p _ hc => ?_
    refine LD_int hc ?_
    refine cond_eq (fun he => ⟨?_, rfl⟩) (fun he => ?_)
    · simp [← he]
    · exact IN_next h.le hlt' ⟨rfl, not_mem_take_succ hlt' hn he⟩
  · have hil : i = l.length := by omega
    subst hil
    simp at hn
    simp [hn]

end Go.Proofs.YtlmiookpmneicaaGreat
end

section
/- Networks: how they lie in memory, and the contracts of the functions that copy, weigh and compare them. -/
namespace Go.Proofs.YtlmiookpmneicaaGreat
open Go.GX Go.RowKit
set_option maxRecDepth 100000

structure Net where
  ends : List (List (Int × Int))
  ids : List Int
  inputs : List Int

/-- Three slices read as a network. -/
def RNet (w : World) (a b c : Sl) (n : Net) : Prop := R w a n.ends ∧ R w b n.ids ∧ R w c n.inputs

theorem RNet.ext {w w' : World} {a b c : Sl} {n : Net} (h : RNet w a b c n) (hE : Ext w w') : RNet w' a b c n := ⟨h.1.ext hE, h.2.1.ext hE, h.2.2.ext hE⟩

theorem slt_int : SlT Tryz.prog T.t_sl_int T.t_int 1 8 (.int .i64 0) := ⟨by kernel_rfl, by kernel_rfl, rfl, by decide⟩
theorem slt_end : SlT Tryz.prog T.t_sl_i_End T.t_i_End 2 16 (.agg #[.int .i64 0, .int .i64 0]) := ⟨by kernel_rfl, by kernel_rfl, rfl, by decide⟩
theorem slt_ends : SlT Tryz.prog T.t_sl_sl_i_End T.t_sl_i_End 1 24 (.slice none 0 0) := ⟨by kernel_rfl, by kernel_rfl, rfl, by decide⟩

theorem flat_ok {w : World} {s : Sl} {l : List Int} (h : R w s l) : ∀ x ∈ l, I64 x := fun x hx => by
  obtain ⟨i, hi, rfl⟩ := List.mem_iff_getElem.1 hx
  obtain ⟨_, _, _, _, ⟨_, h1⟩, _⟩ := h.2.2 i l[i] (by simp [hi])
  exact h1

theorem toIntS_ok {w : World} {a : Sl} {l : List Int} (h : R w a l) (hb : l.length ≤ 1048576) :
    Calls Tryz.prog F.l_toIntS #[a.v] w (Ret [.at .sl] fun (s : Sl) w' => Ext w w' ∧ OwnL w' w.heap.size T.t_int s l) := by
  refine C_l_toIntS ?_
  unfold V_l_toIntS
  rw [h.len]
  refine RUN_make (α := Int) slt_int (d := 0) rfl (by omega) (by unfold maxLen; omega) fun s w1 hE1 hO1 => ?_
  refine ⟨IN l.length fun i w' => Ext w w' ∧ OwnL w' w.heap.size T.t_int s (l.take i ++ List.replicate (l.length - i) 0), MN l.length, IN_zero ⟨hE1, by simpa using hO1⟩, ?_⟩
  rintro x w2 ⟨i, rfl, hi, hE, hO⟩
  intros
  refine cond_dec (fun hlt => ?_) (fun hge => ?_)
  · have hlt' : i < l.length := by omega
    refine (h.ext hE).ixI hlt' fun p h64 hc => LD_int hc ?_
    refine IX_own hO (by rw [fill_len hi]; exact hlt') rfl fun p hp => ?_
    refine ST_own hO (by rw [fill_len hi]; exact hlt') hp l[i] rfl fun w3 hO3 hs => ?_
    refine IN_next (by omega) hlt' ⟨hs.ext0 hE (fun k hk => (hO.blk k hk).1), ?_⟩
    rw [← fill_step hlt']; exact hO3
  · have : i = l.length := by omega
    subst this
    exact ⟨hE, by simpa using hO⟩

theorem eqIntS_ok {w : World} {a b : Sl} {l m : List Int} (ha : R w a l) (hb : R w b m) :
    Calls Tryz.prog F.l_eqIntS #[a.v, b.v] w (Ret [.at .bool] fun (x : Bool) w' => x = decide (l = m) ∧ Ext w w') := by
  refine C_l_eqIntS ?_
  unfold V_l_eqIntS
  rw [ha.len, hb.len]
  refine cond_ne (fun hne => ⟨?_, Ext.refl _⟩) (fun he => ?_)
  · rw [decide_eq_false]; intro h; subst h; exact hne rfl
  · have hl : l.length = m.length := by omega
    refine ⟨IN l.length fun i w' => Ext w w' ∧ l.take i = m.take i, MN l.length, IN_zero ⟨Ext.refl _, by simp⟩, ?_⟩
    rintro x w1 ⟨i, rfl, hi, hE, ht⟩
    intros
    refine cond_dec (fun hlt => ?_) (fun hge => ⟨?_, hE⟩)
    · have h1 : i < l.length := by omega
      have h2 : i < m.length := by omega
      refine (ha.ext hE).ixI h1 fun p _ hc => LD_int hc ?_
      refine (hb.ext hE).ixI h2 fun p _ hc => LD_int hc ?_
      intro w2 hE2
      refine cond_ne (fun hne => ⟨?_, hE.trans hE2⟩) (fun heq => ?_)
      · rw [decide_eq_false]; intro h; subst h; exact hne rfl
      · exact IN_next ha.le h1 ⟨hE.trans hE2, by rw [List.take_succ_eq_append_getElem h1, List.take_succ_eq_append_getElem h2, ht, heq]⟩
    · have h3 : i = l.length := by omega
      subst h3
      rw [decide_eq_true]
      have h4 : m.take l.length = m := List.take_of_length_le (by omega)
      rw [h4, List.take_length] at ht
      exact ht


/-- A struct that is copied field by field. -/
theorem toEnd_ok (x y : Int) (w : World) : Calls Tryz.prog F.l_toEnd #[.agg #[.int .i64 x, .int .i64 y]] w (Ret [.agg [.int .i64, .int .i64]] fun (a b : Int) w' => a = x ∧ b = y ∧ Ext w w') := by
  refine C_l_toEnd ?_
  unfold V_l_toEnd
  refine NEW_intro fun pa w1 hp1 hs1 hE1 hb1 => ?_
  refine NEW_intro fun px w2 hp2 hs2 hE2 hb2 => ?_
  refine NEW_intro fun po w3 hp3 hs3 hE3 hb3 => ?_
  have ha3 := (hb1.ext hE2).ext hE3
  have hx3 := hb2.ext hE3
  have hE : Ext w w3 := (hE1.trans hE2).trans hE3
  refine LD_bi0 ha3 ?_
  refine ST_box1 hb3 (by simp) rfl fun w4 hz4 hk4 hX4 hb4 => ?_
  have ha4 := ha3.of_block (hk4 _ (by omega))
  have hx4 := hx3.of_block (hk4 _ (by omega))
  refine LD_bi1 ha4 ?_
  refine ST_box1 hb4 (by simp) rfl fun w5 hz5 hk5 hX5 hb5 => ?_
  have hx5 := hx4.of_block (hk5 _ (by omega))
  refine LD_box2 hb5 ?_
  refine ST_all hx5 (one2 _ _) rfl fun w6 hs6 hz6 hb6 => ?_
  refine LD_box2 hb6 ⟨rfl, rfl, ?_⟩
  exact hs6.ext0 (hX5 _ (hX4 _ hE (by omega)) (by omega)) (fun k hk => by cases hk; omega)

theorem flat_okE {w : World} {s : Sl} {l : List (Int × Int)} (h : R w s l) : ∀ x ∈ l, I64 x.1 ∧ I64 x.2 := fun x hx => by
  obtain ⟨i, hi, rfl⟩ := List.mem_iff_getElem.1 hx
  obtain ⟨_, _, _, _, ⟨_, h1⟩, _⟩ := h.2.2 i l[i] (by simp [hi])
  exact h1

theorem toEndS_ok {w : World} {a : Sl} {l : List (Int × Int)} (h : R w a l) (hb : l.length ≤ 1048576) :
    Calls Tryz.prog F.l_toEndS #[a.v] w (Ret [.at .sl] fun (s : Sl) w' => Ext w w' ∧ OwnL w' w.heap.size T.t_i_End s l) := by
  refine C_l_toEndS ?_
  unfold V_l_toEndS
  rw [h.len]
  refine RUN_make (α := Int × Int) slt_end (d := (0, 0)) rfl (by omega) (by unfold maxLen; omega) fun s w1 hE1 hO1 => ?_
  refine ⟨IN l.length fun i w' => Ext w w' ∧ OwnL w' w.heap.size T.t_i_End s (l.take i ++ List.replicate (l.length - i) (0, 0)), MN l.length, IN_zero ⟨hE1, by simpa using hO1⟩, ?_⟩
  rintro x w2 ⟨i, rfl, hi, hE, hO⟩
  intros
  refine cond_dec (fun hlt => ?_) (fun hge => ?_)
  · have hlt' : i < l.length := by omega
    refine (h.ext hE).ixE hlt' fun p _ _ hc0 hc1 => LD_int2 hc0 hc1 ?_
    refine call (toEnd_ok _ _ _) ?_
    rintro _ _ w3 ⟨rfl, rfl, hE3⟩
    have hO' := hO.ext hE3
    refine IX_own hO' (by rw [fill_len hi]; exact hlt') rfl fun p hp => ?_
    refine ST_own hO' (by rw [fill_len hi]; exact hlt') hp l[i] rfl fun w4 hO4 hs => ?_
    refine IN_next (by omega) hlt' ⟨hs.ext0 (hE.trans hE3) (fun k hk => (hO'.blk k hk).1), ?_⟩
    rw [← fill_step hlt']; exact hO4
  · have : i = l.length := by omega
    subst this
    exact ⟨hE, by simpa using hO⟩

/-- The cells of an own slice of slices, and what each reads as. -/
theorem toEndSS_own {w : World} {a : Sl} {l : List (List (Int × Int))} (h : R w a l) (hb : l.length ≤ 1048576) (hbb : ∀ r ∈ l, r.length ≤ 1048576) :
    Calls Tryz.prog F.l_toEndSS #[a.v] w (Ret [.at .sl] fun (s : Sl) w' => Ext w w' ∧ Own2 w' w.heap.size T.t_i_End T.t_sl_i_End s l) := by
  refine C_l_toEndSS ?_
  unfold V_l_toEndSS
  rw [h.len]
  refine RUN_make (α := Sl) slt_ends (d := ⟨none, 0, 0⟩) rfl (by omega) (by unfold maxLen; omega) fun s w1 hE1 hO1 => ?_
  refine ⟨IN l.length fun i w' => Ext w w' ∧ ∃ ss : List Sl, ss.length = l.length ∧ OwnL w' w.heap.size T.t_sl_i_End s ss ∧ ∀ (k : Nat) (q : Sl) (m : List (Int × Int)), k < i → ss[k]? = some q → l[k]? = some m → OwnL w' w.heap.size T.t_i_End q m, MN l.length,
    IN_zero ⟨hE1, List.replicate l.length ⟨none, 0, 0⟩, by simp, hO1, fun k _ _ h3 => by omega⟩, ?_⟩
  rintro x w2 ⟨i, rfl, hi, hE, ss, hss, hO, hR⟩
  intros
  refine cond_dec (fun hlt => ?_) (fun hge => ?_)
  · have hlt' : i < l.length := by omega
    refine (h.ext hE).ixL hlt' fun p s' hs' hc => LD_sl hc ?_
    have hz := hE.size_le
    refine call (toEndS_ok hs'.any (hbb _ (List.getElem_mem _))) ?_
    rintro s3 w3 ⟨hE3, hO3⟩
    have hO' := hO.ext hE3
    refine IX_own hO' (by omega) rfl fun p hp => ?_
    refine ST_own hO' (by omega) hp s3 rfl fun w4 hO4 hs => ?_
    refine IN_next (by omega) hlt' ⟨hs.ext0 (hE.trans hE3) (fun k hk => (hO'.blk k hk).1), ss.set i s3, by simp [hss], hO4, fun k q m h1 h2 h3 => ?_⟩
    by_cases hk : k = i
    · subst hk
      rw [List.getElem?_set_self (by omega)] at h2
      rw [List.getElem?_eq_getElem hlt'] at h3
      cases h2
      cases h3
      exact (hO3.low hz).step hO' (by decide) hs
    · rw [List.getElem?_set_ne (Ne.symm hk)] at h2
      exact ((hR k q m (by omega) h2 h3).ext hE3).step hO' (by decide) hs
  · have : i = l.length := by omega
    subst this
    refine ⟨hE, ss, hO, hss, fun k q m h2 h3 => hR k q m (List.getElem?_eq_some_iff.1 h3).1 h2 h3⟩

theorem flat_okEE {w : World} {s : Sl} {l : List (List (Int × Int))} (h : R w s l) : ∀ r ∈ l, ∀ x ∈ r, Flat.ok x := fun r hr x hx => by
  obtain ⟨i, hi, rfl⟩ := List.mem_iff_getElem.1 hr
  obtain ⟨_, _, _, _, ⟨s', _, h1⟩, _⟩ := h.2.2 i l[i] (by simp [hi])
  exact flat_okE h1 x hx

/-- A network that fits the law's bound. -/
def Small (n : Net) : Prop := n.ends.length ≤ 1048576 ∧ (∀ r ∈ n.ends, r.length ≤ 1048576) ∧ n.ids.length ≤ 1048576 ∧ n.inputs.length ≤ 1048576

/-- A network in the call's own memory. -/
structure OwnNet (w : World) (base : Nat) (x y z : Sl) (n : Net) : Prop where
  ends : Own2 w base T.t_i_End T.t_sl_i_End x n.ends
  ids : OwnL w base T.t_int y n.ids
  inputs : OwnL w base T.t_int z n.inputs

theorem OwnNet.ext {w w' : World} {base : Nat} {x y z : Sl} {n : Net} (h : OwnNet w base x y z n) (hE : Ext w w') : OwnNet w' base x y z n := ⟨h.ends.ext hE, h.ids.ext hE, h.inputs.ext hE⟩
theorem OwnNet.keep {w w' : World} {base : Nat} {x y z : Sl} {n : Net} (h : OwnNet w base x y z n) (hk : ∀ k, base ≤ k → k < w.heap.size → w'.heap[k]? = w.heap[k]?) : OwnNet w' base x y z n :=
  ⟨h.ends.keep hk, h.ids.keep fun k hb => hk k (h.ids.blk k hb).1 (h.ids.blk k hb).2, h.inputs.keep fun k hb => hk k (h.inputs.blk k hb).1 (h.inputs.blk k hb).2⟩
theorem OwnNet.low {w : World} {base b : Nat} {x y z : Sl} {n : Net} (h : OwnNet w base x y z n) (hb : b ≤ base) : OwnNet w b x y z n := ⟨h.ends.low hb, h.ids.low hb, h.inputs.low hb⟩
theorem OwnNet.net {w w0 : World} {base : Nat} {x y z a b c : Sl} {n : Net} (h : OwnNet w base x y z n) (h0 : RNet w0 a b c n) : RNet w x y z n :=
  ⟨h.ends.rep (flat_okEE h0.1), (h.ids.rep (flat_ok h0.2.1)).any, (h.inputs.rep (flat_ok h0.2.2)).any⟩

theorem toNetwork_own {w : World} {a b c : Sl} {n : Net} (h : RNet w a b c n) (hs : Small n) :
    Calls Tryz.prog F.l_toNetwork #[.agg #[a.v, b.v, c.v]] w (Ret [.agg [.sl, .sl, .sl]] fun (x y z : Sl) w' => Ext w w' ∧ OwnNet w' w.heap.size x y z n) := by
  refine C_l_toNetwork ?_
  unfold V_l_toNetwork
  refine NEW_intro fun pa w1 hp1 hs1 hE1 hb1 => ?_
  refine NEW_intro fun px w2 hp2 hs2 hE2 hb2 => ?_
  refine NEW_intro fun po w3 hp3 hs3 hE3 hb3 => ?_
  have ha3 := (hb1.ext hE2).ext hE3
  have hx3 := hb2.ext hE3
  have hE : Ext w w3 := (hE1.trans hE2).trans hE3
  have hlt := hb3.lt
  refine LD_bs0 ha3 ?_
  refine call (toEndSS_own (h.1.ext hE) hs.1 hs.2.1) ?_
  rintro x w4 ⟨hE4, hx⟩
  refine ST_box1 (hb3.ext hE4) (by simp) rfl fun w5 hz5 hk5 hX5 hb5 => ?_
  have hE5 := hX5 _ (hE.trans hE4) (by omega)
  have ha5 := (ha3.ext hE4).of_block (hk5 _ (by omega))
  have hx5 := (hx3.ext hE4).of_block (hk5 _ (by omega))
  have hX : Own2 w5 w3.heap.size T.t_i_End T.t_sl_i_End x n.ends := hx.keep fun b hb _ => hk5 b (by omega)
  refine LD_bs1 ha5 ?_
  have hsz5 : w3.heap.size ≤ w5.heap.size := by have := hE4.size_le; omega
  refine call (toIntS_ok (h.2.1.ext hE5) hs.2.2.1) ?_
  rintro y w6 ⟨hE6, hy⟩
  have hlt5 := hb5.lt
  refine ST_box1 (hb5.ext hE6) (by simp) rfl fun w7 hz7 hk7 hX7 hb7 => ?_
  have hE7 := hX7 _ (hE5.trans hE6) (by omega)
  have ha7 := (ha5.ext hE6).of_block (hk7 _ (by omega))
  have hx7 := (hx5.ext hE6).of_block (hk7 _ (by omega))
  have hX' : Own2 w7 w3.heap.size T.t_i_End T.t_sl_i_End x n.ends := (hX.ext hE6).keep fun b hb _ => hk7 b (by omega)
  have hy' := hy.low hsz5
  have hY : OwnL w7 w3.heap.size T.t_int y n.ids := hy'.keep fun b hb => hk7 b (by have := (hy'.blk b hb).1; omega)
  refine LD_bs2 ha7 ?_
  have hsz7 : w3.heap.size ≤ w7.heap.size := by have := hE6.size_le; omega
  refine call (toIntS_ok (h.2.2.ext hE7) hs.2.2.2) ?_
  rintro z w8 ⟨hE8, hz⟩
  have hlt7 := hb7.lt
  refine ST_box1 (hb7.ext hE8) (by simp) rfl fun w9 hz9 hk9 hX9 hb9 => ?_
  have hE9 := hX9 _ (hE7.trans hE8) (by omega)
  have hx9 := (hx7.ext hE8).of_block (hk9 _ (by omega))
  have hz' := hz.low hsz7
  have hN : OwnNet w9 w3.heap.size x y z n := OwnNet.keep (w := w8) ⟨hX'.ext hE8, hY.ext hE8, hz'⟩ fun b hb _ => hk9 b (by omega)
  refine LD_box3 hb9 ?_
  refine ST_all hx9 (one3 _ _ _) rfl fun w10 hs10 hz10 hb10 => ?_
  have hN' := hN.keep (w' := w10) fun b hb h2 => hs10.block b h2 (by intro he; cases he; omega)
  exact LD_box3 hb10 ⟨hs10.ext0 hE9 (fun k hk => by cases hk; omega), hN'.low hE.size_le⟩

theorem toNetwork_ok {w : World} {a b c : Sl} {n : Net} (h : RNet w a b c n) (hs : Small n) :
    Calls Tryz.prog F.l_toNetwork #[.agg #[a.v, b.v, c.v]] w (Ret [.agg [.sl, .sl, .sl]] fun (x y z : Sl) w' => Ext w w' ∧ RNet w' x y z n) :=
  call (toNetwork_own h hs) fun _ _ _ _ h1 => ⟨h1.1, h1.2.net h⟩

theorem szIntS_ok {w : World} {a : Sl} {l : List Int} (h : R w a l) (left : Int) (h0 : 0 ≤ left) (h1 : left ≤ 1048576) :
    Calls Tryz.prog F.l_szIntS #[a.v, .int .i64 left] w (Ret [.at (.int .i64)] fun (x : Int) w' => (0 ≤ x → x ≤ left ∧ l.length ≤ left) ∧ w = w') := by
  refine C_l_szIntS ?_
  unfold V_l_szIntS
  have := h.le
  rw [h.len, wrap_of (by omega) (by omega)]
  exact cond_dec (fun _ => ⟨by omega, rfl⟩) (fun _ => ⟨by omega, rfl⟩)

theorem szEndS_ok {w : World} {a : Sl} {l : List (Int × Int)} (h : R w a l) (left : Int) (h0 : 0 ≤ left) (h1 : left ≤ 1048576) :
    Calls Tryz.prog F.l_szEndS #[a.v, .int .i64 left] w (Ret [.at (.int .i64)] fun (x : Int) w' => (0 ≤ x → x ≤ left ∧ l.length ≤ left) ∧ w = w') := by
  refine C_l_szEndS ?_
  unfold V_l_szEndS
  have := h.le
  rw [h.len, wrap_of (by omega) (by omega)]
  exact cond_dec (fun _ => ⟨by omega, rfl⟩) (fun _ => ⟨by omega, rfl⟩)

theorem szEndSS_ok {w : World} {a : Sl} {l : List (List (Int × Int))} (h : R w a l) (left : Int) (h0 : 0 ≤ left) (h1 : left ≤ 1048576) :
    Calls Tryz.prog F.l_szEndSS #[a.v, .int .i64 left] w (Ret [.at (.int .i64)] fun (x : Int) w' => (0 ≤ x → x ≤ left ∧ l.length ≤ left ∧ ∀ r ∈ l, r.length ≤ left) ∧ w = w') := by
  refine C_l_szEndSS ?_
  unfold V_l_szEndSS
  have := h.le
  rw [h.len, wrap_of (by omega) (by omega)]
  refine cond_dec (fun _ => ⟨by omega, rfl⟩) (fun hle => ?_)
  refine ⟨fun y x w' => w = w' ∧ 0 ≤ y ∧ y ≤ left ∧ ∃ i : Nat, x = i ∧ i ≤ l.length ∧ ∀ r ∈ l.take i, r.length ≤ left, fun _ x _ => l.length - x.toNat, ⟨rfl, by omega, by omega, 0, rfl, by omega, by simp⟩, ?_⟩
  rintro y x _ ⟨rfl, hy0, hy, i, rfl, hi, hr⟩
  intros
  refine cond_dec (fun hlt => ?_) (fun hge => ⟨fun _ => ⟨hy, by omega, ?_⟩, rfl⟩)
  · have hlt' : i < l.length := by omega
    refine h.ixL hlt' fun p s' hs' hc => LD_sl hc ?_
    refine call (szEndS_ok hs'.any y hy0 (by omega)) ?_
    rintro x _ ⟨hx, rfl⟩
    refine cond_dec (fun _ => ⟨by omega, rfl⟩) (fun hn => ?_)
    have hx' := hx (by omega)
    rw [wrap_of (by omega) (by omega)]
    refine ⟨⟨rfl, by omega, by omega, i + 1, by omega, hlt', fun r hr' => ?_⟩, by simp only []; omega⟩
    rw [List.take_succ_eq_append_getElem hlt'] at hr'
    rcases List.mem_append.1 hr' with h3 | h3
    · exact hr r h3
    · rw [List.mem_singleton.1 h3]; omega
  · have : i = l.length := by omega
    subst this
    simpa using hr

theorem eqEnd_ok (x y z u : Int) (w : World) : Calls Tryz.prog F.l_eqEnd #[.agg #[.int .i64 x, .int .i64 y], .agg #[.int .i64 z, .int .i64 u]] w (Ret [.at .bool] fun (b : Bool) w' => b = decide ((x, y) = (z, u)) ∧ Ext w w') := by
  refine C_l_eqEnd ?_
  unfold V_l_eqEnd
  refine NEW_intro fun pa w1 hp1 hs1 hE1 hb1 => ?_
  refine NEW_intro fun pb w2 hp2 hs2 hE2 hb2 => ?_
  have ha := hb1.ext hE2
  refine LD_bi0 ha (LD_bi0 hb2 (cond_ne (fun hne => ⟨?_, hE1.trans hE2⟩) (fun he => ?_)))
  · rw [decide_eq_false]; intro h; exact hne (congrArg Prod.fst h)
  · refine LD_bi1 ha (LD_bi1 hb2 (cond_ne (fun hne => ⟨?_, hE1.trans hE2⟩) (fun he2 => ⟨?_, hE1.trans hE2⟩)))
    · rw [decide_eq_false]; intro h; exact hne (congrArg Prod.snd h)
    · rw [decide_eq_true]; rw [he, he2]

theorem eqEndS_ok {w : World} {a b : Sl} {l m : List (Int × Int)} (ha : R w a l) (hb : R w b m) :
    Calls Tryz.prog F.l_eqEndS #[a.v, b.v] w (Ret [.at .bool] fun (x : Bool) w' => x = decide (l = m) ∧ Ext w w') := by
  refine C_l_eqEndS ?_
  unfold V_l_eqEndS
  rw [ha.len, hb.len]
  refine cond_ne (fun hne => ⟨?_, Ext.refl _⟩) (fun he => ?_)
  · rw [decide_eq_false]; intro h; subst h; exact hne rfl
  · have hl : l.length = m.length := by omega
    refine ⟨IN l.length fun i w' => Ext w w' ∧ l.take i = m.take i, MN l.length, IN_zero ⟨Ext.refl _, by simp⟩, ?_⟩
    rintro x w1 ⟨i, rfl, hi, hE, ht⟩
    intros
    refine cond_dec (fun hlt => ?_) (fun hge => ⟨?_, hE⟩)
    · have h1 : i < l.length := by omega
      have h2 : i < m.length := by omega
      refine (ha.ext hE).ixE h1 fun p _ _ hc0 hc1 => LD_int2 hc0 hc1 ?_
      refine (hb.ext hE).ixE h2 fun p _ _ hc0 hc1 => LD_int2 hc0 hc1 ?_
      refine QCALL_bool _ (fun w' _ => eqEnd_ok _ _ _ _ w') ?_
      intro w2 hE2
      refine cond_not (fun hf => ⟨?_, hE.trans hE2⟩) (fun htr => ?_)
      · rw [decide_eq_false]; intro h; subst h; simp at hf
      · have heq : l[i] = m[i] := of_decide_eq_true htr
        exact IN_next ha.le h1 ⟨hE.trans hE2, by rw [List.take_succ_eq_append_getElem h1, List.take_succ_eq_append_getElem h2, ht, heq]⟩
    · have h3 : i = l.length := by omega
      subst h3
      rw [decide_eq_true]
      have h4 : m.take l.length = m := List.take_of_length_le (by omega)
      rw [h4, List.take_length] at ht
      exact ht

theorem eqEndSS_ok {w : World} {a b : Sl} {l m : List (List (Int × Int))} (ha : R w a l) (hb : R w b m) :
    Calls Tryz.prog F.l_eqEndSS #[a.v, b.v] w (Ret [.at .bool] fun (x : Bool) w' => x = decide (l = m) ∧ Ext w w') := by
  refine C_l_eqEndSS ?_
  unfold V_l_eqEndSS
  rw [ha.len, hb.len]
  refine cond_ne (fun hne => ⟨?_, Ext.refl _⟩) (fun he => ?_)
  · rw [decide_eq_false]; intro h; subst h; exact hne rfl
  · have hl : l.length = m.length := by omega
    refine ⟨IN l.length fun i w' => Ext w w' ∧ l.take i = m.take i, MN l.length, IN_zero ⟨Ext.refl _, by simp⟩, ?_⟩
    rintro x w1 ⟨i, rfl, hi, hE, ht⟩
    intros
    refine cond_dec (fun hlt => ?_) (fun hge => ⟨?_, hE⟩)
    · have h1 : i < l.length := by omega
      have h2 : i < m.length := by omega
      refine (ha.ext hE).ixL h1 fun p s1 hs1 hc => LD_sl hc ?_
      refine (hb.ext hE).ixL h2 fun p s2 hs2 hc => LD_sl hc ?_
      refine QCALL_bool _ (fun w' hw' => eqEndS_ok (hs1.any.ext hw') (hs2.any.ext hw')) ?_
      intro w2 hE2
      refine cond_not (fun hf => ⟨?_, hE.trans hE2⟩) (fun htr => ?_)
      · rw [decide_eq_false]; intro h; subst h; simp at hf
      · have heq : l[i] = m[i] := of_decide_eq_true htr
        exact IN_next ha.le h1 ⟨hE.trans hE2, by rw [List.take_succ_eq_append_getElem h1, List.take_succ_eq_append_getElem h2, ht, heq]⟩
    · have h3 : i = l.length := by omega
      subst h3
      rw [decide_eq_true]
      have h4 : m.take l.length = m := List.take_of_length_le (by omega)
      rw [h4, List.take_length] at ht
      exact ht

theorem eqNetwork_ok {w : World} {a b c x y z : Sl} {n : Net} (h : RNet w a b c n) (h' : RNet w x y z n) :
    Calls Tryz.prog F.l_eqNetwork #[.agg #[a.v, b.v, c.v], .agg #[x.v, y.v, z.v]] w (Ret [.at .bool] fun (r : Bool) w' => r = true ∧ Ext w w') := by
  refine C_l_eqNetwork ?_
  unfold V_l_eqNetwork
  refine NEW_intro fun pa w1 hp1 hs1 hE1 hb1 => ?_
  refine NEW_intro fun pb w2 hp2 hs2 hE2 hb2 => ?_
  have ha := hb1.ext hE2
  have hE := hE1.trans hE2
  refine LD_bs0 ha (LD_bs0 hb2 ?_)
  refine call (eqEndSS_ok (h.1.ext hE) (h'.1.ext hE)) ?_
  rintro _ w3 ⟨rfl, hE3⟩
  refine cond_f (by simp) ?_
  refine LD_bs1 (ha.ext hE3) (LD_bs1 (hb2.ext hE3) ?_)
  refine call (eqIntS_ok (h.2.1.ext (hE.trans hE3)) (h'.2.1.ext (hE.trans hE3))) ?_
  rintro _ w4 ⟨rfl, hE4⟩
  refine cond_f (by simp) ?_
  have hE34 := hE3.trans hE4
  refine LD_bs2 (ha.ext hE34) (LD_bs2 (hb2.ext hE34) ?_)
  refine call (eqIntS_ok (h.2.2.ext (hE.trans hE34)) (h'.2.2.ext (hE.trans hE34))) ?_
  rintro _ w5 ⟨rfl, hE5⟩
  exact cond_f (by simp) ⟨rfl, (hE.trans hE34).trans hE5⟩

end Go.Proofs.YtlmiookpmneicaaGreat
end

section
/- The contract of slices.Sort at []int (the kit's shelf, laid at this program by the kit's own tools, in plain words): for every slice the cells are then in order. -/
namespace Go.Proofs.YtlmiookpmneicaaGreat
open Go.Shelf
def Srt.lays189_ren : Go.Shelf.Ren := ⟨fun | 189 => 140 | 125 => 203 | 257 => 202 | 128 => 251 | 129 => 252 | 294 => 242 | 295 => 243 | 296 => 244 | 297 => 245 | 298 => 246 | 299 => 247 | 216 => 248 | 300 => 249 | 301 => 250 | 328 => 271 | 329 => 272 | 330 => 273 | 331 => 274 | 332 => 275 | 215 => 204 | 343 => 282 | n => n, fun | 28 => 26 | 3 => 3 | 46 => 145 | 0 => 0 | 51 => 216 | 53 => 218 | 4 => 4 | 183 => 211 | 182 => 210 | 131 => 68 | 5 => 5 | 9 => 9 | 218 => 231 | 222 => 235 | 228 => 241 | 229 => 133 | n => n, fun | n => n⟩
theorem Srt.lays189 : Go.Proofs.Lays.n189 Tryz.prog Srt.lays189_ren := {
  mixed := by kernel_rfl
  f125 := Tryz.func203.trans (congrArg some (by kernel_rfl))
  f128 := Tryz.func251.trans (congrArg some (by kernel_rfl))
  f129 := Tryz.func252.trans (congrArg some (by kernel_rfl))
  f189 := Tryz.func140.trans (congrArg some (by kernel_rfl))
  f215 := Tryz.func204.trans (congrArg some (by kernel_rfl))
  f216 := Tryz.func248.trans (congrArg some (by kernel_rfl))
  f257 := Tryz.func202.trans (congrArg some (by kernel_rfl))
  f294 := Tryz.func242.trans (congrArg some (by kernel_rfl))
  f295 := Tryz.func243.trans (congrArg some (by kernel_rfl))
  f296 := Tryz.func244.trans (congrArg some (by kernel_rfl))
  f297 := Tryz.func245.trans (congrArg some (by kernel_rfl))
  f298 := Tryz.func246.trans (congrArg some (by kernel_rfl))
  f299 := Tryz.func247.trans (congrArg some (by kernel_rfl))
  f300 := Tryz.func249.trans (congrArg some (by kernel_rfl))
  f301 := Tryz.func250.trans (congrArg some (by kernel_rfl))
  f328 := Tryz.func271.trans (congrArg some (by kernel_rfl))
  f329 := Tryz.func272.trans (congrArg some (by kernel_rfl))
  f330 := Tryz.func273.trans (congrArg some (by kernel_rfl))
  f331 := Tryz.func274.trans (congrArg some (by kernel_rfl))
  f332 := Tryz.func275.trans (congrArg some (by kernel_rfl))
  f343 := Tryz.func282.trans (congrArg some (by kernel_rfl))
  t0 := Tryz.underlying0
  a0 := Tryz.isAgg0
  z0 := Tryz.sizeOf0
  v0 := Tryz.zeroValue0
  t3 := Tryz.underlying3
  a3 := Tryz.isAgg3
  z3 := Tryz.sizeOf3
  v3 := Tryz.zeroValue3
  t4 := Tryz.underlying4
  a4 := Tryz.isAgg4
  z4 := Tryz.sizeOf4
  v4 := Tryz.zeroValue4
  t5 := Tryz.underlying5
  a5 := Tryz.isAgg5
  z5 := Tryz.sizeOf5
  v5 := Tryz.zeroValue5
  t9 := Tryz.underlying9
  a9 := Tryz.isAgg9
  z9 := Tryz.sizeOf9
  v9 := Tryz.zeroValue9
  t28 := Tryz.underlying26
  a28 := Tryz.isAgg26
  z28 := Tryz.sizeOf26
  v28 := Tryz.zeroValue26
  t46 := Tryz.underlying145
  a46 := Tryz.isAgg145
  z46 := Tryz.sizeOf145
  v46 := Tryz.zeroValue145
  t51 := Tryz.underlying216
  a51 := Tryz.isAgg216
  z51 := Tryz.sizeOf216
  v51 := Tryz.zeroValue216
  t53 := Tryz.underlying218
  a53 := Tryz.isAgg218
  z53 := Tryz.sizeOf218
  v53 := Tryz.zeroValue218
  t131 := Tryz.underlying68
  a131 := Tryz.isAgg68
  z131 := Tryz.sizeOf68
  v131 := Tryz.zeroValue68
  t182 := Tryz.underlying210
  a182 := Tryz.isAgg210
  z182 := Tryz.sizeOf210
  v182 := Tryz.zeroValue210
  t183 := Tryz.underlying211
  a183 := Tryz.isAgg211
  z183 := Tryz.sizeOf211
  v183 := Tryz.zeroValue211
  t218 := Tryz.underlying231
  a218 := Tryz.isAgg231
  z218 := Tryz.sizeOf231
  v218 := Tryz.zeroValue231
  t222 := Tryz.underlying235
  a222 := Tryz.isAgg235
  z222 := Tryz.sizeOf235
  v222 := Tryz.zeroValue235
  t228 := Tryz.underlying241
  a228 := Tryz.isAgg241
  z228 := Tryz.sizeOf241
  v228 := Tryz.zeroValue241
  t229 := Tryz.underlying133
  a229 := Tryz.isAgg133
  z229 := Tryz.sizeOf133
  v229 := Tryz.zeroValue133 }
open Go.Sort Go.RowKit in
theorem Srt.slices_Sort_int (blk off cap : Nat) (zs : List Int) (w : World) (hH : Holds (Value.int .i64) w blk off zs.toArray) (hblk : blk < w.heap.size) (hsz : zs.length < 4611686018427387904) :
    Calls Tryz.prog 140 #[.slice (some ⟨blk, off, none⟩) zs.length cap] w fun e w' =>
      e = .returned (.tuple #[]) ∧ ∃ n os, w' = grow (putRow (Value.int .i64) (Sort.ahead w n) blk off (zs.mergeSort fun x y => decide (x ≤ y)).toArray) os := Any.slices_Sort_int Srt.lays189 blk off cap zs w hH hblk hsz
open Go.RowKit Go.Sort in
/-- .. and plain. (LAID: no walk: one application.) -/
theorem Srt.slices_Sort_int_none (p : Option Addr) (cap : Nat) (w : World) :
    Calls Tryz.prog 140 #[.slice p 0 cap] w fun e w' => e = .returned (.tuple #[]) ∧ w' = w := Any.slices_Sort_int_none Srt.lays189 p cap w
end Go.Proofs.YtlmiookpmneicaaGreat
end
