/- What each function's code computes to. Printed by a program. -/
import Derived.Test.YtoeaoinedidbiaaNames
namespace Go.Proofs.Ytoeaoinedidbiaa
open Go.GX Go.RowKit
set_option linter.unusedVariables false
set_option maxRecDepth 100000

def V_l_markEndS (Q : Int → World → Prop) (a : Sl) (k : Int) (w : World) : Prop :=
  ∃ (I2 : Int → Int → World → Prop) (m2 : Int → Int → World → Nat), I2 k 0 w ∧ ∀ (k_2 : Int) (i : Int) w1, I2 k_2 i w1 → ∀ _ _ _ _ _ _ _ _ _ _ _ _ _ _ _ _ _ _ _ _ : Value,
  cond (decide ((i : Int) < a.len)) (
  IX a i 2 fun (px15 : Addr) =>
  ST (px15.add 0) 0 [.int .i64 k_2] w1 fun w2 =>
  IX a i 2 fun (px22 : Addr) =>
  ST (px22.add 1) 0 [.int .i64 (IntKind.i64.wrap (k_2 + 1))] w2 fun w3 =>
  I2 (IntKind.i64.wrap ((IntKind.i64.wrap (k_2 + 1)) + 1)) (IntKind.i64.wrap (i + 1)) w3 ∧ m2 (IntKind.i64.wrap ((IntKind.i64.wrap (k_2 + 1)) + 1)) (IntKind.i64.wrap (i + 1)) w3 < m2 k_2 i w1) (
  Q k_2 w1)

theorem C_l_markEndS {Q : Int → World → Prop} {a : Sl} {k : Int} {w : World} (h : V_l_markEndS Q a k w) : Calls Try.prog F.l_markEndS #[a.v, .int .i64 k] w (Ret [.at (.int .i64)] Q) :=
  mkC (hint := hint) (ann := annOf [(2, ⟨[(1, .int .i64), (5, .int .i64)], [6, 7, 8, 9, 10, 11, 12, 13, 14, 15, 16, 17, 18, 19, 20, 21, 22, 23, 24, 25]⟩)]) (args := [a.v, .int .i64 k]) (rs := [.at (.int .i64)]) Try.func148 (by kernel_rfl) (by kernel_rfl) h

def V_s_neFirst (Q : Bool → World → Prop) (n_0 : Sl) (n_1 : Sl) (n_2 : Sl) (v : Int) (i : Int) (w : World) : Prop :=
  NEW T.t_i_Network #[n_0.v, n_1.v, n_2.v] w fun (p_n : Addr) w1 =>
  LD [.sl] (p_n.add 0) w1 fun (x9 : Sl) =>
  IX x9 v 1 fun (px11 : Addr) =>
  LD [.sl] px11 w1 fun (x12 : Sl) =>
  IX x12 i 2 fun (px14 : Addr) =>
  LD [.int .i64, .int .i64] px14 w1 fun (x15_0 : Int) (x15_1 : Int) =>
  NEW T.t_i_End #[.int .i64 0, .int .i64 0] w1 fun (p_e : Addr) w2 =>
  ST p_e 0 [.int .i64 x15_0, .int .i64 x15_1] w2 fun w3 =>
  LD [.int .i64] (p_e.add 0) w3 fun (x18 : Int) =>
  cond (decide ((v : Int) < x18)) (
  Q true w3) (
  LD [.int .i64] (p_e.add 0) w3 fun (x23 : Int) =>
  cond ((v : Int) == x23) (
  LD [.int .i64] (p_e.add 1) w3 fun (x28 : Int) =>
  Q (decide ((i : Int) ≤ x28)) w3) (
  Q false w3))

theorem C_s_neFirst {Q : Bool → World → Prop} {n_0 : Sl} {n_1 : Sl} {n_2 : Sl} {v : Int} {i : Int} {w : World} (h : V_s_neFirst Q n_0 n_1 n_2 v i w) : Calls Try.prog F.s_neFirst #[.agg #[n_0.v, n_1.v, n_2.v], .int .i64 v, .int .i64 i] w (Ret [.at .bool] Q) :=
  mkC (hint := hint) (ann := annOf []) (args := [.agg #[n_0.v, n_1.v, n_2.v], .int .i64 v, .int .i64 i]) (rs := [.at .bool]) Try.func149 (by kernel_rfl) (by kernel_rfl) h

def V_slices_IndexFunc_sl_i_edge_i_edge (Q : Int → World → Prop) (s : Sl) (f : Value) (w : World) : Prop :=
  ∃ (I2 : Int → World → Prop) (m2 : Int → World → Nat), I2 0 w ∧ ∀ (x8 : Int) w1, I2 x8 w1 → ∀ _ _ _ _ _ _ _ _ _ _ _ _ : Value,
  cond (decide ((x8 : Int) < s.len)) (
  IX s x8 4 fun (px14 : Addr) =>
  LD [.int .i64, .int .i64, .int .i64, .int .i64] px14 w1 fun (x15_0 : Int) (x15_1 : Int) (x15_2 : Int) (x15_3 : Int) =>
  CALLV Try.prog f #[.agg #[.int .i64 x15_0, .int .i64 x15_1, .int .i64 x15_2, .int .i64 x15_3]] w1 (Ret [.at .bool] fun (x16 : Bool) w2 =>
  cond x16 (
  Q x8 w2) (
  I2 (IntKind.i64.wrap (x8 + 1)) w2 ∧ m2 (IntKind.i64.wrap (x8 + 1)) w2 < m2 x8 w1))) (
  Q (-1) w1)

theorem C_slices_IndexFunc_sl_i_edge_i_edge {Q : Int → World → Prop} {s : Sl} {f : Value} {w : World} (h : V_slices_IndexFunc_sl_i_edge_i_edge Q s f w) : Calls Try.prog F.slices_IndexFunc_sl_i_edge_i_edge #[s.v, f] w (Ret [.at (.int .i64)] Q) :=
  mkC (hint := hint) (ann := annOf [(2, ⟨[(8, .int .i64)], [4, 5, 9, 10, 11, 12, 13, 14, 15, 16, 17, 18]⟩)]) (args := [s.v, f]) (rs := [.at (.int .i64)]) Try.func150 (by kernel_rfl) (by kernel_rfl) h

def V_slices_Grow_sl_int_int (Q : Sl → World → Prop) (s : Sl) (n : Int) (w : World) : Prop :=
  cond (decide ((n : Int) < 0)) (
  False) (
  RUN Try.prog (.at (.int .i64)) (bsem .cap #[T.t_sl_int] T.t_int #[s.v]) w fun (x10 : Int) w1 =>
  cond (decide (((IntKind.i64.wrap (n - (IntKind.i64.wrap (x10 - s.len)))) : Int) > 0)) (
  RUN Try.prog (.at (.int .i64)) (bsem .cap #[T.t_sl_int] T.t_int #[s.v]) w1 fun (x19 : Int) w2 =>
  SLC s none (some x19) 1 fun (x20 : Sl) =>
  RUN Try.prog (.at .sl) (bsem .append #[T.t_sl_int, T.t_int] T.t_sl_int #[x20.v, .int .i64 (IntKind.i64.wrap (n - (IntKind.i64.wrap (x10 - s.len))))]) w2 fun (x22 : Sl) w3 =>
  SLC x22 none (some s.len) 1 fun (x25 : Sl) =>
  Q x25 w3) (
  Q s w1))

theorem C_slices_Grow_sl_int_int {Q : Sl → World → Prop} {s : Sl} {n : Int} {w : World} (h : V_slices_Grow_sl_int_int Q s n w) : Calls Try.prog F.slices_Grow_sl_int_int #[s.v, .int .i64 n] w (Ret [.at .sl] Q) :=
  mkC (hint := hint) (ann := annOf []) (args := [s.v, .int .i64 n]) (rs := [.at .sl]) Try.func151 (by kernel_rfl) (by kernel_rfl) h

def V_s_neIf (Q : Sl → Sl → Sl → Bool → World → Prop) (n_0 : Sl) (n_1 : Sl) (n_2 : Sl) (w : World) : Prop :=
  NEW T.t_i_Network #[n_0.v, n_1.v, n_2.v] w fun (p_n : Addr) w1 =>
  NEW T.t_i_Network #[.slice none 0 0, .slice none 0 0, .slice none 0 0] w1 fun (px2 : Addr) w2 =>
  LD [.sl, .sl, .sl] p_n w2 fun (x4_0 : Sl) (x4_1 : Sl) (x4_2 : Sl) =>
  Calls Try.prog F.s_neGood #[.agg #[x4_0.v, x4_1.v, x4_2.v]] w2 (Ret [.at .bool] fun (x5 : Bool) w3 =>
  cond (!x5) (
  ST px2 0 [.slice none 0 0, .slice none 0 0, .slice none 0 0] w3 fun w4 =>
  LD [.sl, .sl, .sl] px2 w4 fun (r0_0 : Sl) (r0_1 : Sl) (r0_2 : Sl) =>
  Q r0_0 r0_1 r0_2 false w4) (
  LD [.sl, .sl, .sl] p_n w3 fun (x8_0 : Sl) (x8_1 : Sl) (x8_2 : Sl) =>
  ST px2 0 [x8_0.v, x8_1.v, x8_2.v] w3 fun w5 =>
  LD [.sl, .sl, .sl] px2 w5 fun (r0_0_2 : Sl) (r0_1_2 : Sl) (r0_2_2 : Sl) =>
  Q r0_0_2 r0_1_2 r0_2_2 true w5))

theorem C_s_neIf {Q : Sl → Sl → Sl → Bool → World → Prop} {n_0 : Sl} {n_1 : Sl} {n_2 : Sl} {w : World} (h : V_s_neIf Q n_0 n_1 n_2 w) : Calls Try.prog F.s_neIf #[.agg #[n_0.v, n_1.v, n_2.v]] w (Ret [.agg [.sl, .sl, .sl], .at .bool] Q) :=
  mkC (hint := hint) (ann := annOf []) (args := [.agg #[n_0.v, n_1.v, n_2.v]]) (rs := [.agg [.sl, .sl, .sl], .at .bool]) Try.func152 (by kernel_rfl) (by kernel_rfl) h

def V_s_buDouble (Q : Sl → Sl → Sl → World → Prop) (x0_0 : Sl) (x0_1 : Sl) (x0_2 : Sl) (w : World) : Prop :=
  NEW T.t_i_Network #[x0_0.v, x0_1.v, x0_2.v] w fun (px1 : Addr) w1 =>
  NEW T.t_i_Network #[.slice none 0 0, .slice none 0 0, .slice none 0 0] w1 fun (px2 : Addr) w2 =>
  LD [.sl] (px1.add 0) w2 fun (x10 : Sl) =>
  Calls Try.prog F.s_neEmpty #[.int .i64 (IntKind.i64.wrap (2 * x10.len))] w2 (Ret [.agg [.sl, .sl, .sl]] fun (x14_0 : Sl) (x14_1 : Sl) (x14_2 : Sl) w3 =>
  NEW T.t_i_Network #[.slice none 0 0, .slice none 0 0, .slice none 0 0] w3 fun (px4 : Addr) w4 =>
  ST px4 0 [x14_0.v, x14_1.v, x14_2.v] w4 fun w5 =>
  LD [.sl] (px1.add 0) w5 fun (x16 : Sl) =>
  ∃ (I4 : Int → World → Prop) (m4 : Int → World → Nat), I4 0 w5 ∧ ∀ (x18 : Int) w6, I4 x18 w6 → ∀ _ _ _ _ _ _ _ _ _ _ _ _ _ _ _ _ _ _ _ _ _ _ _ _ _ _ _ _ _ _ _ _ _ _ _ _ _ _ _ _ _ _ _ _ _ _ _ _ _ _ _ _ _ _ _ _ _ _ _ _ _ _ _ _ _ _ _ _ _ : Value,
  cond (decide ((x18 : Int) < x16.len)) (
  IX x16 x18 1 fun (px21 : Addr) =>
  LD [.sl] px21 w6 fun (x22 : Sl) =>
  ∃ (I7 : Int → World → Prop) (m7 : Int → World → Nat), I7 0 w6 ∧ ∀ (x25 : Int) w7, I7 x25 w7 → ∀ _ _ _ _ _ _ _ _ _ _ _ _ _ _ _ _ _ _ _ _ _ _ _ _ _ _ _ _ _ _ _ _ _ _ _ _ _ _ _ : Value,
  cond (decide ((x25 : Int) < x22.len)) (
  IX x22 x25 2 fun (px27 : Addr) =>
  LD [.int .i64, .int .i64] px27 w7 fun (x28_0 : Int) (x28_1 : Int) =>
  NEW T.t_i_End #[.int .i64 0, .int .i64 0] w7 fun (px8 : Addr) w8 =>
  ST px8 0 [.int .i64 x28_0, .int .i64 x28_1] w8 fun w9 =>
  ∀ w10, Ext w9 w10 → w10.heap = w9.heap → ∃ (D10 : Nat → Prop),
  ¬ D10 (px4.add 0).block ∧ (
  LD [.sl] (px4.add 0) w10 fun (x30 : Sl) =>
  ¬ D10 (px4.add 0).block ∧ (
  LD [.sl] (px4.add 0) w10 fun (x33 : Sl) =>
  IX x33 x18 1 fun (px35 : Addr) =>
  ¬ D10 px35.block ∧ (
  LD [.sl] px35 w10 fun (x36 : Sl) =>
  ¬ D10 (px8.add 0).block ∧ (
  LD [.int .i64] (px8.add 0) w10 fun (x38 : Int) =>
  Chg w10 w10 D10 ∧ (
  LD [.int .i64] (px8.add 1) w10 fun (x42 : Int) =>
  Chg w10 w10 D10 ∧ (
  Chg w10 w10 D10 ∧ (
  RUN Try.prog (.at .sl) (Instr.buildSlice T.t_sl_i_End 1 #[(0, .agg #[.int .i64 (IntKind.i64.wrap (x38 + x10.len)), .int .i64 x42])]) w10 fun (x44 : Sl) w11 =>
  Chg w10 w11 D10 ∧ (
  RUN Try.prog (.at .sl) (bsem .append #[T.t_sl_i_End, T.t_sl_i_End] T.t_sl_i_End #[x36.v, x44.v]) w11 fun (x45 : Sl) w12 =>
  Chg w10 w12 D10 ∧ (
  IX x30 x18 1 fun (px46 : Addr) =>
  ST px46 0 [x45.v] w12 fun w13 =>
  ∀ w14, Ext w13 w14 → w14.heap = w13.heap → ∃ (D14 : Nat → Prop),
  ¬ D14 (px4.add 0).block ∧ (
  LD [.sl] (px4.add 0) w14 fun (x48 : Sl) =>
  ¬ D14 (px4.add 0).block ∧ (
  LD [.sl] (px4.add 0) w14 fun (x53 : Sl) =>
  IX x53 (IntKind.i64.wrap (x18 + x10.len)) 1 fun (px57 : Addr) =>
  ¬ D14 px57.block ∧ (
  LD [.sl] px57 w14 fun (x58 : Sl) =>
  LD [.int .i64, .int .i64] px8 w14 fun (x59_0 : Int) (x59_1 : Int) =>
  Chg w14 w14 D14 ∧ (
  RUN Try.prog (.at .sl) (Instr.buildSlice T.t_sl_i_End 1 #[(0, .agg #[.int .i64 x59_0, .int .i64 x59_1])]) w14 fun (x60 : Sl) w15 =>
  Chg w14 w15 D14 ∧ (
  RUN Try.prog (.at .sl) (bsem .append #[T.t_sl_i_End, T.t_sl_i_End] T.t_sl_i_End #[x58.v, x60.v]) w15 fun (x61 : Sl) w16 =>
  Chg w14 w16 D14 ∧ (
  IX x48 (IntKind.i64.wrap (x18 + x10.len)) 1 fun (px62 : Addr) =>
  ST px62 0 [x61.v] w16 fun w17 =>
  I7 (IntKind.i64.wrap (x25 + 1)) w17 ∧ m7 (IntKind.i64.wrap (x25 + 1)) w17 < m7 x25 w7)))))))))))))))) (
  ∀ w18, Ext w7 w18 → w18.heap = w7.heap → ∃ (D18 : Nat → Prop),
  ¬ D18 (px4.add 2).block ∧ (
  LD [.sl] (px4.add 2) w18 fun (x65 : Sl) =>
  ¬ D18 (px1.add 2).block ∧ (
  LD [.sl] (px1.add 2) w18 fun (x68 : Sl) =>
  Chg w18 w18 D18 ∧ (
  IX x68 x18 1 fun (px70 : Addr) =>
  Chg w18 w18 D18 ∧ (
  LD [.int .i64] px70 w18 fun (x71 : Int) =>
  Chg w18 w18 D18 ∧ (
  IX x65 x18 1 fun (px72 : Addr) =>
  ST px72 0 [.int .i64 x71] w18 fun w19 =>
  ∀ w20, Ext w19 w20 → w20.heap = w19.heap → ∃ (D20 : Nat → Prop),
  ¬ D20 (px4.add 2).block ∧ (
  LD [.sl] (px4.add 2) w20 fun (x74 : Sl) =>
  ¬ D20 (px1.add 2).block ∧ (
  LD [.sl] (px1.add 2) w20 fun (x79 : Sl) =>
  Chg w20 w20 D20 ∧ (
  IX x79 x18 1 fun (px81 : Addr) =>
  Chg w20 w20 D20 ∧ (
  LD [.int .i64] px81 w20 fun (x82 : Int) =>
  Chg w20 w20 D20 ∧ (
  IX x74 (IntKind.i64.wrap (x18 + x10.len)) 1 fun (px83 : Addr) =>
  ST px83 0 [.int .i64 x82] w20 fun w21 =>
  I4 (IntKind.i64.wrap (x18 + 1)) w21 ∧ m4 (IntKind.i64.wrap (x18 + 1)) w21 < m4 x18 w6)))))))))))) (
  LD [.sl, .sl, .sl] px4 w6 fun (x85_0 : Sl) (x85_1 : Sl) (x85_2 : Sl) =>
  ST px2 0 [x85_0.v, x85_1.v, x85_2.v] w6 fun w22 =>
  LD [.sl, .sl, .sl] px2 w22 fun (r0_0 : Sl) (r0_1 : Sl) (r0_2 : Sl) =>
  Q r0_0 r0_1 r0_2 w22))

theorem C_s_buDouble {Q : Sl → Sl → Sl → World → Prop} {x0_0 : Sl} {x0_1 : Sl} {x0_2 : Sl} {w : World} (h : V_s_buDouble Q x0_0 x0_1 x0_2 w) : Calls Try.prog F.s_buDouble #[.agg #[x0_0.v, x0_1.v, x0_2.v]] w (Ret [.agg [.sl, .sl, .sl]] Q) :=
  mkC (hint := hint) (ann := annOf [(4, ⟨[(18, .int .i64)], [5, 6, 8, 19, 20, 21, 22, 23, 24, 25, 26, 27, 28, 29, 30, 31, 32, 33, 34, 35, 36, 37, 38, 39, 40, 41, 42, 43, 44, 45, 46, 47, 48, 49, 50, 51, 52, 53, 54, 55, 56, 57, 58, 59, 60, 61, 62, 63, 64, 65, 66, 67, 68, 69, 70, 71, 72, 73, 74, 75, 76, 77, 78, 79, 80, 81, 82, 83, 84]⟩), (7, ⟨[(25, .int .i64)], [8, 26, 27, 28, 29, 30, 31, 32, 33, 34, 35, 36, 37, 38, 39, 40, 41, 42, 43, 44, 45, 46, 47, 48, 49, 50, 51, 52, 53, 54, 55, 56, 57, 58, 59, 60, 61, 62, 63]⟩)]) (args := [.agg #[x0_0.v, x0_1.v, x0_2.v]]) (rs := [.agg [.sl, .sl, .sl]]) Try.func153 (by kernel_rfl) (by kernel_rfl) h

def V_s_mtProposals_k12 (I18 : Sl → Int → World → Prop) (m18 : Sl → Int → World → Nat) (x9_3 : Sl) (x65 : Int) (w9 : World) (x9_4 : Sl) (w13 : World) : Prop :=
  I18 x9_4 (IntKind.i64.wrap (x65 + 1)) w13 ∧ m18 x9_4 (IntKind.i64.wrap (x65 + 1)) w13 < m18 x9_3 x65 w9

def V_s_mtProposals_k8 (I14 : Sl → Int → World → Prop) (m14 : Sl → Int → World → Nat) (x9_2 : Sl) (x46 : Int) (w7 : World) (x9_5 : Sl) (w14 : World) : Prop :=
  I14 x9_5 (IntKind.i64.wrap (x46 + 1)) w14 ∧ m14 x9_5 (IntKind.i64.wrap (x46 + 1)) w14 < m14 x9_2 x46 w7

def V_s_mtProposals_k9 (I14 : Sl → Int → World → Prop) (m14 : Sl → Int → World → Nat) (w7 : World) (px2 : Addr) (x10 : Int) (x42 : Sl) (x9_2 : Sl) (x46 : Int) (x50 : Sl) (w8 : World) : Prop :=
  ∃ (I18 : Sl → Int → World → Prop) (m18 : Sl → Int → World → Nat), I18 x9_2 0 w8 ∧ ∀ (x9_3 : Sl) (x65 : Int) w9, I18 x9_3 x65 w9 → ∀ _ _ _ _ _ _ _ _ _ _ _ _ _ _ _ _ _ _ _ _ _ _ _ _ _ _ _ _ _ _ _ : Value,
  cond (decide ((x65 : Int) < x50.len)) (
  IX x50 x65 2 fun (px68 : Addr) =>
  LD [.int .i64, .int .i64] px68 w9 fun (x69_0 : Int) (x69_1 : Int) =>
  NEW T.t_i_End #[.int .i64 0, .int .i64 0] w9 fun (px15 : Addr) w10 =>
  ST px15 0 [.int .i64 x69_0, .int .i64 x69_1] w10 fun w11 =>
  IX x9_3 x46 1 fun (px72 : Addr) =>
  LD [.int .i64] px72 w11 fun (x73 : Int) =>
  cond (decide ((x73 : Int) < 0)) (
  LD [.int .i64] (px15.add 0) w11 fun (x78 : Int) =>
  IX x42 x78 1 fun (px79 : Addr) =>
  LD [.int .i64] px79 w11 fun (x80 : Int) =>
  cond (decide ((x80 : Int) < 0)) (
  LD [.int .i64] (px15.add 1) w11 fun (x85 : Int) =>
  cond ((x85 : Int) == x10) (
  LD [.sl, .sl, .sl] px2 w11 fun (x89_0 : Sl) (x89_1 : Sl) (x89_2 : Sl) =>
  Calls Try.prog F.s_mtTake #[.agg #[x89_0.v, x89_1.v, x89_2.v], x9_3.v, .int .i64 x46, .int .i64 x65] w11 (Ret [.at .sl] fun (x93 : Sl) w12 =>
  V_s_mtProposals_k12 I18 m18 x9_3 x65 w9 x93 w12)) (
  V_s_mtProposals_k12 I18 m18 x9_3 x65 w9 x9_3 w11)) (
  V_s_mtProposals_k12 I18 m18 x9_3 x65 w9 x9_3 w11)) (
  V_s_mtProposals_k12 I18 m18 x9_3 x65 w9 x9_3 w11)) (
  V_s_mtProposals_k8 I14 m14 x9_2 x46 w7 x9_3 w9)

def V_s_mtProposals (Q : Sl → Int → World → Prop) (x0_0 : Sl) (x0_1 : Sl) (x0_2 : Sl) (x1 : Sl) (w : World) : Prop :=
  NEW T.t_i_Network #[x0_0.v, x0_1.v, x0_2.v] w fun (px2 : Addr) w1 =>
  LD [.sl] (px2.add 0) w1 fun (x17 : Sl) =>
  ∃ (I3 : Int → Int → World → Prop) (m3 : Int → Int → World → Nat), I3 0 0 w1 ∧ ∀ (x6 : Int) (x19 : Int) w2, I3 x6 x19 w2 → ∀ _ _ _ _ _ _ _ _ _ _ _ _ _ _ _ _ : Value,
  cond (decide ((x19 : Int) < x17.len)) (
  IX x17 x19 1 fun (px22 : Addr) =>
  LD [.sl] px22 w2 fun (x23 : Sl) =>
  IX x1 x19 1 fun (px26 : Addr) =>
  LD [.int .i64] px26 w2 fun (x27 : Int) =>
  cond ((x27 : Int) == 0) (
  Calls Try.prog F.s_l1Most #[.int .i64 x6, .int .i64 x23.len] w2 (Ret [.at (.int .i64)] fun (x32 : Int) w3 =>
  I3 x32 (IntKind.i64.wrap (x19 + 1)) w3 ∧ m3 x32 (IntKind.i64.wrap (x19 + 1)) w3 < m3 x6 x19 w2)) (
  I3 x6 (IntKind.i64.wrap (x19 + 1)) w2 ∧ m3 x6 (IntKind.i64.wrap (x19 + 1)) w2 < m3 x6 x19 w2)) (
  LD [.sl, .sl, .sl] px2 w2 fun (x34_0 : Sl) (x34_1 : Sl) (x34_2 : Sl) =>
  Calls Try.prog F.s_mtFree #[.agg #[x34_0.v, x34_1.v, x34_2.v]] w2 (Ret [.at .sl] fun (x35 : Sl) w4 =>
  ∃ (I10 : Sl → Int → World → Prop) (m10 : Sl → Int → World → Nat), I10 x35 0 w4 ∧ ∀ (x9 : Sl) (x10 : Int) w5, I10 x9 x10 w5 → ∀ _ _ _ _ _ _ _ _ _ _ _ _ _ _ _ _ _ _ _ _ _ _ _ _ _ _ _ _ _ _ _ _ _ _ _ _ _ _ _ _ _ _ _ _ _ _ _ _ _ _ _ _ _ _ _ _ _ _ _ _ _ _ _ _ _ : Value,
  cond (decide ((x10 : Int) < x6)) (
  Calls Try.prog F.s_l1Own #[x9.v] w5 (Ret [.at .sl] fun (x42 : Sl) w6 =>
  LD [.sl] (px2.add 0) w6 fun (x44 : Sl) =>
  ∃ (I14 : Sl → Int → World → Prop) (m14 : Sl → Int → World → Nat), I14 x9 0 w6 ∧ ∀ (x9_2 : Sl) (x46 : Int) w7, I14 x9_2 x46 w7 → ∀ _ _ _ _ _ _ _ _ _ _ _ _ _ _ _ _ _ _ _ _ _ _ _ _ _ _ _ _ _ _ _ _ _ _ _ _ _ _ _ _ _ _ _ _ _ _ _ _ _ _ _ _ _ : Value,
  cond (decide ((x46 : Int) < x44.len)) (
  IX x44 x46 1 fun (px49 : Addr) =>
  LD [.sl] px49 w7 fun (x50 : Sl) =>
  IX x1 x46 1 fun (px53 : Addr) =>
  LD [.int .i64] px53 w7 fun (x54 : Int) =>
  cond ((x54 : Int) == 0) (
  V_s_mtProposals_k8 I14 m14 x9_2 x46 w7 x9_2 w7) (
  IX x42 x46 1 fun (px59 : Addr) =>
  LD [.int .i64] px59 w7 fun (x60 : Int) =>
  cond (decide ((x60 : Int) ≥ 0)) (
  V_s_mtProposals_k8 I14 m14 x9_2 x46 w7 x9_2 w7) (
  V_s_mtProposals_k9 I14 m14 w7 px2 x10 x42 x9_2 x46 x50 w7))) (
  I10 x9_2 (IntKind.i64.wrap (x10 + 1)) w7 ∧ m10 x9_2 (IntKind.i64.wrap (x10 + 1)) w7 < m10 x9 x10 w5))) (
  Q x9 x6 w5)))

theorem C_s_mtProposals {Q : Sl → Int → World → Prop} {x0_0 : Sl} {x0_1 : Sl} {x0_2 : Sl} {x1 : Sl} {w : World} (h : V_s_mtProposals Q x0_0 x0_1 x0_2 x1 w) : Calls Try.prog F.s_mtProposals #[.agg #[x0_0.v, x0_1.v, x0_2.v], x1.v] w (Ret [.at .sl, .at (.int .i64)] Q) :=
  mkC (hint := hint) (ann := annOf [(3, ⟨[(6, .int .i64), (19, .int .i64)], [7, 8, 20, 21, 22, 23, 24, 25, 26, 27, 28, 29, 30, 31, 32, 33]⟩), (10, ⟨[(9, .sl), (10, .int .i64)], [11, 12, 13, 14, 15, 36, 37, 38, 39, 40, 41, 42, 43, 44, 45, 46, 47, 48, 49, 50, 51, 52, 53, 54, 55, 56, 57, 58, 59, 60, 61, 62, 63, 64, 65, 66, 67, 68, 69, 70, 71, 72, 73, 74, 75, 76, 77, 78, 79, 80, 81, 82, 83, 84, 85, 86, 87, 88, 89, 90, 91, 92, 93, 94, 95]⟩), (14, ⟨[(9, .sl), (46, .int .i64)], [12, 13, 14, 15, 47, 48, 49, 50, 51, 52, 53, 54, 55, 56, 57, 58, 59, 60, 61, 62, 63, 64, 65, 66, 67, 68, 69, 70, 71, 72, 73, 74, 75, 76, 77, 78, 79, 80, 81, 82, 83, 84, 85, 86, 87, 88, 89, 90, 91, 92, 93, 94, 95]⟩), (18, ⟨[(9, .sl), (65, .int .i64)], [14, 15, 66, 67, 68, 69, 70, 71, 72, 73, 74, 75, 76, 77, 78, 79, 80, 81, 82, 83, 84, 85, 86, 87, 88, 89, 90, 91, 92, 93, 94]⟩)]) (args := [.agg #[x0_0.v, x0_1.v, x0_2.v], x1.v]) (rs := [.at .sl, .at (.int .i64)]) Try.func154 (by kernel_rfl) (by kernel_rfl) h

def V_i_network (Q : Sl → Sl → Sl → Bool → World → Prop) (n_0 : Sl) (n_1 : Sl) (n_2 : Sl) (w : World) : Prop :=
  NEW T.t_i_Network #[n_0.v, n_1.v, n_2.v] w fun (p_n : Addr) w1 =>
  NEW T.t_i_Network #[.slice none 0 0, .slice none 0 0, .slice none 0 0] w1 fun (px2 : Addr) w2 =>
  LD [.sl, .sl, .sl] p_n w2 fun (x4_0 : Sl) (x4_1 : Sl) (x4_2 : Sl) =>
  Calls Try.prog F.i_IsNetwork #[.agg #[x4_0.v, x4_1.v, x4_2.v]] w2 (Ret [.at .bool] fun (x5 : Bool) w3 =>
  cond (!x5) (
  ST px2 0 [.slice none 0 0, .slice none 0 0, .slice none 0 0] w3 fun w4 =>
  LD [.sl, .sl, .sl] px2 w4 fun (r0_0 : Sl) (r0_1 : Sl) (r0_2 : Sl) =>
  Q r0_0 r0_1 r0_2 false w4) (
  LD [.sl, .sl, .sl] p_n w3 fun (x8_0 : Sl) (x8_1 : Sl) (x8_2 : Sl) =>
  ST px2 0 [x8_0.v, x8_1.v, x8_2.v] w3 fun w5 =>
  LD [.sl, .sl, .sl] px2 w5 fun (r0_0_2 : Sl) (r0_1_2 : Sl) (r0_2_2 : Sl) =>
  Q r0_0_2 r0_1_2 r0_2_2 true w5))

theorem C_i_network {Q : Sl → Sl → Sl → Bool → World → Prop} {n_0 : Sl} {n_1 : Sl} {n_2 : Sl} {w : World} (h : V_i_network Q n_0 n_1 n_2 w) : Calls Try.prog F.i_network #[.agg #[n_0.v, n_1.v, n_2.v]] w (Ret [.agg [.sl, .sl, .sl], .at .bool] Q) :=
  mkC (hint := hint) (ann := annOf []) (args := [.agg #[n_0.v, n_1.v, n_2.v]]) (rs := [.agg [.sl, .sl, .sl], .at .bool]) Try.func155 (by kernel_rfl) (by kernel_rfl) h

def V_i_noMatching (Q : Sl → World → Prop) (n_0 : Sl) (n_1 : Sl) (n_2 : Sl) (w : World) : Prop :=
  NEW T.t_i_Network #[n_0.v, n_1.v, n_2.v] w fun (p_n : Addr) w1 =>
  RUN Try.prog (.at .sl) (Instr.buildSlice T.t_sl_int 1 #[(0, .int .i64 (-1))]) w1 fun (x3 : Sl) w2 =>
  LD [.sl] (p_n.add 0) w2 fun (x5 : Sl) =>
  Calls Try.prog F.slices_Repeat_sl_int_int #[x3.v, .int .i64 x5.len] w2 (Ret [.at .sl] fun (x7 : Sl) w3 =>
  Q x7 w3)

theorem C_i_noMatching {Q : Sl → World → Prop} {n_0 : Sl} {n_1 : Sl} {n_2 : Sl} {w : World} (h : V_i_noMatching Q n_0 n_1 n_2 w) : Calls Try.prog F.i_noMatching #[.agg #[n_0.v, n_1.v, n_2.v]] w (Ret [.at .sl] Q) :=
  mkC (hint := hint) (ann := annOf []) (args := [.agg #[n_0.v, n_1.v, n_2.v]]) (rs := [.at .sl]) Try.func156 (by kernel_rfl) (by kernel_rfl) h

def V_math_bits_Mul (Q : Int → Int → World → Prop) (x : Int) (y : Int) (w : World) : Prop :=
  Calls Try.prog F.math_bits_Mul64 #[.int .u64 x, .int .u64 y] w (Ret [.at (.int .u64), .at (.int .u64)] fun (x25_0 : Int) (x25_1 : Int) w1 =>
  Q x25_0 x25_1 w1)

theorem C_math_bits_Mul {Q : Int → Int → World → Prop} {x : Int} {y : Int} {w : World} (h : V_math_bits_Mul Q x y w) : Calls Try.prog F.math_bits_Mul #[.int .u64 x, .int .u64 y] w (Ret [.at (.int .u64), .at (.int .u64)] Q) :=
  mkC (hint := hint) (ann := annOf []) (args := [.int .u64 x, .int .u64 y]) (rs := [.at (.int .u64), .at (.int .u64)]) Try.func157 (by kernel_rfl) (by kernel_rfl) h

def V_s_clPalette (Q : Bool → World → Prop) (k : Int) (a : Int) (w : World) : Prop :=
  Calls Try.prog F.s_l1In #[.int .i64 k, .int .i64 1, .int .i64 1000000000000] w (Ret [.at .bool] fun (x6 : Bool) w1 =>
  cond x6 (
  Calls Try.prog F.s_l1In #[.int .i64 a, .int .i64 0, .int .i64 6] w1 (Ret [.at .bool] fun (x9 : Bool) w2 =>
  Q x9 w2)) (
  Q false w1))

theorem C_s_clPalette {Q : Bool → World → Prop} {k : Int} {a : Int} {w : World} (h : V_s_clPalette Q k a w) : Calls Try.prog F.s_clPalette #[.int .i64 k, .int .i64 a] w (Ret [.at .bool] Q) :=
  mkC (hint := hint) (ann := annOf []) (args := [.int .i64 k, .int .i64 a]) (rs := [.at .bool]) Try.func158 (by kernel_rfl) (by kernel_rfl) h

def V_s_meMost (Q : Int → World → Prop) (l : Sl) (w : World) : Prop :=
  ∃ (I3 : Int → Int → World → Prop) (m3 : Int → Int → World → Nat), I3 0 0 w ∧ ∀ (out : Int) (x8 : Int) w1, I3 out x8 w1 → ∀ _ _ _ _ _ _ _ _ : Value,
  cond (decide ((x8 : Int) < l.len)) (
  IX l x8 1 fun (px10 : Addr) =>
  LD [.int .i64] px10 w1 fun (x11 : Int) =>
  Calls Try.prog F.s_l1Most #[.int .i64 out, .int .i64 x11] w1 (Ret [.at (.int .i64)] fun (x14 : Int) w2 =>
  I3 x14 (IntKind.i64.wrap (x8 + 1)) w2 ∧ m3 x14 (IntKind.i64.wrap (x8 + 1)) w2 < m3 out x8 w1)) (
  Q out w1)

theorem C_s_meMost {Q : Int → World → Prop} {l : Sl} {w : World} (h : V_s_meMost Q l w) : Calls Try.prog F.s_meMost #[l.v] w (Ret [.at (.int .i64)] Q) :=
  mkC (hint := hint) (ann := annOf [(3, ⟨[(3, .int .i64), (8, .int .i64)], [5, 9, 10, 11, 12, 13, 14, 15]⟩)]) (args := [l.v]) (rs := [.at (.int .i64)]) Try.func159 (by kernel_rfl) (by kernel_rfl) h

def V_s_neDegrees (Q : Sl → World → Prop) (n_0 : Sl) (n_1 : Sl) (n_2 : Sl) (w : World) : Prop :=
  NEW T.t_i_Network #[n_0.v, n_1.v, n_2.v] w fun (p_n : Addr) w1 =>
  LD [.sl] (p_n.add 0) w1 fun (x7 : Sl) =>
  ∃ (I3 : Sl → Int → World → Prop) (m3 : Sl → Int → World → Nat), I3 (⟨none, 0, 0⟩) 0 w1 ∧ ∀ (out : Sl) (x9 : Int) w2, I3 out x9 w2 → ∀ _ _ _ _ _ _ _ _ _ _ : Value,
  cond (decide ((x9 : Int) < x7.len)) (
  IX x7 x9 1 fun (px11 : Addr) =>
  LD [.sl] px11 w2 fun (x12 : Sl) =>
  RUN Try.prog (.at .sl) (Instr.buildSlice T.t_sl_int 1 #[(0, .int .i64 x12.len)]) w2 fun (x16 : Sl) w3 =>
  RUN Try.prog (.at .sl) (bsem .append #[T.t_sl_int, T.t_sl_int] T.t_sl_int #[out.v, x16.v]) w3 fun (x17 : Sl) w4 =>
  I3 x17 (IntKind.i64.wrap (x9 + 1)) w4 ∧ m3 x17 (IntKind.i64.wrap (x9 + 1)) w4 < m3 out x9 w2) (
  Q out w2)

theorem C_s_neDegrees {Q : Sl → World → Prop} {n_0 : Sl} {n_1 : Sl} {n_2 : Sl} {w : World} (h : V_s_neDegrees Q n_0 n_1 n_2 w) : Calls Try.prog F.s_neDegrees #[.agg #[n_0.v, n_1.v, n_2.v]] w (Ret [.at .sl] Q) :=
  mkC (hint := hint) (ann := annOf [(3, ⟨[(3, .sl), (9, .int .i64)], [5, 10, 11, 12, 13, 14, 15, 16, 17, 18]⟩)]) (args := [.agg #[n_0.v, n_1.v, n_2.v]]) (rs := [.at .sl]) Try.func160 (by kernel_rfl) (by kernel_rfl) h

def V_s_nuNext (Q : Int → World → Prop) (n : Int) (w : World) : Prop :=
  ∃ (I1 : Int → World → Prop) (m1 : Int → World → Nat), I1 n w ∧ ∀ (n_2 : Int) w1, I1 n_2 w1 → ∀ _ _ _ _ _ : Value,
  Calls Try.prog F.s_nuPrime #[.int .i64 n_2] w1 (Ret [.at .bool] fun (x4 : Bool) w2 =>
  cond (!x4) (
  I1 (IntKind.i64.wrap (n_2 + 1)) w2 ∧ m1 (IntKind.i64.wrap (n_2 + 1)) w2 < m1 n_2 w1) (
  Q n_2 w2))

theorem C_s_nuNext {Q : Int → World → Prop} {n : Int} {w : World} (h : V_s_nuNext Q n w) : Calls Try.prog F.s_nuNext #[.int .i64 n] w (Ret [.at (.int .i64)] Q) :=
  mkC (hint := hint) (ann := annOf [(1, ⟨[(0, .int .i64)], [3, 4, 5, 6, 7]⟩)]) (args := [.int .i64 n]) (rs := [.at (.int .i64)]) Try.func161 (by kernel_rfl) (by kernel_rfl) h

def V_s_clPower (Q : Bool → World → Prop) (q : Int) (d : Int) (k : Int) (w : World) : Prop :=
  ∃ (I3 : Int → Int → World → Prop) (m3 : Int → Int → World → Nat), I3 1 0 w ∧ ∀ (all : Int) (i : Int) w1, I3 all i w1 → ∀ _ _ _ _ _ _ _ _ _ _ _ _ : Value,
  cond (decide ((i : Int) ≤ d)) (
  cond (decide (((IntKind.i64.wrap (all * q)) : Int) ≥ k)) (
  Q true w1) (
  I3 (IntKind.i64.wrap (all * q)) (IntKind.i64.wrap (i + 1)) w1 ∧ m3 (IntKind.i64.wrap (all * q)) (IntKind.i64.wrap (i + 1)) w1 < m3 all i w1)) (
  Q false w1)

theorem C_s_clPower {Q : Bool → World → Prop} {q : Int} {d : Int} {k : Int} {w : World} (h : V_s_clPower Q q d k w) : Calls Try.prog F.s_clPower #[.int .i64 q, .int .i64 d, .int .i64 k] w (Ret [.at .bool] Q) :=
  mkC (hint := hint) (ann := annOf [(3, ⟨[(7, .int .i64), (8, .int .i64)], [6, 9, 10, 11, 12, 13, 14, 15, 16, 17, 18, 19]⟩)]) (args := [.int .i64 q, .int .i64 d, .int .i64 k]) (rs := [.at .bool]) Try.func162 (by kernel_rfl) (by kernel_rfl) h

def V_s_clTake (Q : Int → World → Prop) (q : Int) (d : Int) (own : Int) (near : Sl) (w : World) : Prop :=
  Calls Try.prog F.s_nuDigits #[.int .i64 own, .int .i64 q, .int .i64 (IntKind.i64.wrap (d + 1))] w (Ret [.at .sl] fun (x19 : Sl) w1 =>
  ∃ (I4 : Int → World → Prop) (m4 : Int → World → Nat), I4 0 w1 ∧ ∀ (x : Int) w2, I4 x w2 → ∀ _ _ _ _ _ _ _ _ _ _ _ _ _ _ _ _ _ _ _ _ _ _ _ _ _ _ _ _ _ _ _ _ _ _ _ _ : Value,
  Calls Try.prog F.s_nuValue #[.int .i64 q, x19.v, .int .i64 x] w2 (Ret [.at (.int .i64)] fun (x25 : Int) w3 =>
  ∃ (I7 : Bool → Int → World → Prop) (m7 : Bool → Int → World → Nat), I7 true 0 w3 ∧ ∀ (free : Bool) (x28 : Int) w4, I7 free x28 w4 → ∀ _ _ _ _ _ _ _ _ _ _ _ _ _ _ _ _ _ _ : Value,
  cond (decide ((x28 : Int) < near.len)) (
  IX near x28 1 fun (px30 : Addr) =>
  LD [.int .i64] px30 w4 fun (x31 : Int) =>
  cond free (
  Calls Try.prog F.s_nuDigits #[.int .i64 x31, .int .i64 q, .int .i64 (IntKind.i64.wrap (d + 1))] w4 (Ret [.at .sl] fun (x39 : Sl) w5 =>
  Calls Try.prog F.s_nuValue #[.int .i64 q, x39.v, .int .i64 x] w5 (Ret [.at (.int .i64)] fun (x41 : Int) w6 =>
  I7 ((x41 : Int) != x25) (IntKind.i64.wrap (x28 + 1)) w6 ∧ m7 ((x41 : Int) != x25) (IntKind.i64.wrap (x28 + 1)) w6 < m7 free x28 w4))) (
  I7 false (IntKind.i64.wrap (x28 + 1)) w4 ∧ m7 false (IntKind.i64.wrap (x28 + 1)) w4 < m7 free x28 w4)) (
  cond free (
  Q (IntKind.i64.wrap ((IntKind.i64.wrap (x * q)) + x25)) w4) (
  I4 (IntKind.i64.wrap (x + 1)) w4 ∧ m4 (IntKind.i64.wrap (x + 1)) w4 < m4 x w2))))

theorem C_s_clTake {Q : Int → World → Prop} {q : Int} {d : Int} {own : Int} {near : Sl} {w : World} (h : V_s_clTake Q q d own near w) : Calls Try.prog F.s_clTake #[.int .i64 q, .int .i64 d, .int .i64 own, near.v] w (Ret [.at (.int .i64)] Q) :=
  mkC (hint := hint) (ann := annOf [(4, ⟨[(10, .int .i64)], [8, 11, 12, 14, 20, 21, 22, 23, 24, 25, 26, 27, 28, 29, 30, 31, 32, 33, 34, 35, 36, 37, 38, 39, 40, 41, 42, 43, 44, 45, 46, 47, 48, 49, 50, 51]⟩), (7, ⟨[(12, .bool), (28, .int .i64)], [14, 29, 30, 31, 32, 33, 34, 35, 36, 37, 38, 39, 40, 41, 42, 43, 44, 45]⟩)]) (args := [.int .i64 q, .int .i64 d, .int .i64 own, near.v]) (rs := [.at (.int .i64)]) Try.func163 (by kernel_rfl) (by kernel_rfl) h

def V_i_isBound (Q : Bool → World → Prop) (n_0 : Sl) (n_1 : Sl) (n_2 : Sl) (a : Int) (w : World) : Prop :=
  NEW T.t_i_Network #[n_0.v, n_1.v, n_2.v] w fun (p_n : Addr) w1 =>
  Calls Try.prog F.i_within #[.int .i64 a, .int .i64 0, .int .i64 6] w1 (Ret [.at .bool] fun (x6 : Bool) w2 =>
  cond x6 (
  LD [.sl, .sl, .sl] p_n w2 fun (x8_0 : Sl) (x8_1 : Sl) (x8_2 : Sl) =>
  Calls Try.prog F.i_Network_degrees #[.agg #[x8_0.v, x8_1.v, x8_2.v]] w2 (Ret [.at .sl] fun (x9 : Sl) w3 =>
  Calls Try.prog F.slices_Max_sl_int_int #[x9.v] w3 (Ret [.at (.int .i64)] fun (x10 : Int) w4 =>
  Q (decide ((x10 : Int) ≤ a)) w4))) (
  Q false w2))

theorem C_i_isBound {Q : Bool → World → Prop} {n_0 : Sl} {n_1 : Sl} {n_2 : Sl} {a : Int} {w : World} (h : V_i_isBound Q n_0 n_1 n_2 a w) : Calls Try.prog F.i_isBound #[.agg #[n_0.v, n_1.v, n_2.v], .int .i64 a] w (Ret [.at .bool] Q) :=
  mkC (hint := hint) (ann := annOf []) (args := [.agg #[n_0.v, n_1.v, n_2.v], .int .i64 a]) (rs := [.at .bool]) Try.func164 (by kernel_rfl) (by kernel_rfl) h

def V_i_polynomialParameters_k1 (I3 : Int → World → Prop) (m3 : Int → World → Nat) (q : Int) (w1 : World) (w6 : World) : Prop :=
  I3 (IntKind.i64.wrap (q + 1)) w6 ∧ m3 (IntKind.i64.wrap (q + 1)) w6 < m3 q w1

def V_i_polynomialParameters (Q : Int → Int → World → Prop) (k : Int) (a : Int) (w : World) : Prop :=
  ∃ (I3 : Int → World → Prop) (m3 : Int → World → Nat), I3 2 w ∧ ∀ (q : Int) w1, I3 q w1 → ∀ _ _ _ _ _ _ _ _ _ _ _ _ _ _ _ _ _ _ _ _ _ _ _ _ _ _ _ _ _ _ _ _ _ _ _ _ _ _ _ _ : Value,
  Calls Try.prog F.i_isPrime #[.int .i64 q] w1 (Ret [.at .bool] fun (x12 : Bool) w2 =>
  cond (!x12) (
  V_i_polynomialParameters_k1 I3 m3 q w1 w2) (
  ∃ (I6 : Int → Int → World → Prop) (m6 : Int → Int → World → Nat), I6 q 1 w2 ∧ ∀ (power : Int) (d : Int) w3, I6 power d w3 → ∀ _ _ _ _ _ _ _ _ _ _ _ _ _ _ _ _ _ _ _ _ _ _ _ : Value,
  cond (decide (((IntKind.i64.wrap (a * d)) : Int) < q)) (
  cond (decide ((power : Int) < k)) (
  RUN Try.prog (.at (.int .i64)) (bsem .min #[T.t_int, T.t_int] T.t_int #[.int .i64 (IntKind.i64.wrap (power * q)), .int .i64 1000000000000]) w3 fun (x30_2 : Int) w5 =>
  cond (decide ((x30_2 : Int) ≥ k)) (
  Q q d w5) (
  I6 x30_2 (IntKind.i64.wrap (d + 1)) w5 ∧ m6 x30_2 (IntKind.i64.wrap (d + 1)) w5 < m6 power d w3)) (
  cond (decide ((power : Int) ≥ k)) (
  cond (decide ((a : Int) < q)) (
  Q q 1 w3) (
  V_i_polynomialParameters_k1 I3 m3 q w1 w3)) (
  V_i_polynomialParameters_k1 I3 m3 q w1 w3))) (
  cond (decide ((power : Int) ≥ k)) (
  cond (decide ((a : Int) < q)) (
  Q q 1 w3) (
  V_i_polynomialParameters_k1 I3 m3 q w1 w3)) (
  V_i_polynomialParameters_k1 I3 m3 q w1 w3))))

theorem C_i_polynomialParameters {Q : Int → Int → World → Prop} {k : Int} {a : Int} {w : World} (h : V_i_polynomialParameters Q k a w) : Calls Try.prog F.i_polynomialParameters #[.int .i64 k, .int .i64 a] w (Ret [.at (.int .i64), .at (.int .i64)] Q) :=
  mkC (hint := hint) (ann := annOf [(3, ⟨[(6, .int .i64)], [4, 5, 7, 8, 9, 10, 11, 12, 13, 14, 15, 16, 17, 18, 19, 20, 21, 22, 23, 24, 25, 26, 27, 28, 29, 30, 31, 32, 33, 34, 35, 36, 37, 38, 39, 40, 41, 42, 43, 44]⟩), (6, ⟨[(7, .int .i64), (8, .int .i64)], [4, 5, 15, 16, 17, 18, 19, 20, 21, 22, 23, 24, 25, 26, 27, 28, 29, 30, 31, 32, 33, 34, 35]⟩)]) (args := [.int .i64 k, .int .i64 a]) (rs := [.at (.int .i64), .at (.int .i64)]) Try.func165 (by kernel_rfl) (by kernel_rfl) h

def V_i_DigitsOf_k1 (n : Int) (base : Int) (count : Int) (Q : Sl → Bool → World → Prop) (w4 : World) : Prop :=
  ∃ (I5 : Int → Sl → Int → World → Prop) (m5 : Int → Sl → Int → World → Nat), I5 n (⟨none, 0, 0⟩) 0 w4 ∧ ∀ (n_2 : Int) (out : Sl) (x23 : Int) w5, I5 n_2 out x23 w5 → ∀ _ _ _ _ _ _ _ _ _ _ _ : Value,
  cond (decide ((x23 : Int) < count)) (
  (base : Int) ≠ 0 ∧ (
  RUN Try.prog (.at .sl) (Instr.buildSlice T.t_sl_int 1 #[(0, .int .i64 (Int.tmod n_2 base))]) w5 fun (x29 : Sl) w6 =>
  RUN Try.prog (.at .sl) (bsem .append #[T.t_sl_int, T.t_sl_int] T.t_sl_int #[out.v, x29.v]) w6 fun (x30 : Sl) w7 =>
  (base : Int) ≠ 0 ∧ (
  I5 (IntKind.i64.wrap (Int.tdiv n_2 base)) x30 (IntKind.i64.wrap (x23 + 1)) w7 ∧ m5 (IntKind.i64.wrap (Int.tdiv n_2 base)) x30 (IntKind.i64.wrap (x23 + 1)) w7 < m5 n_2 out x23 w5))) (
  cond (decide ((n_2 : Int) > 0)) (
  Q (⟨none, 0, 0⟩) false w5) (
  Q out true w5))

def V_i_DigitsOf (Q : Sl → Bool → World → Prop) (n : Int) (base : Int) (count : Int) (w : World) : Prop :=
  Calls Try.prog F.i_isWhole #[.int .i64 n] w (Ret [.at .bool] fun (x10 : Bool) w1 =>
  cond (!x10) (
  Q (⟨none, 0, 0⟩) false w1) (
  Calls Try.prog F.i_within #[.int .i64 base, .int .i64 2, .int .i64 1000] w1 (Ret [.at .bool] fun (x14 : Bool) w2 =>
  cond (!x14) (
  Q (⟨none, 0, 0⟩) false w2) (
  Calls Try.prog F.i_within #[.int .i64 count, .int .i64 0, .int .i64 60] w2 (Ret [.at .bool] fun (x19 : Bool) w3 =>
  cond (!x19) (
  Q (⟨none, 0, 0⟩) false w3) (
  V_i_DigitsOf_k1 n base count Q w3))))))

theorem C_i_DigitsOf {Q : Sl → Bool → World → Prop} {n : Int} {base : Int} {count : Int} {w : World} (h : V_i_DigitsOf Q n base count w) : Calls Try.prog F.i_DigitsOf #[.int .i64 n, .int .i64 base, .int .i64 count] w (Ret [.at .sl, .at .bool] Q) :=
  mkC (hint := hint) (ann := annOf [(5, ⟨[(0, .int .i64), (8, .sl), (23, .int .i64)], [24, 25, 26, 27, 28, 29, 30, 31, 32, 33, 34]⟩)]) (args := [.int .i64 n, .int .i64 base, .int .i64 count]) (rs := [.at .sl, .at .bool]) Try.func166 (by kernel_rfl) (by kernel_rfl) h

def V_slices_ContainsFunc_sl_i_End_i_End (Q : Bool → World → Prop) (s : Sl) (f : Value) (w : World) : Prop :=
  Calls Try.prog F.slices_IndexFunc_sl_i_End_i_End #[s.v, f] w (Ret [.at (.int .i64)] fun (x7 : Int) w1 =>
  Q (decide ((x7 : Int) ≥ 0)) w1)

theorem C_slices_ContainsFunc_sl_i_End_i_End {Q : Bool → World → Prop} {s : Sl} {f : Value} {w : World} (h : V_slices_ContainsFunc_sl_i_End_i_End Q s f w) : Calls Try.prog F.slices_ContainsFunc_sl_i_End_i_End #[s.v, f] w (Ret [.at .bool] Q) :=
  mkC (hint := hint) (ann := annOf []) (args := [s.v, f]) (rs := [.at .bool]) Try.func168 (by kernel_rfl) (by kernel_rfl) h

def V_i_polynomialStep_1 (Q : Bool → World → Prop) (e_0 : Int) (e_1 : Int) (cap0 : Addr) (cap1 : Addr) (cap2 : Addr) (w : World) : Prop :=
  NEW T.t_i_End #[.int .i64 e_0, .int .i64 e_1] w fun (p_e : Addr) w1 =>
  LD [.sl] cap0 w1 fun (x6 : Sl) =>
  LD [.int .i64] (p_e.add 0) w1 fun (x8 : Int) =>
  IX x6 x8 1 fun (px9 : Addr) =>
  LD [.sl] px9 w1 fun (x10 : Sl) =>
  LD [.int .i64] cap1 w1 fun (x11 : Int) =>
  IX x10 x11 1 fun (px12 : Addr) =>
  LD [.int .i64] px12 w1 fun (x13 : Int) =>
  LD [.sl] cap0 w1 fun (x14 : Sl) =>
  LD [.int .i64] cap2 w1 fun (x15 : Int) =>
  IX x14 x15 1 fun (px16 : Addr) =>
  LD [.sl] px16 w1 fun (x17 : Sl) =>
  LD [.int .i64] cap1 w1 fun (x18 : Int) =>
  IX x17 x18 1 fun (px19 : Addr) =>
  LD [.int .i64] px19 w1 fun (x20 : Int) =>
  ∀ w2, Ext w1 w2 →
  Q ((x13 : Int) == x20) w2

theorem C_i_polynomialStep_1 {Q : Bool → World → Prop} {e_0 : Int} {e_1 : Int} {cap0 : Addr} {cap1 : Addr} {cap2 : Addr} {w : World} (h : V_i_polynomialStep_1 Q e_0 e_1 cap0 cap1 cap2 w) : Calls Try.prog F.i_polynomialStep_1 #[.agg #[.int .i64 e_0, .int .i64 e_1], .pointer (some cap0), .pointer (some cap1), .pointer (some cap2)] w (Ret [.at .bool] Q) :=
  mkC (hint := hint) (ann := annOf []) (args := [.agg #[.int .i64 e_0, .int .i64 e_1], .pointer (some cap0), .pointer (some cap1), .pointer (some cap2)]) (rs := [.at .bool]) Try.func169 (by kernel_rfl) (by kernel_rfl) h

def V_s_FlexibleLabels (Q : Sl → Bool → World → Prop) (p_0 : Int) (p_1 : Sl) (w : World) : Prop :=
  NEW T.t_i_WalkProblem #[.int .i64 p_0, p_1.v] w fun (p_p : Addr) w1 =>
  LD [.int .i64, .sl] p_p w1 fun (x4_0 : Int) (x4_1 : Sl) =>
  Calls Try.prog F.s_waGood #[.agg #[.int .i64 x4_0, x4_1.v]] w1 (Ret [.at .bool] fun (x5 : Bool) w2 =>
  cond (!x5) (
  Q (⟨none, 0, 0⟩) false w2) (
  LD [.int .i64, .sl] p_p w2 fun (x7_0 : Int) (x7_1 : Sl) =>
  Calls Try.prog F.s_waFlexible #[.agg #[.int .i64 x7_0, x7_1.v]] w2 (Ret [.at .sl] fun (x8 : Sl) w3 =>
  Q x8 true w3)))

theorem C_s_FlexibleLabels {Q : Sl → Bool → World → Prop} {p_0 : Int} {p_1 : Sl} {w : World} (h : V_s_FlexibleLabels Q p_0 p_1 w) : Calls Try.prog F.s_FlexibleLabels #[.agg #[.int .i64 p_0, p_1.v]] w (Ret [.at .sl, .at .bool] Q) :=
  mkC (hint := hint) (ann := annOf []) (args := [.agg #[.int .i64 p_0, p_1.v]]) (rs := [.at .sl, .at .bool]) Try.func170 (by kernel_rfl) (by kernel_rfl) h

def V_s_FlexibilityOf (Q : Int → Bool → World → Prop) (p_0 : Int) (p_1 : Sl) (a : Int) (w : World) : Prop :=
  NEW T.t_i_WalkProblem #[.int .i64 p_0, p_1.v] w fun (p_p : Addr) w1 =>
  LD [.int .i64, .sl] p_p w1 fun (x6_0 : Int) (x6_1 : Sl) =>
  Calls Try.prog F.s_waGood #[.agg #[.int .i64 x6_0, x6_1.v]] w1 (Ret [.at .bool] fun (x7 : Bool) w2 =>
  cond (!x7) (
  Q 0 false w2) (
  LD [.int .i64, .sl] p_p w2 fun (x10_0 : Int) (x10_1 : Sl) =>
  Calls Try.prog F.s_waFlexible #[.agg #[.int .i64 x10_0, x10_1.v]] w2 (Ret [.at .sl] fun (x11 : Sl) w3 =>
  Calls Try.prog F.s_l1Has #[x11.v, .int .i64 a] w3 (Ret [.at .bool] fun (x13 : Bool) w4 =>
  cond (!x13) (
  Q 0 false w4) (
  LD [.int .i64, .sl] p_p w4 fun (x16_0_2 : Int) (x16_1_2 : Sl) =>
  Calls Try.prog F.s_waFlexibility #[.agg #[.int .i64 x16_0_2, x16_1_2.v], .int .i64 a] w4 (Ret [.at (.int .i64)] fun (x18_2 : Int) w6 =>
  Q x18_2 true w6))))))

theorem C_s_FlexibilityOf {Q : Int → Bool → World → Prop} {p_0 : Int} {p_1 : Sl} {a : Int} {w : World} (h : V_s_FlexibilityOf Q p_0 p_1 a w) : Calls Try.prog F.s_FlexibilityOf #[.agg #[.int .i64 p_0, p_1.v], .int .i64 a] w (Ret [.at (.int .i64), .at .bool] Q) :=
  mkC (hint := hint) (ann := annOf []) (args := [.agg #[.int .i64 p_0, p_1.v], .int .i64 a]) (rs := [.at (.int .i64), .at .bool]) Try.func171 (by kernel_rfl) (by kernel_rfl) h

def V_i_WalkProblem_hasLabels (Q : Bool → World → Prop) (p_0 : Int) (p_1 : Sl) (labels : Sl) (w : World) : Prop :=
  NEW T.t_i_WalkProblem #[.int .i64 p_0, p_1.v] w fun (p_p : Addr) w1 =>
  LD [.int .i64] (p_p.add 0) w1 fun (x7 : Int) =>
  Calls Try.prog F.i_allWithin #[labels.v, .int .i64 0, .int .i64 (IntKind.i64.wrap (x7 - 1))] w1 (Ret [.at .bool] fun (x9 : Bool) w2 =>
  Q x9 w2)

theorem C_i_WalkProblem_hasLabels {Q : Bool → World → Prop} {p_0 : Int} {p_1 : Sl} {labels : Sl} {w : World} (h : V_i_WalkProblem_hasLabels Q p_0 p_1 labels w) : Calls Try.prog F.i_WalkProblem_hasLabels #[.agg #[.int .i64 p_0, p_1.v], labels.v] w (Ret [.at .bool] Q) :=
  mkC (hint := hint) (ann := annOf []) (args := [.agg #[.int .i64 p_0, p_1.v], labels.v]) (rs := [.at .bool]) Try.func172 (by kernel_rfl) (by kernel_rfl) h

def V_slices_Compare_sl_int_int (Q : Int → World → Prop) (s1 : Sl) (s2 : Sl) (w : World) : Prop :=
  ∃ (I2 : Int → World → Prop) (m2 : Int → World → Nat), I2 0 w ∧ ∀ (x11 : Int) w1, I2 x11 w1 → ∀ _ _ _ _ _ _ _ _ _ _ _ _ _ _ _ _ _ _ _ _ _ _ _ _ : Value,
  cond (decide ((x11 : Int) < s1.len)) (
  IX s1 x11 1 fun (px14 : Addr) =>
  LD [.int .i64] px14 w1 fun (x15 : Int) =>
  cond (decide ((x11 : Int) ≥ s2.len)) (
  Q 1 w1) (
  IX s2 x11 1 fun (px22 : Addr) =>
  LD [.int .i64] px22 w1 fun (x23 : Int) =>
  Calls Try.prog F.cmp_Compare_int #[.int .i64 x15, .int .i64 x23] w1 (Ret [.at (.int .i64)] fun (x26 : Int) w2 =>
  cond ((x26 : Int) != 0) (
  Q x26 w2) (
  I2 (IntKind.i64.wrap (x11 + 1)) w2 ∧ m2 (IntKind.i64.wrap (x11 + 1)) w2 < m2 x11 w1)))) (
  cond (decide ((s1.len : Int) < s2.len)) (
  Q (-1) w1) (
  Q 0 w1))

theorem C_slices_Compare_sl_int_int {Q : Int → World → Prop} {s1 : Sl} {s2 : Sl} {w : World} (h : V_slices_Compare_sl_int_int Q s1 s2 w) : Calls Try.prog F.slices_Compare_sl_int_int #[s1.v, s2.v] w (Ret [.at (.int .i64)] Q) :=
  mkC (hint := hint) (ann := annOf [(2, ⟨[(11, .int .i64)], [4, 5, 6, 7, 8, 12, 13, 14, 15, 16, 17, 18, 19, 20, 21, 22, 23, 24, 25, 26, 27, 28, 29, 30]⟩)]) (args := [s1.v, s2.v]) (rs := [.at (.int .i64)]) Try.func173 (by kernel_rfl) (by kernel_rfl) h

def V_i_WalkProblem_walkComponents (Q : Sl → Sl → World → Prop) (x0_0 : Int) (x0_1 : Sl) (w : World) : Prop :=
  NEW T.t_i_WalkProblem #[.int .i64 x0_0, x0_1.v] w fun (px1 : Addr) w1 =>
  ∀ w2, Ext w1 w2 → w2.heap = w1.heap →
  LD [.int .i64, .sl] px1 w2 fun (x16_0 : Int) (x16_1 : Sl) =>
  LD [.int .i64, .sl] px1 w2 fun (x18_0 : Int) (x18_1 : Sl) =>
  Calls Try.prog F.i_WalkProblem_closure #[.agg #[.int .i64 x16_0, x16_1.v]] w2 (Ret [.at .sl] fun (x17 : Sl) w3 =>
  Ext w2 w3 ∧ (
  Calls Try.prog F.i_WalkProblem_after #[.agg #[.int .i64 x18_0, x18_1.v]] w3 (Ret [.at .sl] fun (x19 : Sl) w4 =>
  Ext w2 w4 ∧ (
  Ext w2 w4 ∧ (
  ∃ (I6 : Sl → Sl → Int → Int → World → Prop) (m6 : Sl → Sl → Int → Int → World → Nat), I6 (⟨none, 0, 0⟩) (⟨none, 0, 0⟩) 0 0 w4 ∧ ∀ (x6 : Sl) (x7 : Sl) (x8 : Int) (x22 : Int) w5, I6 x6 x7 x8 x22 w5 → ∀ _ _ _ _ _ _ _ _ _ _ _ _ _ _ _ _ _ _ _ _ _ _ _ _ _ _ _ _ _ _ _ _ _ _ _ _ _ _ _ _ _ _ _ _ _ _ _ _ _ _ _ _ _ _ _ _ _ _ _ _ _ _ _ _ _ _ _ _ _ : Value,
  cond (decide ((x22 : Int) < x17.len)) (
  (0 : Int) ≤ x22 ∧ (
  cond (((bitAnd .i64 (shrI .i64 x8 x22) 1) : Int) == 1) (
  I6 x6 x7 x8 (IntKind.i64.wrap (x22 + 1)) w5 ∧ m6 x6 x7 x8 (IntKind.i64.wrap (x22 + 1)) w5 < m6 x6 x7 x8 x22 w5) (
  IX x17 x22 1 fun (px32 : Addr) =>
  LD [.int .i64] px32 w5 fun (x33 : Int) =>
  Calls Try.prog F.i_labelsIn #[.int .i64 x33] w5 (Ret [.at .sl] fun (x34 : Sl) w6 =>
  ∃ (I12 : Sl → Int → World → Prop) (m12 : Sl → Int → World → Nat), I12 (⟨none, 0, 0⟩) 0 w6 ∧ ∀ (x10 : Sl) (x36 : Int) w7, I12 x10 x36 w7 → ∀ _ _ _ _ _ _ _ _ _ _ _ _ _ _ _ _ _ : Value,
  cond (decide ((x36 : Int) < x34.len)) (
  IX x34 x36 1 fun (px38 : Addr) =>
  LD [.int .i64] px38 w7 fun (x39 : Int) =>
  IX x17 x39 1 fun (px42 : Addr) =>
  LD [.int .i64] px42 w7 fun (x43 : Int) =>
  (0 : Int) ≤ x22 ∧ (
  cond (((bitAnd .i64 (shrI .i64 x43 x22) 1) : Int) == 1) (
  RUN Try.prog (.at .sl) (Instr.buildSlice T.t_sl_int 1 #[(0, .int .i64 x39)]) w7 fun (x50 : Sl) w8 =>
  RUN Try.prog (.at .sl) (bsem .append #[T.t_sl_int, T.t_sl_int] T.t_sl_int #[x10.v, x50.v]) w8 fun (x51 : Sl) w9 =>
  I12 x51 (IntKind.i64.wrap (x36 + 1)) w9 ∧ m12 x51 (IntKind.i64.wrap (x36 + 1)) w9 < m12 x10 x36 w7) (
  I12 x10 (IntKind.i64.wrap (x36 + 1)) w7 ∧ m12 x10 (IntKind.i64.wrap (x36 + 1)) w7 < m12 x10 x36 w7))) (
  Calls Try.prog F.i_setOf #[x10.v] w7 (Ret [.at (.int .i64)] fun (x55 : Int) w10 =>
  ∃ (I19 : Bool → Int → World → Prop) (m19 : Bool → Int → World → Nat), I19 false 0 w10 ∧ ∀ (x11 : Bool) (x59 : Int) w11, I19 x11 x59 w11 → ∀ _ _ _ _ _ _ _ _ _ _ _ _ _ _ _ _ : Value,
  cond (decide ((x59 : Int) < x10.len)) (
  IX x10 x59 1 fun (px61 : Addr) =>
  LD [.int .i64] px61 w11 fun (x62 : Int) =>
  cond x11 (
  ∀ w12, Ext w11 w12 →
  I19 true (IntKind.i64.wrap (x59 + 1)) w12 ∧ m19 true (IntKind.i64.wrap (x59 + 1)) w12 < m19 x11 x59 w11) (
  IX x19 x62 1 fun (px67 : Addr) =>
  LD [.int .i64] px67 w11 fun (x68 : Int) =>
  QCALL Try.prog F.i_setOf #[x10.v] w11 [.at (.int .i64)] fun (x70 : Int) =>
  ∀ w13, Ext w11 w13 →
  I19 (((bitAnd .i64 x68 x70) : Int) != 0) (IntKind.i64.wrap (x59 + 1)) w13 ∧ m19 (((bitAnd .i64 x68 x70) : Int) != 0) (IntKind.i64.wrap (x59 + 1)) w13 < m19 x11 x59 w11)) (
  cond x11 (
  ∀ w14, Ext w11 w14 → w14.heap = w11.heap → ∃ (D14 : Nat → Prop),
  ¬ D14 px1.block ∧ (
  LD [.int .i64, .sl] px1 w14 fun (x81_0 : Int) (x81_1 : Sl) =>
  RUN Try.prog (.at .sl) (Instr.buildSlice T.t_sl_sl_int 1 #[(0, x10.v)]) w14 fun (x78 : Sl) w15 =>
  Chg w14 w15 D14 ∧ (
  RUN Try.prog (.at .sl) (bsem .append #[T.t_sl_sl_int, T.t_sl_sl_int] T.t_sl_sl_int #[x6.v, x78.v]) w15 fun (x79 : Sl) w16 =>
  Chg w14 w16 D14 ∧ (
  Calls Try.prog F.i_WalkProblem_periodOf #[.agg #[.int .i64 x81_0, x81_1.v], x10.v] w16 (Ret [.at (.int .i64)] fun (x83 : Int) w17 =>
  Chg w14 w17 D14 ∧ (
  RUN Try.prog (.at .sl) (Instr.buildSlice T.t_sl_int 1 #[(0, .int .i64 x83)]) w17 fun (x84 : Sl) w18 =>
  Chg w14 w18 D14 ∧ (
  RUN Try.prog (.at .sl) (bsem .append #[T.t_sl_int, T.t_sl_int] T.t_sl_int #[x7.v, x84.v]) w18 fun (x85 : Sl) w19 =>
  Chg w14 w19 D14 ∧ (
  Chg w14 w19 D14 ∧ (
  I6 x79 x85 (bitOr .i64 x8 x55) (IntKind.i64.wrap (x22 + 1)) w19 ∧ m6 x79 x85 (bitOr .i64 x8 x55) (IntKind.i64.wrap (x22 + 1)) w19 < m6 x6 x7 x8 x22 w5))))))))) (
  I6 x6 x7 (bitOr .i64 x8 x55) (IntKind.i64.wrap (x22 + 1)) w11 ∧ m6 x6 x7 (bitOr .i64 x8 x55) (IntKind.i64.wrap (x22 + 1)) w11 < m6 x6 x7 x8 x22 w5)))))))) (
  Q x6 x7 w5))))))

theorem C_i_WalkProblem_walkComponents {Q : Sl → Sl → World → Prop} {x0_0 : Int} {x0_1 : Sl} {w : World} (h : V_i_WalkProblem_walkComponents Q x0_0 x0_1 w) : Calls Try.prog F.i_WalkProblem_walkComponents #[.agg #[.int .i64 x0_0, x0_1.v]] w (Ret [.at .sl, .at .sl] Q) :=
  mkC (hint := hint) (ann := annOf [(6, ⟨[(6, .sl), (7, .sl), (8, .int .i64), (22, .int .i64)], [9, 10, 11, 13, 15, 23, 24, 25, 26, 27, 28, 29, 30, 31, 32, 33, 34, 35, 36, 37, 38, 39, 40, 41, 42, 43, 44, 45, 46, 47, 48, 49, 50, 51, 52, 53, 54, 55, 56, 57, 58, 59, 60, 61, 62, 63, 64, 65, 66, 67, 68, 69, 70, 71, 72, 73, 74, 75, 76, 77, 78, 79, 80, 81, 82, 83, 84, 85, 86]⟩), (12, ⟨[(10, .sl), (36, .int .i64)], [13, 37, 38, 39, 40, 41, 42, 43, 44, 45, 46, 47, 48, 49, 50, 51, 52]⟩), (19, ⟨[(11, .bool), (59, .int .i64)], [15, 60, 61, 62, 63, 64, 65, 66, 67, 68, 69, 70, 71, 72, 73, 74]⟩)]) (args := [.agg #[.int .i64 x0_0, x0_1.v]]) (rs := [.at .sl, .at .sl]) Try.func174 (by kernel_rfl) (by kernel_rfl) h

def V_i_WalkProblem_reached (Q : Sl → World → Prop) (p_0 : Int) (p_1 : Sl) (a : Int) (most : Int) (w : World) : Prop :=
  NEW T.t_i_WalkProblem #[.int .i64 p_0, p_1.v] w fun (p_p : Addr) w1 =>
  LD [.int .i64, .sl] p_p w1 fun (x13_0 : Int) (x13_1 : Sl) =>
  Calls Try.prog F.i_WalkProblem_after #[.agg #[.int .i64 x13_0, x13_1.v]] w1 (Ret [.at .sl] fun (x14 : Sl) w2 =>
  (0 : Int) ≤ a ∧ (
  RUN Try.prog (.at .sl) (Instr.buildSlice T.t_sl_int 1 #[(0, .int .i64 (shlI .i64 1 a))]) w2 fun (x17 : Sl) w3 =>
  ∃ (I4 : Sl → Int → World → Prop) (m4 : Sl → Int → World → Nat), I4 x17 0 w3 ∧ ∀ (out : Sl) (x19 : Int) w4, I4 out x19 w4 → ∀ _ _ _ _ _ _ _ _ _ _ _ _ _ _ _ _ _ _ _ _ _ _ _ _ _ _ _ : Value,
  cond (decide ((x19 : Int) < most)) (
  IX out x19 1 fun (px24 : Addr) =>
  LD [.int .i64] px24 w4 fun (x25 : Int) =>
  Calls Try.prog F.i_labelsIn #[.int .i64 x25] w4 (Ret [.at .sl] fun (x26 : Sl) w5 =>
  ∃ (I8 : Int → Int → World → Prop) (m8 : Int → Int → World → Nat), I8 0 0 w5 ∧ ∀ (next1 : Int) (x28 : Int) w6, I8 next1 x28 w6 → ∀ _ _ _ _ _ _ _ _ _ _ _ : Value,
  cond (decide ((x28 : Int) < x26.len)) (
  IX x26 x28 1 fun (px30 : Addr) =>
  LD [.int .i64] px30 w6 fun (x31 : Int) =>
  IX x14 x31 1 fun (px35 : Addr) =>
  LD [.int .i64] px35 w6 fun (x36 : Int) =>
  I8 (bitOr .i64 next1 x36) (IntKind.i64.wrap (x28 + 1)) w6 ∧ m8 (bitOr .i64 next1 x36) (IntKind.i64.wrap (x28 + 1)) w6 < m8 next1 x28 w6) (
  RUN Try.prog (.at .sl) (Instr.buildSlice T.t_sl_int 1 #[(0, .int .i64 next1)]) w6 fun (x41 : Sl) w7 =>
  RUN Try.prog (.at .sl) (bsem .append #[T.t_sl_int, T.t_sl_int] T.t_sl_int #[out.v, x41.v]) w7 fun (x42 : Sl) w8 =>
  I4 x42 (IntKind.i64.wrap (x19 + 1)) w8 ∧ m4 x42 (IntKind.i64.wrap (x19 + 1)) w8 < m4 out x19 w4))) (
  Q out w4)))

theorem C_i_WalkProblem_reached {Q : Sl → World → Prop} {p_0 : Int} {p_1 : Sl} {a : Int} {most : Int} {w : World} (h : V_i_WalkProblem_reached Q p_0 p_1 a most w) : Calls Try.prog F.i_WalkProblem_reached #[.agg #[.int .i64 p_0, p_1.v], .int .i64 a, .int .i64 most] w (Ret [.at .sl] Q) :=
  mkC (hint := hint) (ann := annOf [(4, ⟨[(8, .sl), (19, .int .i64)], [9, 10, 12, 20, 21, 22, 23, 24, 25, 26, 27, 28, 29, 30, 31, 32, 33, 34, 35, 36, 37, 38, 39, 40, 41, 42, 43]⟩), (8, ⟨[(10, .int .i64), (28, .int .i64)], [12, 29, 30, 31, 32, 33, 34, 35, 36, 37, 38]⟩)]) (args := [.agg #[.int .i64 p_0, p_1.v], .int .i64 a, .int .i64 most]) (rs := [.at .sl]) Try.func176 (by kernel_rfl) (by kernel_rfl) h

def V_s_l1Most (Q : Int → World → Prop) (a : Int) (b : Int) (w : World) : Prop :=
  cond (decide ((a : Int) > b)) (
  Q a w) (
  Q b w)

theorem C_s_l1Most {Q : Int → World → Prop} {a : Int} {b : Int} {w : World} (h : V_s_l1Most Q a b w) : Calls Try.prog F.s_l1Most #[.int .i64 a, .int .i64 b] w (Ret [.at (.int .i64)] Q) :=
  mkC (hint := hint) (ann := annOf []) (args := [.int .i64 a, .int .i64 b]) (rs := [.at (.int .i64)]) Try.func177 (by kernel_rfl) (by kernel_rfl) h

def V_slices_ContainsFunc_sl_int_int (Q : Bool → World → Prop) (s : Sl) (f : Value) (w : World) : Prop :=
  Calls Try.prog F.slices_IndexFunc_sl_int_int #[s.v, f] w (Ret [.at (.int .i64)] fun (x7 : Int) w1 =>
  Q (decide ((x7 : Int) ≥ 0)) w1)

theorem C_slices_ContainsFunc_sl_int_int {Q : Bool → World → Prop} {s : Sl} {f : Value} {w : World} (h : V_slices_ContainsFunc_sl_int_int Q s f w) : Calls Try.prog F.slices_ContainsFunc_sl_int_int #[s.v, f] w (Ret [.at .bool] Q) :=
  mkC (hint := hint) (ann := annOf []) (args := [s.v, f]) (rs := [.at .bool]) Try.func178 (by kernel_rfl) (by kernel_rfl) h

def V_i_allWithin_1 (Q : Bool → World → Prop) (n : Int) (cap0 : Addr) (cap1 : Addr) (w : World) : Prop :=
  LD [.int .i64] cap0 w fun (x6 : Int) =>
  LD [.int .i64] cap1 w fun (x7 : Int) =>
  Calls Try.prog F.i_within #[.int .i64 n, .int .i64 x6, .int .i64 x7] w (Ret [.at .bool] fun (x8 : Bool) w1 =>
  Q (!x8) w1)

theorem C_i_allWithin_1 {Q : Bool → World → Prop} {n : Int} {cap0 : Addr} {cap1 : Addr} {w : World} (h : V_i_allWithin_1 Q n cap0 cap1 w) : Calls Try.prog F.i_allWithin_1 #[.int .i64 n, .pointer (some cap0), .pointer (some cap1)] w (Ret [.at .bool] Q) :=
  mkC (hint := hint) (ann := annOf []) (args := [.int .i64 n, .pointer (some cap0), .pointer (some cap1)]) (rs := [.at .bool]) Try.func179 (by kernel_rfl) (by kernel_rfl) h

def V_i_areJoined (Q : Bool → World → Prop) (n_0 : Sl) (n_1 : Sl) (n_2 : Sl) (u : Int) (v : Int) (w : World) : Prop :=
  NEW T.t_i_Network #[n_0.v, n_1.v, n_2.v] w fun (p_n : Addr) w1 =>
  NEW T.t_int #[.int .i64 v] w1 fun (p_v : Addr) w2 =>
  LD [.sl] (p_n.add 0) w2 fun (x8 : Sl) =>
  IX x8 u 1 fun (px10 : Addr) =>
  LD [.sl] px10 w2 fun (x11 : Sl) =>
  Calls Try.prog F.slices_ContainsFunc_sl_i_End_i_End #[x11.v, .func (.func F.i_areJoined_1) #[] #[.pointer (some p_v)]] w2 (Ret [.at .bool] fun (x13 : Bool) w3 =>
  Q x13 w3)

theorem C_i_areJoined {Q : Bool → World → Prop} {n_0 : Sl} {n_1 : Sl} {n_2 : Sl} {u : Int} {v : Int} {w : World} (h : V_i_areJoined Q n_0 n_1 n_2 u v w) : Calls Try.prog F.i_areJoined #[.agg #[n_0.v, n_1.v, n_2.v], .int .i64 u, .int .i64 v] w (Ret [.at .bool] Q) :=
  mkC (hint := hint) (ann := annOf []) (args := [.agg #[n_0.v, n_1.v, n_2.v], .int .i64 u, .int .i64 v]) (rs := [.at .bool]) Try.func181 (by kernel_rfl) (by kernel_rfl) h

def V_i_hasNear (Q : Bool → World → Prop) (n_0 : Sl) (n_1 : Sl) (n_2 : Sl) (v : Int) (set1 : Sl) (w : World) : Prop :=
  NEW T.t_i_Network #[n_0.v, n_1.v, n_2.v] w fun (p_n : Addr) w1 =>
  NEW T.t_sl_int #[set1.v] w1 fun (p_set : Addr) w2 =>
  LD [.sl] (p_n.add 0) w2 fun (x8 : Sl) =>
  IX x8 v 1 fun (px10 : Addr) =>
  LD [.sl] px10 w2 fun (x11 : Sl) =>
  Calls Try.prog F.slices_ContainsFunc_sl_i_End_i_End #[x11.v, .func (.func F.i_hasNear_1) #[] #[.pointer (some p_set)]] w2 (Ret [.at .bool] fun (x13 : Bool) w3 =>
  Q x13 w3)

theorem C_i_hasNear {Q : Bool → World → Prop} {n_0 : Sl} {n_1 : Sl} {n_2 : Sl} {v : Int} {set1 : Sl} {w : World} (h : V_i_hasNear Q n_0 n_1 n_2 v set1 w) : Calls Try.prog F.i_hasNear #[.agg #[n_0.v, n_1.v, n_2.v], .int .i64 v, set1.v] w (Ret [.at .bool] Q) :=
  mkC (hint := hint) (ann := annOf []) (args := [.agg #[n_0.v, n_1.v, n_2.v], .int .i64 v, set1.v]) (rs := [.at .bool]) Try.func182 (by kernel_rfl) (by kernel_rfl) h

def V_s_imEdge (Q : Int → Int → Bool → World → Prop) (n_0 : Sl) (n_1 : Sl) (n_2 : Sl) (l : Sl) (w : World) : Prop :=
  NEW T.t_i_Network #[n_0.v, n_1.v, n_2.v] w fun (p_n : Addr) w1 =>
  LD [.sl] (p_n.add 0) w1 fun (x11 : Sl) =>
  ∃ (I2 : Int → World → Prop) (m2 : Int → World → Nat), I2 0 w1 ∧ ∀ (x13 : Int) w2, I2 x13 w2 → ∀ _ _ _ _ _ _ _ _ _ _ _ _ _ _ _ _ _ _ _ _ _ _ _ _ _ _ _ _ _ _ _ _ _ _ _ _ : Value,
  cond (decide ((x13 : Int) < x11.len)) (
  LD [.sl, .sl, .sl] p_n w2 fun (x16_0 : Sl) (x16_1 : Sl) (x16_2 : Sl) =>
  Calls Try.prog F.s_neNear #[.agg #[x16_0.v, x16_1.v, x16_2.v], .int .i64 x13] w2 (Ret [.at .sl] fun (x18 : Sl) w3 =>
  ∃ (I6 : Int → World → Prop) (m6 : Int → World → Nat), I6 x13 w3 ∧ ∀ (v : Int) w4, I6 v w4 → ∀ _ _ _ _ _ _ _ _ _ _ _ _ _ _ _ _ _ _ _ _ _ _ _ _ _ _ : Value,
  LD [.sl] (p_n.add 0) w4 fun (x22 : Sl) =>
  cond (decide ((v : Int) < x22.len)) (
  QCALL Try.prog F.s_l1Has #[x18.v, .int .i64 v] w4 [.at .bool] fun (x29 : Bool) =>
  cond x29 (
  IX l x13 1 fun (px33 : Addr) =>
  LD [.int .i64] px33 w4 fun (x34 : Int) =>
  IX l v 1 fun (px37 : Addr) =>
  LD [.int .i64] px37 w4 fun (x38 : Int) =>
  ∀ w5, Ext w4 w5 →
  cond ((x34 : Int) == x38) (
  Q x13 v true w5) (
  I6 (IntKind.i64.wrap (v + 1)) w5 ∧ m6 (IntKind.i64.wrap (v + 1)) w5 < m6 v w4)) (
  ∀ w6, Ext w4 w6 →
  I6 (IntKind.i64.wrap (v + 1)) w6 ∧ m6 (IntKind.i64.wrap (v + 1)) w6 < m6 v w4)) (
  I2 (IntKind.i64.wrap (x13 + 1)) w4 ∧ m2 (IntKind.i64.wrap (x13 + 1)) w4 < m2 x13 w2))) (
  Q 0 0 false w2)

theorem C_s_imEdge {Q : Int → Int → Bool → World → Prop} {n_0 : Sl} {n_1 : Sl} {n_2 : Sl} {l : Sl} {w : World} (h : V_s_imEdge Q n_0 n_1 n_2 l w) : Calls Try.prog F.s_imEdge #[.agg #[n_0.v, n_1.v, n_2.v], l.v] w (Ret [.at (.int .i64), .at (.int .i64), .at .bool] Q) :=
  mkC (hint := hint) (ann := annOf [(2, ⟨[(13, .int .i64)], [4, 5, 6, 7, 8, 9, 14, 15, 16, 17, 18, 19, 20, 21, 22, 23, 24, 25, 26, 27, 28, 29, 30, 31, 32, 33, 34, 35, 36, 37, 38, 39, 40, 41, 42, 43]⟩), (6, ⟨[(9, .int .i64)], [4, 5, 6, 20, 21, 22, 23, 24, 25, 26, 27, 28, 29, 30, 31, 32, 33, 34, 35, 36, 37, 38, 39, 40, 41, 42]⟩)]) (args := [.agg #[n_0.v, n_1.v, n_2.v], l.v]) (rs := [.at (.int .i64), .at (.int .i64), .at .bool]) Try.func183 (by kernel_rfl) (by kernel_rfl) h

def V_i_isColouring_1 (Q : Bool → World → Prop) (e_0 : Int) (e_1 : Int) (e_2 : Int) (e_3 : Int) (cap0 : Addr) (w : World) : Prop :=
  NEW T.t_i_edge #[.int .i64 e_0, .int .i64 e_1, .int .i64 e_2, .int .i64 e_3] w fun (p_e : Addr) w1 =>
  LD [.sl] cap0 w1 fun (x4 : Sl) =>
  LD [.int .i64] (p_e.add 0) w1 fun (x6 : Int) =>
  IX x4 x6 1 fun (px7 : Addr) =>
  LD [.int .i64] px7 w1 fun (x8 : Int) =>
  LD [.sl] cap0 w1 fun (x9 : Sl) =>
  LD [.int .i64] (p_e.add 2) w1 fun (x11 : Int) =>
  IX x9 x11 1 fun (px12 : Addr) =>
  LD [.int .i64] px12 w1 fun (x13 : Int) =>
  ∀ w2, Ext w1 w2 →
  Q ((x8 : Int) == x13) w2

theorem C_i_isColouring_1 {Q : Bool → World → Prop} {e_0 : Int} {e_1 : Int} {e_2 : Int} {e_3 : Int} {cap0 : Addr} {w : World} (h : V_i_isColouring_1 Q e_0 e_1 e_2 e_3 cap0 w) : Calls Try.prog F.i_isColouring_1 #[.agg #[.int .i64 e_0, .int .i64 e_1, .int .i64 e_2, .int .i64 e_3], .pointer (some cap0)] w (Ret [.at .bool] Q) :=
  mkC (hint := hint) (ann := annOf []) (args := [.agg #[.int .i64 e_0, .int .i64 e_1, .int .i64 e_2, .int .i64 e_3], .pointer (some cap0)]) (rs := [.at .bool]) Try.func184 (by kernel_rfl) (by kernel_rfl) h

def V_slices_Index_sl_int_int (Q : Int → World → Prop) (s : Sl) (v : Int) (w : World) : Prop :=
  ∃ (I2 : Int → World → Prop) (m2 : Int → World → Nat), I2 0 w ∧ ∀ (x8 : Int) w1, I2 x8 w1 → ∀ _ _ _ _ _ _ _ _ _ _ _ _ : Value,
  cond (decide ((x8 : Int) < s.len)) (
  IX s x8 1 fun (px14 : Addr) =>
  LD [.int .i64] px14 w1 fun (x15 : Int) =>
  cond ((v : Int) == x15) (
  Q x8 w1) (
  I2 (IntKind.i64.wrap (x8 + 1)) w1 ∧ m2 (IntKind.i64.wrap (x8 + 1)) w1 < m2 x8 w1)) (
  Q (-1) w1)

theorem C_slices_Index_sl_int_int {Q : Int → World → Prop} {s : Sl} {v : Int} {w : World} (h : V_slices_Index_sl_int_int Q s v w) : Calls Try.prog F.slices_Index_sl_int_int #[s.v, .int .i64 v] w (Ret [.at (.int .i64)] Q) :=
  mkC (hint := hint) (ann := annOf [(2, ⟨[(8, .int .i64)], [4, 5, 9, 10, 11, 12, 13, 14, 15, 16, 17, 18]⟩)]) (args := [s.v, .int .i64 v]) (rs := [.at (.int .i64)]) Try.func185 (by kernel_rfl) (by kernel_rfl) h

def V_s_prLists_k4 (I2 : Int → World → Prop) (m2 : Int → World → Nat) (x12 : Int) (w1 : World) (size1 : Int) (Q : Bool → World → Prop) (x16 : Sl) (w4 : World) : Prop :=
  ∃ (I7 : Int → World → Prop) (m7 : Int → World → Nat), I7 1 w4 ∧ ∀ (k : Int) w5, I7 k w5 → ∀ _ _ _ _ _ _ _ _ _ _ _ _ _ _ _ _ : Value,
  cond (decide ((k : Int) < size1)) (
  IX x16 (IntKind.i64.wrap (k - 1)) 1 fun (px50 : Addr) =>
  LD [.int .i64] px50 w5 fun (x51 : Int) =>
  IX x16 k 1 fun (px54 : Addr) =>
  LD [.int .i64] px54 w5 fun (x55 : Int) =>
  ∀ w6, Ext w5 w6 →
  cond (decide ((x51 : Int) > x55)) (
  Q false w6) (
  I7 (IntKind.i64.wrap (k + 1)) w6 ∧ m7 (IntKind.i64.wrap (k + 1)) w6 < m7 k w5)) (
  I2 (IntKind.i64.wrap (x12 + 1)) w5 ∧ m2 (IntKind.i64.wrap (x12 + 1)) w5 < m2 x12 w1)

def V_s_prLists (Q : Bool → World → Prop) (l : Sl) (size1 : Int) (labels : Int) (w : World) : Prop :=
  ∃ (I2 : Int → World → Prop) (m2 : Int → World → Nat), I2 0 w ∧ ∀ (x12 : Int) w1, I2 x12 w1 → ∀ _ _ _ _ _ _ _ _ _ _ _ _ _ _ _ _ _ _ _ _ _ _ _ _ _ _ _ _ _ _ _ _ _ _ _ _ _ _ _ _ _ _ _ _ _ _ _ _ _ : Value,
  cond (decide ((x12 : Int) < l.len)) (
  IX l x12 1 fun (px15 : Addr) =>
  LD [.sl] px15 w1 fun (x16 : Sl) =>
  cond ((x16.len : Int) != size1) (
  Q false w1) (
  Calls Try.prog F.s_l1All #[x16.v, .int .i64 0, .int .i64 (IntKind.i64.wrap (labels - 1))] w1 (Ret [.at .bool] fun (x25 : Bool) w2 =>
  cond (!x25) (
  Q false w2) (
  cond (decide ((x12 : Int) > 0)) (
  IX l (IntKind.i64.wrap (x12 - 1)) 1 fun (px35 : Addr) =>
  LD [.sl] px35 w2 fun (x36 : Sl) =>
  Calls Try.prog F.s_prOrder #[x36.v, x16.v] w2 (Ret [.at (.int .i64)] fun (x38 : Int) w3 =>
  cond (decide ((x38 : Int) ≥ 0)) (
  Q false w3) (
  V_s_prLists_k4 I2 m2 x12 w1 size1 Q x16 w3))) (
  V_s_prLists_k4 I2 m2 x12 w1 size1 Q x16 w2))))) (
  Q true w1)

theorem C_s_prLists {Q : Bool → World → Prop} {l : Sl} {size1 : Int} {labels : Int} {w : World} (h : V_s_prLists Q l size1 labels w) : Calls Try.prog F.s_prLists #[l.v, .int .i64 size1, .int .i64 labels] w (Ret [.at .bool] Q) :=
  mkC (hint := hint) (ann := annOf [(2, ⟨[(12, .int .i64)], [6, 7, 8, 9, 13, 14, 15, 16, 17, 18, 19, 20, 21, 22, 23, 24, 25, 26, 27, 28, 29, 30, 31, 32, 33, 34, 35, 36, 37, 38, 39, 40, 41, 42, 43, 44, 45, 46, 47, 48, 49, 50, 51, 52, 53, 54, 55, 56, 57]⟩), (7, ⟨[(9, .int .i64)], [6, 42, 43, 44, 45, 46, 47, 48, 49, 50, 51, 52, 53, 54, 55, 56]⟩)]) (args := [l.v, .int .i64 size1, .int .i64 labels]) (rs := [.at .bool]) Try.func186 (by kernel_rfl) (by kernel_rfl) h

def V_s_prHas (Q : Bool → World → Prop) (l : Sl) (x : Sl) (w : World) : Prop :=
  ∃ (I2 : Int → World → Prop) (m2 : Int → World → Nat), I2 0 w ∧ ∀ (x9 : Int) w1, I2 x9 w1 → ∀ _ _ _ _ _ _ _ _ _ : Value,
  cond (decide ((x9 : Int) < l.len)) (
  IX l x9 1 fun (px11 : Addr) =>
  LD [.sl] px11 w1 fun (x12 : Sl) =>
  Calls Try.prog F.s_l1Same #[x.v, x12.v] w1 (Ret [.at .bool] fun (x15 : Bool) w2 =>
  cond x15 (
  Q true w2) (
  I2 (IntKind.i64.wrap (x9 + 1)) w2 ∧ m2 (IntKind.i64.wrap (x9 + 1)) w2 < m2 x9 w1))) (
  Q false w1)

theorem C_s_prHas {Q : Bool → World → Prop} {l : Sl} {x : Sl} {w : World} (h : V_s_prHas Q l x w) : Calls Try.prog F.s_prHas #[l.v, x.v] w (Ret [.at .bool] Q) :=
  mkC (hint := hint) (ann := annOf [(2, ⟨[(9, .int .i64)], [4, 6, 10, 11, 12, 13, 14, 15, 16]⟩)]) (args := [l.v, x.v]) (rs := [.at .bool]) Try.func187 (by kernel_rfl) (by kernel_rfl) h

end Go.Proofs.Ytoeaoinedidbiaa
