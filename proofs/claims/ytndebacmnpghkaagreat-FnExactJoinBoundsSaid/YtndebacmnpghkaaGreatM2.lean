/- Own texts, merged: V1. -/
import Derived.Test.YtndebacmnpghkaaGreatM1
set_option linter.unusedVariables false
section
/- What each function's code computes to. Printed by a program. -/
namespace Go.Proofs.YtndebacmnpghkaaGreat
open Go.GX Go.RowKit
set_option linter.unusedVariables false
set_option maxRecDepth 100000

def V_i_BuildBound (Q : Sl → Sl → Sl → Bool → World → Prop) (x0 : Sl) (w : World) : Prop :=
  NEW T.t_i_Bound #[.slice none 0 0, .slice none 0 0, .slice none 0 0] w fun (px2 : Addr) w1 =>
  Calls Tryz.prog F.i_problemsOk #[x0.v] w1 (Ret [.at .bool] fun (x15 : Bool) w2 =>
  cond (!x15) (
  ST px2 0 [.slice none 0 0, .slice none 0 0, .slice none 0 0] w2 fun w3 =>
  LD [.sl, .sl, .sl] px2 w3 fun (r0_0 : Sl) (r0_1 : Sl) (r0_2 : Sl) =>
  Q r0_0 r0_1 r0_2 false w3) (
  NEW T.t_i_Bound #[.slice none 0 0, .slice none 0 0, .slice none 0 0] w2 fun (px4 : Addr) w4 =>
  ∃ (I5 : Int → World → Prop) (m5 : Int → World → Nat), I5 0 w4 ∧ ∀ (x20 : Int) w5, I5 x20 w5 → ∀ _ _ _ _ _ _ _ _ _ _ _ _ _ _ _ _ _ _ _ _ _ _ _ _ _ _ _ _ _ _ _ _ _ _ _ _ _ _ _ _ _ _ _ _ _ _ _ _ _ _ _ : Value,
  cond (decide ((x20 : Int) < x0.len)) (
  IX x0 x20 4 fun (px23 : Addr) =>
  LD [.int .i64, .int .i64, .sl, .sl] px23 w5 fun (x24_0 : Int) (x24_1 : Int) (x24_2 : Sl) (x24_3 : Sl) =>
  NEW T.t_i_Problem #[.int .i64 0, .int .i64 0, .slice none 0 0, .slice none 0 0] w5 fun (px6 : Addr) w6 =>
  ST px6 0 [.int .i64 x24_0, .int .i64 x24_1, x24_2.v, x24_3.v] w6 fun w7 =>
  ∀ w8, Ext w7 w8 → w8.heap = w7.heap → ∃ (D8 : Nat → Prop),
  ¬ D8 (px4.add 0).block ∧ (
  LD [.sl] (px4.add 0) w8 fun (x26 : Sl) =>
  LD [.int .i64, .int .i64, .sl, .sl] px6 w8 fun (x27_0 : Int) (x27_1 : Int) (x27_2 : Sl) (x27_3 : Sl) =>
  Chg w8 w8 D8 ∧ (
  Calls Tryz.prog F.i_copyProblem #[.agg #[.int .i64 x27_0, .int .i64 x27_1, x27_2.v, x27_3.v]] w8 (Ret [.agg [.int .i64, .int .i64, .sl, .sl]] fun (x28_0 : Int) (x28_1 : Int) (x28_2 : Sl) (x28_3 : Sl) w9 =>
  Chg w8 w9 D8 ∧ (
  RUN Tryz.prog (.at .sl) (Instr.buildSlice T.t_sl_i_Problem 1 #[(0, .agg #[.int .i64 x28_0, .int .i64 x28_1, x28_2.v, x28_3.v])]) w9 fun (x29 : Sl) w10 =>
  Chg w8 w10 D8 ∧ (
  RUN Tryz.prog (.at .sl) (bsem .append #[T.t_sl_i_Problem, T.t_sl_i_Problem] T.t_sl_i_Problem #[x26.v, x29.v]) w10 fun (x30 : Sl) w11 =>
  Chg w8 w11 D8 ∧ (
  ST (px4.add 0) 0 [x30.v] w11 fun w12 =>
  cond ((x20 : Int) == 0) (
  I5 (IntKind.i64.wrap (x20 + 1)) w12 ∧ m5 (IntKind.i64.wrap (x20 + 1)) w12 < m5 x20 w5) (
  IX x0 (IntKind.i64.wrap (x20 - 1)) 4 fun (px38 : Addr) =>
  LD [.int .i64, .int .i64, .sl, .sl] px38 w12 fun (x39_0 : Int) (x39_1 : Int) (x39_2 : Sl) (x39_3 : Sl) =>
  Calls Tryz.prog F.i_eliminate #[.agg #[.int .i64 x39_0, .int .i64 x39_1, x39_2.v, x39_3.v]] w12 (Ret [.agg [.int .i64, .int .i64, .sl, .sl], .at .sl, .at .sl, .at .bool] fun (x40_0_0 : Int) (x40_0_1 : Int) (x40_0_2 : Sl) (x40_0_3 : Sl) (x40_1 : Sl) (x40_2 : Sl) (x40_3 : Bool) w13 =>
  NEW T.t_i_Problem #[.int .i64 0, .int .i64 0, .slice none 0 0, .slice none 0 0] w13 fun (px7 : Addr) w14 =>
  ST px7 0 [.int .i64 x40_0_0, .int .i64 x40_0_1, x40_0_2.v, x40_0_3.v] w14 fun w15 =>
  cond (!x40_3) (
  ST px2 0 [.slice none 0 0, .slice none 0 0, .slice none 0 0] w15 fun w16 =>
  LD [.sl, .sl, .sl] px2 w16 fun (r0_0_2 : Sl) (r0_1_2 : Sl) (r0_2_2 : Sl) =>
  Q r0_0_2 r0_1_2 r0_2_2 false w16) (
  LD [.int .i64, .int .i64, .sl, .sl] px7 w15 fun (x49_0 : Int) (x49_1 : Int) (x49_2 : Sl) (x49_3 : Sl) =>
  LD [.int .i64, .int .i64, .sl, .sl] px6 w15 fun (x50_0 : Int) (x50_1 : Int) (x50_2 : Sl) (x50_3 : Sl) =>
  Calls Tryz.prog F.i_LabelMapBetween #[.agg #[.int .i64 x49_0, .int .i64 x49_1, x49_2.v, x49_3.v], .agg #[.int .i64 x50_0, .int .i64 x50_1, x50_2.v, x50_3.v]] w15 (Ret [.at .sl, .at .bool] fun (x51_0 : Sl) (x51_1 : Bool) w17 =>
  cond (!x51_1) (
  ST px2 0 [.slice none 0 0, .slice none 0 0, .slice none 0 0] w17 fun w18 =>
  LD [.sl, .sl, .sl] px2 w18 fun (r0_0_3 : Sl) (r0_1_3 : Sl) (r0_2_3 : Sl) =>
  Q r0_0_3 r0_1_3 r0_2_3 false w18) (
  LD [.sl] (px4.add 1) w17 fun (x58 : Sl) =>
  RUN Tryz.prog (.at .sl) (Instr.buildSlice T.t_sl_sl_int 1 #[(0, x51_0.v)]) w17 fun (x60 : Sl) w19 =>
  RUN Tryz.prog (.at .sl) (bsem .append #[T.t_sl_sl_int, T.t_sl_sl_int] T.t_sl_sl_int #[x58.v, x60.v]) w19 fun (x61 : Sl) w20 =>
  ST (px4.add 1) 0 [x61.v] w20 fun w21 =>
  I5 (IntKind.i64.wrap (x20 + 1)) w21 ∧ m5 (IntKind.i64.wrap (x20 + 1)) w21 < m5 x20 w5)))))))))))) (
  IX x0 (IntKind.i64.wrap (x0.len - 1)) 4 fun (px69 : Addr) =>
  LD [.int .i64, .int .i64, .sl, .sl] px69 w5 fun (x70_0 : Int) (x70_1 : Int) (x70_2 : Sl) (x70_3 : Sl) =>
  Calls Tryz.prog F.i_RefusalOfZero #[.agg #[.int .i64 x70_0, .int .i64 x70_1, x70_2.v, x70_3.v]] w5 (Ret [.at .sl, .at .bool] fun (x71_0 : Sl) (x71_1 : Bool) w22 =>
  cond (!x71_1) (
  ST px2 0 [.slice none 0 0, .slice none 0 0, .slice none 0 0] w22 fun w23 =>
  LD [.sl, .sl, .sl] px2 w23 fun (r0_0_4 : Sl) (r0_1_4 : Sl) (r0_2_4 : Sl) =>
  Q r0_0_4 r0_1_4 r0_2_4 false w23) (
  ST (px4.add 2) 0 [x71_0.v] w22 fun w24 =>
  LD [.sl, .sl, .sl] px4 w24 fun (x79_0 : Sl) (x79_1 : Sl) (x79_2 : Sl) =>
  ST px2 0 [x79_0.v, x79_1.v, x79_2.v] w24 fun w25 =>
  LD [.sl, .sl, .sl] px2 w25 fun (r0_0_5 : Sl) (r0_1_5 : Sl) (r0_2_5 : Sl) =>
  Q r0_0_5 r0_1_5 r0_2_5 true w25)))))

theorem C_i_BuildBound {Q : Sl → Sl → Sl → Bool → World → Prop} {x0 : Sl} {w : World} (h : V_i_BuildBound Q x0 w) : Calls Tryz.prog F.i_BuildBound #[x0.v] w (Ret [.agg [.sl, .sl, .sl], .at .bool] Q) :=
  mkC (hint := hint) (ann := annOf [(5, ⟨[(20, .int .i64)], [3, 5, 6, 7, 8, 9, 10, 11, 21, 22, 23, 24, 25, 26, 27, 28, 29, 30, 31, 32, 33, 34, 35, 36, 37, 38, 39, 40, 41, 42, 43, 44, 45, 46, 47, 48, 49, 50, 51, 52, 53, 54, 55, 56, 57, 58, 59, 60, 61, 62, 63]⟩)]) (args := [x0.v]) (rs := [.agg [.sl, .sl, .sl], .at .bool]) Tryz.func68 (by kernel_rfl) (by kernel_rfl) h

def V_l_markProblemS (Q : Int → World → Prop) (a : Sl) (k : Int) (w : World) : Prop :=
  ∃ (I2 : Int → Int → World → Prop) (m2 : Int → Int → World → Nat), I2 k 0 w ∧ ∀ (k_2 : Int) (i : Int) w1, I2 k_2 i w1 → ∀ _ _ _ _ _ _ _ _ _ _ _ _ _ _ _ _ _ _ _ _ _ _ _ _ _ _ _ _ _ _ _ _ _ _ : Value,
  cond (decide ((i : Int) < a.len)) (
  IX a i 4 fun (px15 : Addr) =>
  ST (px15.add 0) 0 [.int .i64 k_2] w1 fun w2 =>
  IX a i 4 fun (px22 : Addr) =>
  ST (px22.add 1) 0 [.int .i64 (IntKind.i64.wrap (k_2 + 1))] w2 fun w3 =>
  IX a i 4 fun (px28 : Addr) =>
  LD [.sl] (px28.add 2) w3 fun (x30 : Sl) =>
  Calls Tryz.prog F.l_markIntSS #[x30.v, .int .i64 (IntKind.i64.wrap ((IntKind.i64.wrap (k_2 + 1)) + 1))] w3 (Ret [.at (.int .i64)] fun (x32 : Int) w4 =>
  IX a i 4 fun (px35 : Addr) =>
  LD [.sl] (px35.add 3) w4 fun (x37 : Sl) =>
  Calls Tryz.prog F.l_markIntSS #[x37.v, .int .i64 x32] w4 (Ret [.at (.int .i64)] fun (x39 : Int) w5 =>
  I2 x39 (IntKind.i64.wrap (i + 1)) w5 ∧ m2 x39 (IntKind.i64.wrap (i + 1)) w5 < m2 k_2 i w1))) (
  Q k_2 w1)

theorem C_l_markProblemS {Q : Int → World → Prop} {a : Sl} {k : Int} {w : World} (h : V_l_markProblemS Q a k w) : Calls Tryz.prog F.l_markProblemS #[a.v, .int .i64 k] w (Ret [.at (.int .i64)] Q) :=
  mkC (hint := hint) (ann := annOf [(2, ⟨[(1, .int .i64), (5, .int .i64)], [6, 7, 8, 9, 10, 11, 12, 13, 14, 15, 16, 17, 18, 19, 20, 21, 22, 23, 24, 25, 26, 27, 28, 29, 30, 31, 32, 33, 34, 35, 36, 37, 38, 39]⟩)]) (args := [a.v, .int .i64 k]) (rs := [.at (.int .i64)]) Tryz.func69 (by kernel_rfl) (by kernel_rfl) h

def V_l_heldProblemS (Q : Int → World → Prop) (a : Sl) (k : Int) (w : World) : Prop :=
  ∃ (I2 : Int → Int → World → Prop) (m2 : Int → Int → World → Nat), I2 k 0 w ∧ ∀ (k_2 : Int) (i : Int) w1, I2 k_2 i w1 → ∀ _ _ _ _ _ _ _ _ _ _ _ _ _ _ _ _ _ _ _ _ _ _ _ _ _ _ _ _ _ _ _ _ _ _ _ _ _ _ _ _ _ _ _ : Value,
  cond (decide ((i : Int) < a.len)) (
  IX a i 4 fun (px14 : Addr) =>
  LD [.int .i64] (px14.add 0) w1 fun (x16 : Int) =>
  cond ((x16 : Int) != k_2) (
  Q (-1) w1) (
  IX a i 4 fun (px23 : Addr) =>
  LD [.int .i64] (px23.add 1) w1 fun (x25 : Int) =>
  cond ((x25 : Int) != (IntKind.i64.wrap (k_2 + 1))) (
  Q (-1) w1) (
  IX a i 4 fun (px32 : Addr) =>
  LD [.sl] (px32.add 2) w1 fun (x34 : Sl) =>
  Calls Tryz.prog F.l_heldIntSS #[x34.v, .int .i64 (IntKind.i64.wrap ((IntKind.i64.wrap (k_2 + 1)) + 1))] w1 (Ret [.at (.int .i64)] fun (x36 : Int) w2 =>
  cond (decide ((x36 : Int) < 0)) (
  Q (-1) w2) (
  IX a i 4 fun (px41 : Addr) =>
  LD [.sl] (px41.add 3) w2 fun (x43 : Sl) =>
  Calls Tryz.prog F.l_heldIntSS #[x43.v, .int .i64 x36] w2 (Ret [.at (.int .i64)] fun (x45 : Int) w3 =>
  cond (decide ((x45 : Int) < 0)) (
  Q (-1) w3) (
  I2 x45 (IntKind.i64.wrap (i + 1)) w3 ∧ m2 x45 (IntKind.i64.wrap (i + 1)) w3 < m2 k_2 i w1))))))) (
  Q k_2 w1)

theorem C_l_heldProblemS {Q : Int → World → Prop} {a : Sl} {k : Int} {w : World} (h : V_l_heldProblemS Q a k w) : Calls Tryz.prog F.l_heldProblemS #[a.v, .int .i64 k] w (Ret [.at (.int .i64)] Q) :=
  mkC (hint := hint) (ann := annOf [(2, ⟨[(1, .int .i64), (5, .int .i64)], [4, 6, 7, 8, 9, 10, 11, 12, 13, 14, 15, 16, 17, 18, 19, 20, 21, 22, 23, 24, 25, 26, 27, 28, 29, 30, 31, 32, 33, 34, 35, 36, 37, 38, 39, 40, 41, 42, 43, 44, 45, 46, 47]⟩)]) (args := [a.v, .int .i64 k]) (rs := [.at (.int .i64)]) Tryz.func70 (by kernel_rfl) (by kernel_rfl) h

def V_s_prSame (Q : Bool → World → Prop) (p_0 : Int) (p_1 : Int) (p_2 : Sl) (p_3 : Sl) (q_0 : Int) (q_1 : Int) (q_2 : Sl) (q_3 : Sl) (w : World) : Prop :=
  NEW T.t_i_Problem #[.int .i64 p_0, .int .i64 p_1, p_2.v, p_3.v] w fun (p_p : Addr) w1 =>
  NEW T.t_i_Problem #[.int .i64 q_0, .int .i64 q_1, q_2.v, q_3.v] w1 fun (p_q : Addr) w2 =>
  LD [.int .i64] (p_p.add 0) w2 fun (x6 : Int) =>
  LD [.int .i64] (p_q.add 0) w2 fun (x8 : Int) =>
  cond ((x6 : Int) == x8) (
  LD [.int .i64] (p_p.add 1) w2 fun (x12 : Int) =>
  LD [.int .i64] (p_q.add 1) w2 fun (x14 : Int) =>
  cond ((x12 : Int) == x14) (
  LD [.sl] (p_p.add 2) w2 fun (x19 : Sl) =>
  LD [.sl] (p_q.add 2) w2 fun (x21 : Sl) =>
  Calls Tryz.prog F.s_prSameLists #[x19.v, x21.v] w2 (Ret [.at .bool] fun (x22 : Bool) w3 =>
  cond x22 (
  LD [.sl] (p_p.add 3) w3 fun (x26 : Sl) =>
  LD [.sl] (p_q.add 3) w3 fun (x28 : Sl) =>
  Calls Tryz.prog F.s_prSameLists #[x26.v, x28.v] w3 (Ret [.at .bool] fun (x29 : Bool) w4 =>
  Q x29 w4)) (
  Q false w3))) (
  Q false w2)) (
  Q false w2)

theorem C_s_prSame {Q : Bool → World → Prop} {p_0 : Int} {p_1 : Int} {p_2 : Sl} {p_3 : Sl} {q_0 : Int} {q_1 : Int} {q_2 : Sl} {q_3 : Sl} {w : World} (h : V_s_prSame Q p_0 p_1 p_2 p_3 q_0 q_1 q_2 q_3 w) : Calls Tryz.prog F.s_prSame #[.agg #[.int .i64 p_0, .int .i64 p_1, p_2.v, p_3.v], .agg #[.int .i64 q_0, .int .i64 q_1, q_2.v, q_3.v]] w (Ret [.at .bool] Q) :=
  mkC (hint := hint) (ann := annOf []) (args := [.agg #[.int .i64 p_0, .int .i64 p_1, p_2.v, p_3.v], .agg #[.int .i64 q_0, .int .i64 q_1, q_2.v, q_3.v]]) (rs := [.at .bool]) Tryz.func71 (by kernel_rfl) (by kernel_rfl) h

def V_i_sameProblem (Q : Bool → World → Prop) (p_0 : Int) (p_1 : Int) (p_2 : Sl) (p_3 : Sl) (q_0 : Int) (q_1 : Int) (q_2 : Sl) (q_3 : Sl) (w : World) : Prop :=
  NEW T.t_i_Problem #[.int .i64 p_0, .int .i64 p_1, p_2.v, p_3.v] w fun (p_p : Addr) w1 =>
  NEW T.t_i_Problem #[.int .i64 q_0, .int .i64 q_1, q_2.v, q_3.v] w1 fun (p_q : Addr) w2 =>
  LD [.int .i64] (p_p.add 0) w2 fun (x7 : Int) =>
  LD [.int .i64] (p_q.add 0) w2 fun (x9 : Int) =>
  cond ((x7 : Int) == x9) (
  LD [.int .i64] (p_p.add 1) w2 fun (x13 : Int) =>
  LD [.int .i64] (p_q.add 1) w2 fun (x15 : Int) =>
  cond ((x13 : Int) == x15) (
  LD [.sl] (p_p.add 2) w2 fun (x21 : Sl) =>
  LD [.sl] (p_q.add 2) w2 fun (x23 : Sl) =>
  CALLV Tryz.prog (.func (.func F.i_sameProblem_1) #[] #[]) #[x21.v, x23.v] w2 (Ret [.at .bool] fun (x24 : Bool) w3 =>
  cond x24 (
  LD [.sl] (p_p.add 3) w3 fun (x29 : Sl) =>
  LD [.sl] (p_q.add 3) w3 fun (x31 : Sl) =>
  CALLV Tryz.prog (.func (.func F.i_sameProblem_1) #[] #[]) #[x29.v, x31.v] w3 (Ret [.at .bool] fun (x32 : Bool) w4 =>
  Q x32 w4)) (
  Q false w3))) (
  Q false w2)) (
  Q false w2)

theorem C_i_sameProblem {Q : Bool → World → Prop} {p_0 : Int} {p_1 : Int} {p_2 : Sl} {p_3 : Sl} {q_0 : Int} {q_1 : Int} {q_2 : Sl} {q_3 : Sl} {w : World} (h : V_i_sameProblem Q p_0 p_1 p_2 p_3 q_0 q_1 q_2 q_3 w) : Calls Tryz.prog F.i_sameProblem #[.agg #[.int .i64 p_0, .int .i64 p_1, p_2.v, p_3.v], .agg #[.int .i64 q_0, .int .i64 q_1, q_2.v, q_3.v]] w (Ret [.at .bool] Q) :=
  mkC (hint := hint) (ann := annOf []) (args := [.agg #[.int .i64 p_0, .int .i64 p_1, p_2.v, p_3.v], .agg #[.int .i64 q_0, .int .i64 q_1, q_2.v, q_3.v]]) (rs := [.at .bool]) Tryz.func72 (by kernel_rfl) (by kernel_rfl) h

def V_slices_Concat_sl_i_Problem_i_Problem (Q : Sl → World → Prop) (slices : Sl) (w : World) : Prop :=
  ∃ (I3 : Int → Int → World → Prop) (m3 : Int → Int → World → Nat), I3 0 0 w ∧ ∀ (size1 : Int) (x11 : Int) w1, I3 size1 x11 w1 → ∀ _ _ _ _ _ _ _ _ _ _ _ _ : Value,
  cond (decide ((x11 : Int) < slices.len)) (
  IX slices x11 1 fun (px13 : Addr) =>
  LD [.sl] px13 w1 fun (x14 : Sl) =>
  cond (decide (((IntKind.i64.wrap (size1 + x14.len)) : Int) < 0)) (
  False) (
  I3 (IntKind.i64.wrap (size1 + x14.len)) (IntKind.i64.wrap (x11 + 1)) w1 ∧ m3 (IntKind.i64.wrap (size1 + x14.len)) (IntKind.i64.wrap (x11 + 1)) w1 < m3 size1 x11 w1)) (
  Calls Tryz.prog F.slices_Grow_sl_i_Problem_i_Problem #[.slice none 0 0, .int .i64 size1] w1 (Ret [.at .sl] fun (x24 : Sl) w2 =>
  ∃ (I11 : Sl → Int → World → Prop) (m11 : Sl → Int → World → Nat), I11 x24 0 w2 ∧ ∀ (newslice : Sl) (x27 : Int) w3, I11 newslice x27 w3 → ∀ _ _ _ _ _ _ _ _ : Value,
  cond (decide ((x27 : Int) < slices.len)) (
  IX slices x27 1 fun (px29 : Addr) =>
  LD [.sl] px29 w3 fun (x30 : Sl) =>
  RUN Tryz.prog (.at .sl) (bsem .append #[T.t_sl_i_Problem, T.t_sl_i_Problem] T.t_sl_i_Problem #[newslice.v, x30.v]) w3 fun (x33 : Sl) w4 =>
  I11 x33 (IntKind.i64.wrap (x27 + 1)) w4 ∧ m11 x33 (IntKind.i64.wrap (x27 + 1)) w4 < m11 newslice x27 w3) (
  Q newslice w3)))

theorem C_slices_Concat_sl_i_Problem_i_Problem {Q : Sl → World → Prop} {slices : Sl} {w : World} (h : V_slices_Concat_sl_i_Problem_i_Problem Q slices w) : Calls Tryz.prog F.slices_Concat_sl_i_Problem_i_Problem #[slices.v] w (Ret [.at .sl] Q) :=
  mkC (hint := hint) (ann := annOf [(3, ⟨[(3, .int .i64), (11, .int .i64)], [5, 12, 13, 14, 15, 16, 17, 18, 19, 20, 21, 22]⟩), (11, ⟨[(6, .sl), (27, .int .i64)], [8, 28, 29, 30, 31, 32, 33, 34]⟩)]) (args := [slices.v]) (rs := [.at .sl]) Tryz.func73 (by kernel_rfl) (by kernel_rfl) h

def V_s_prGood (Q : Bool → World → Prop) (p_0 : Int) (p_1 : Int) (p_2 : Sl) (p_3 : Sl) (w : World) : Prop :=
  NEW T.t_i_Problem #[.int .i64 p_0, .int .i64 p_1, p_2.v, p_3.v] w fun (p_p : Addr) w1 =>
  LD [.int .i64] (p_p.add 0) w1 fun (x4 : Int) =>
  Calls Tryz.prog F.s_l1In #[.int .i64 x4, .int .i64 1, .int .i64 8] w1 (Ret [.at .bool] fun (x5 : Bool) w2 =>
  cond x5 (
  LD [.int .i64] (p_p.add 1) w2 fun (x8 : Int) =>
  Calls Tryz.prog F.s_l1In #[.int .i64 x8, .int .i64 1, .int .i64 4] w2 (Ret [.at .bool] fun (x9 : Bool) w3 =>
  cond x9 (
  LD [.sl] (p_p.add 2) w3 fun (x13 : Sl) =>
  LD [.int .i64] (p_p.add 1) w3 fun (x15 : Int) =>
  LD [.int .i64] (p_p.add 0) w3 fun (x17 : Int) =>
  Calls Tryz.prog F.s_prLists #[x13.v, .int .i64 x15, .int .i64 x17] w3 (Ret [.at .bool] fun (x18 : Bool) w4 =>
  cond x18 (
  LD [.sl] (p_p.add 3) w4 fun (x22 : Sl) =>
  LD [.int .i64] (p_p.add 0) w4 fun (x24 : Int) =>
  Calls Tryz.prog F.s_prLists #[x22.v, .int .i64 2, .int .i64 x24] w4 (Ret [.at .bool] fun (x25 : Bool) w5 =>
  Q x25 w5)) (
  Q false w4))) (
  Q false w3))) (
  Q false w2))

theorem C_s_prGood {Q : Bool → World → Prop} {p_0 : Int} {p_1 : Int} {p_2 : Sl} {p_3 : Sl} {w : World} (h : V_s_prGood Q p_0 p_1 p_2 p_3 w) : Calls Tryz.prog F.s_prGood #[.agg #[.int .i64 p_0, .int .i64 p_1, p_2.v, p_3.v]] w (Ret [.at .bool] Q) :=
  mkC (hint := hint) (ann := annOf []) (args := [.agg #[.int .i64 p_0, .int .i64 p_1, p_2.v, p_3.v]]) (rs := [.at .bool]) Tryz.func74 (by kernel_rfl) (by kernel_rfl) h

def V_s_boZero (Q : Bool → World → Prop) (p_0 : Int) (p_1 : Int) (p_2 : Sl) (p_3 : Sl) (pairs : Sl) (w : World) : Prop :=
  NEW T.t_i_Problem #[.int .i64 p_0, .int .i64 p_1, p_2.v, p_3.v] w fun (p_p : Addr) w1 =>
  LD [.int .i64, .int .i64, .sl, .sl] p_p w1 fun (x8_0 : Int) (x8_1 : Int) (x8_2 : Sl) (x8_3 : Sl) =>
  Calls Tryz.prog F.s_CheckZeroRefusal #[.agg #[.int .i64 x8_0, .int .i64 x8_1, x8_2.v, x8_3.v], pairs.v] w1 (Ret [.at .bool, .at .bool] fun (x10_0 : Bool) (x10_1 : Bool) w2 =>
  Q x10_0 w2)

theorem C_s_boZero {Q : Bool → World → Prop} {p_0 : Int} {p_1 : Int} {p_2 : Sl} {p_3 : Sl} {pairs : Sl} {w : World} (h : V_s_boZero Q p_0 p_1 p_2 p_3 pairs w) : Calls Tryz.prog F.s_boZero #[.agg #[.int .i64 p_0, .int .i64 p_1, p_2.v, p_3.v], pairs.v] w (Ret [.at .bool] Q) :=
  mkC (hint := hint) (ann := annOf []) (args := [.agg #[.int .i64 p_0, .int .i64 p_1, p_2.v, p_3.v], pairs.v]) (rs := [.at .bool]) Tryz.func75 (by kernel_rfl) (by kernel_rfl) h

def V_s_boStep (Q : Bool → World → Prop) (p_0 : Int) (p_1 : Int) (p_2 : Sl) (p_3 : Sl) (q_0 : Int) (q_1 : Int) (q_2 : Sl) (q_3 : Sl) (f : Sl) (w : World) : Prop :=
  NEW T.t_i_Problem #[.int .i64 p_0, .int .i64 p_1, p_2.v, p_3.v] w fun (p_p : Addr) w1 =>
  NEW T.t_i_Problem #[.int .i64 q_0, .int .i64 q_1, q_2.v, q_3.v] w1 fun (p_q : Addr) w2 =>
  LD [.int .i64, .int .i64, .sl, .sl] p_p w2 fun (x12_0 : Int) (x12_1 : Int) (x12_2 : Sl) (x12_3 : Sl) =>
  Calls Tryz.prog F.s_EliminateRound #[.agg #[.int .i64 x12_0, .int .i64 x12_1, x12_2.v, x12_3.v]] w2 (Ret [.agg [.int .i64, .int .i64, .sl, .sl], .at .sl, .at .sl, .at .bool] fun (x13_0_0 : Int) (x13_0_1 : Int) (x13_0_2 : Sl) (x13_0_3 : Sl) (x13_1 : Sl) (x13_2 : Sl) (x13_3 : Bool) w3 =>
  NEW T.t_i_Problem #[.int .i64 0, .int .i64 0, .slice none 0 0, .slice none 0 0] w3 fun (p_r : Addr) w4 =>
  ST p_r 0 [.int .i64 x13_0_0, .int .i64 x13_0_1, x13_0_2.v, x13_0_3.v] w4 fun w5 =>
  cond x13_3 (
  LD [.int .i64, .int .i64, .sl, .sl] p_r w5 fun (x20_0 : Int) (x20_1 : Int) (x20_2 : Sl) (x20_3 : Sl) =>
  LD [.int .i64, .int .i64, .sl, .sl] p_q w5 fun (x21_0 : Int) (x21_1 : Int) (x21_2 : Sl) (x21_3 : Sl) =>
  Calls Tryz.prog F.s_reMap #[.agg #[.int .i64 x20_0, .int .i64 x20_1, x20_2.v, x20_3.v], .agg #[.int .i64 x21_0, .int .i64 x21_1, x21_2.v, x21_3.v], f.v] w5 (Ret [.at .bool] fun (x23 : Bool) w6 =>
  Q x23 w6)) (
  Q false w5))

theorem C_s_boStep {Q : Bool → World → Prop} {p_0 : Int} {p_1 : Int} {p_2 : Sl} {p_3 : Sl} {q_0 : Int} {q_1 : Int} {q_2 : Sl} {q_3 : Sl} {f : Sl} {w : World} (h : V_s_boStep Q p_0 p_1 p_2 p_3 q_0 q_1 q_2 q_3 f w) : Calls Tryz.prog F.s_boStep #[.agg #[.int .i64 p_0, .int .i64 p_1, p_2.v, p_3.v], .agg #[.int .i64 q_0, .int .i64 q_1, q_2.v, q_3.v], f.v] w (Ret [.at .bool] Q) :=
  mkC (hint := hint) (ann := annOf []) (args := [.agg #[.int .i64 p_0, .int .i64 p_1, p_2.v, p_3.v], .agg #[.int .i64 q_0, .int .i64 q_1, q_2.v, q_3.v], f.v]) (rs := [.at .bool]) Tryz.func76 (by kernel_rfl) (by kernel_rfl) h

def V_slices_ContainsFunc_sl_i_Problem_i_Problem (Q : Bool → World → Prop) (s : Sl) (f : Value) (w : World) : Prop :=
  Calls Tryz.prog F.slices_IndexFunc_sl_i_Problem_i_Problem #[s.v, f] w (Ret [.at (.int .i64)] fun (x7 : Int) w1 =>
  Q (decide ((x7 : Int) ≥ 0)) w1)

theorem C_slices_ContainsFunc_sl_i_Problem_i_Problem {Q : Bool → World → Prop} {s : Sl} {f : Value} {w : World} (h : V_slices_ContainsFunc_sl_i_Problem_i_Problem Q s f w) : Calls Tryz.prog F.slices_ContainsFunc_sl_i_Problem_i_Problem #[s.v, f] w (Ret [.at .bool] Q) :=
  mkC (hint := hint) (ann := annOf []) (args := [s.v, f]) (rs := [.at .bool]) Tryz.func77 (by kernel_rfl) (by kernel_rfl) h

def V_i_problemsOk_1 (Q : Bool → World → Prop) (p_0 : Int) (p_1 : Int) (p_2 : Sl) (p_3 : Sl) (cap0 : Addr) (w : World) : Prop :=
  NEW T.t_i_Problem #[.int .i64 p_0, .int .i64 p_1, p_2.v, p_3.v] w fun (p_p : Addr) w1 =>
  LD [.int .i64, .int .i64, .sl, .sl] p_p w1 fun (x4_0 : Int) (x4_1 : Int) (x4_2 : Sl) (x4_3 : Sl) =>
  QCALL Tryz.prog F.i_IsProblem #[.agg #[.int .i64 x4_0, .int .i64 x4_1, x4_2.v, x4_3.v]] w1 [.at .bool] fun (x5 : Bool) =>
  cond (!x5) (
  ∀ w2, Ext w1 w2 →
  Q true w2) (
  LD [.int .i64] (p_p.add 1) w1 fun (x9 : Int) =>
  LD [.sl] cap0 w1 fun (x10 : Sl) =>
  IX x10 0 4 fun (px11 : Addr) =>
  LD [.int .i64] (px11.add 1) w1 fun (x13 : Int) =>
  ∀ w3, Ext w1 w3 →
  Q ((x9 : Int) != x13) w3)

theorem C_i_problemsOk_1 {Q : Bool → World → Prop} {p_0 : Int} {p_1 : Int} {p_2 : Sl} {p_3 : Sl} {cap0 : Addr} {w : World} (h : V_i_problemsOk_1 Q p_0 p_1 p_2 p_3 cap0 w) : Calls Tryz.prog F.i_problemsOk_1 #[.agg #[.int .i64 p_0, .int .i64 p_1, p_2.v, p_3.v], .pointer (some cap0)] w (Ret [.at .bool] Q) :=
  mkC (hint := hint) (ann := annOf []) (args := [.agg #[.int .i64 p_0, .int .i64 p_1, p_2.v, p_3.v], .pointer (some cap0)]) (rs := [.at .bool]) Tryz.func78 (by kernel_rfl) (by kernel_rfl) h

def V_i_IsProblem (Q : Bool → World → Prop) (p_0 : Int) (p_1 : Int) (p_2 : Sl) (p_3 : Sl) (w : World) : Prop :=
  NEW T.t_i_Problem #[.int .i64 p_0, .int .i64 p_1, p_2.v, p_3.v] w fun (p_p : Addr) w1 =>
  LD [.int .i64] (p_p.add 0) w1 fun (x4 : Int) =>
  Calls Tryz.prog F.i_within #[.int .i64 x4, .int .i64 1, .int .i64 8] w1 (Ret [.at .bool] fun (x5 : Bool) w2 =>
  cond x5 (
  LD [.int .i64] (p_p.add 1) w2 fun (x8 : Int) =>
  Calls Tryz.prog F.i_within #[.int .i64 x8, .int .i64 1, .int .i64 4] w2 (Ret [.at .bool] fun (x9 : Bool) w3 =>
  cond x9 (
  LD [.sl] (p_p.add 2) w3 fun (x13 : Sl) =>
  LD [.int .i64] (p_p.add 1) w3 fun (x15 : Int) =>
  LD [.int .i64] (p_p.add 0) w3 fun (x17 : Int) =>
  Calls Tryz.prog F.i_configurationsOk #[x13.v, .int .i64 x15, .int .i64 x17] w3 (Ret [.at .bool] fun (x18 : Bool) w4 =>
  cond x18 (
  LD [.sl] (p_p.add 3) w4 fun (x22 : Sl) =>
  LD [.int .i64] (p_p.add 0) w4 fun (x24 : Int) =>
  Calls Tryz.prog F.i_configurationsOk #[x22.v, .int .i64 2, .int .i64 x24] w4 (Ret [.at .bool] fun (x25 : Bool) w5 =>
  Q x25 w5)) (
  Q false w4))) (
  Q false w3))) (
  Q false w2))

theorem C_i_IsProblem {Q : Bool → World → Prop} {p_0 : Int} {p_1 : Int} {p_2 : Sl} {p_3 : Sl} {w : World} (h : V_i_IsProblem Q p_0 p_1 p_2 p_3 w) : Calls Tryz.prog F.i_IsProblem #[.agg #[.int .i64 p_0, .int .i64 p_1, p_2.v, p_3.v]] w (Ret [.at .bool] Q) :=
  mkC (hint := hint) (ann := annOf []) (args := [.agg #[.int .i64 p_0, .int .i64 p_1, p_2.v, p_3.v]]) (rs := [.at .bool]) Tryz.func79 (by kernel_rfl) (by kernel_rfl) h

def V_i_eliminate (Q : Int → Int → Sl → Sl → Sl → Sl → Bool → World → Prop) (p_0 : Int) (p_1 : Int) (p_2 : Sl) (p_3 : Sl) (w : World) : Prop :=
  NEW T.t_i_Problem #[.int .i64 p_0, .int .i64 p_1, p_2.v, p_3.v] w fun (p_p : Addr) w1 =>
  NEW T.t_i_Problem #[.int .i64 0, .int .i64 0, .slice none 0 0, .slice none 0 0] w1 fun (px2 : Addr) w2 =>
  LD [.int .i64, .int .i64, .sl, .sl] p_p w2 fun (x12_0 : Int) (x12_1 : Int) (x12_2 : Sl) (x12_3 : Sl) =>
  Calls Tryz.prog F.i_edgeStep #[.agg #[.int .i64 x12_0, .int .i64 x12_1, x12_2.v, x12_3.v]] w2 (Ret [.agg [.int .i64, .int .i64, .sl, .sl], .at .sl, .at .bool] fun (x13_0_0 : Int) (x13_0_1 : Int) (x13_0_2 : Sl) (x13_0_3 : Sl) (x13_1 : Sl) (x13_2 : Bool) w3 =>
  NEW T.t_i_Problem #[.int .i64 0, .int .i64 0, .slice none 0 0, .slice none 0 0] w3 fun (p_q : Addr) w4 =>
  ST p_q 0 [.int .i64 x13_0_0, .int .i64 x13_0_1, x13_0_2.v, x13_0_3.v] w4 fun w5 =>
  cond (!x13_2) (
  ST px2 0 [.int .i64 0, .int .i64 0, .slice none 0 0, .slice none 0 0] w5 fun w6 =>
  LD [.int .i64, .int .i64, .sl, .sl] px2 w6 fun (r0_0 : Int) (r0_1 : Int) (r0_2 : Sl) (r0_3 : Sl) =>
  Q r0_0 r0_1 r0_2 r0_3 (⟨none, 0, 0⟩) (⟨none, 0, 0⟩) false w6) (
  LD [.int .i64, .int .i64, .sl, .sl] p_q w5 fun (x21_0 : Int) (x21_1 : Int) (x21_2 : Sl) (x21_3 : Sl) =>
  Calls Tryz.prog F.i_nodeStep #[.agg #[.int .i64 x21_0, .int .i64 x21_1, x21_2.v, x21_3.v]] w5 (Ret [.agg [.int .i64, .int .i64, .sl, .sl], .at .sl, .at .bool] fun (x22_0_0 : Int) (x22_0_1 : Int) (x22_0_2 : Sl) (x22_0_3 : Sl) (x22_1 : Sl) (x22_2 : Bool) w7 =>
  NEW T.t_i_Problem #[.int .i64 0, .int .i64 0, .slice none 0 0, .slice none 0 0] w7 fun (p_r : Addr) w8 =>
  ST p_r 0 [.int .i64 x22_0_0, .int .i64 x22_0_1, x22_0_2.v, x22_0_3.v] w8 fun w9 =>
  cond (!x22_2) (
  ST px2 0 [.int .i64 0, .int .i64 0, .slice none 0 0, .slice none 0 0] w9 fun w10 =>
  LD [.int .i64, .int .i64, .sl, .sl] px2 w10 fun (r0_0_2 : Int) (r0_1_2 : Int) (r0_2_2 : Sl) (r0_3_2 : Sl) =>
  Q r0_0_2 r0_1_2 r0_2_2 r0_3_2 (⟨none, 0, 0⟩) (⟨none, 0, 0⟩) false w10) (
  LD [.int .i64, .int .i64, .sl, .sl] p_r w9 fun (x29_0 : Int) (x29_1 : Int) (x29_2 : Sl) (x29_3 : Sl) =>
  ST px2 0 [.int .i64 x29_0, .int .i64 x29_1, x29_2.v, x29_3.v] w9 fun w11 =>
  LD [.int .i64, .int .i64, .sl, .sl] px2 w11 fun (r0_0_3 : Int) (r0_1_3 : Int) (r0_2_3 : Sl) (r0_3_3 : Sl) =>
  Q r0_0_3 r0_1_3 r0_2_3 r0_3_3 x13_1 x22_1 true w11))))

theorem C_i_eliminate {Q : Int → Int → Sl → Sl → Sl → Sl → Bool → World → Prop} {p_0 : Int} {p_1 : Int} {p_2 : Sl} {p_3 : Sl} {w : World} (h : V_i_eliminate Q p_0 p_1 p_2 p_3 w) : Calls Tryz.prog F.i_eliminate #[.agg #[.int .i64 p_0, .int .i64 p_1, p_2.v, p_3.v]] w (Ret [.agg [.int .i64, .int .i64, .sl, .sl], .at .sl, .at .sl, .at .bool] Q) :=
  mkC (hint := hint) (ann := annOf []) (args := [.agg #[.int .i64 p_0, .int .i64 p_1, p_2.v, p_3.v]]) (rs := [.agg [.int .i64, .int .i64, .sl, .sl], .at .sl, .at .sl, .at .bool]) Tryz.func80 (by kernel_rfl) (by kernel_rfl) h

def V_i_isLabelMap_k1 (Q : Bool → World → Prop) (p_p : Addr) (p_q : Addr) (p_f : Addr) (w5 : World) : Prop :=
  LD [.sl] (p_p.add 2) w5 fun (x21 : Sl) =>
  ∃ (I4 : Int → World → Prop) (m4 : Int → World → Nat), I4 0 w5 ∧ ∀ (x23 : Int) w6, I4 x23 w6 → ∀ _ _ _ _ _ _ _ _ _ _ _ _ : Value,
  cond (decide ((x23 : Int) < x21.len)) (
  IX x21 x23 1 fun (px25 : Addr) =>
  LD [.sl] px25 w6 fun (x26 : Sl) =>
  ∀ w7, Ext w6 w7 → w7.heap = w6.heap →
  LD [.int .i64, .int .i64, .sl, .sl] p_q w7 fun (x27_0 : Int) (x27_1 : Int) (x27_2 : Sl) (x27_3 : Sl) =>
  LD [.sl] p_f w7 fun (x29 : Sl) =>
  Ext w7 w7 ∧ (
  Calls Tryz.prog F.i_images #[x26.v, x29.v] w7 (Ret [.at .sl] fun (x30 : Sl) w8 =>
  Ext w7 w8 ∧ (
  Calls Tryz.prog F.i_Problem_node #[.agg #[.int .i64 x27_0, .int .i64 x27_1, x27_2.v, x27_3.v], x30.v] w8 (Ret [.at .bool] fun (x31 : Bool) w9 =>
  Ext w7 w9 ∧ (
  Ext w7 w9 ∧ (
  cond (!x31) (
  Q false w9) (
  I4 (IntKind.i64.wrap (x23 + 1)) w9 ∧ m4 (IntKind.i64.wrap (x23 + 1)) w9 < m4 x23 w6)))))))) (
  LD [.sl] (p_p.add 3) w6 fun (x35 : Sl) =>
  Calls Tryz.prog F.slices_ContainsFunc_sl_sl_int_sl_int #[x35.v, .func (.func F.i_isLabelMap_1) #[] #[.pointer (some p_q), .pointer (some p_f)]] w6 (Ret [.at .bool] fun (x37 : Bool) w10 =>
  Q (!x37) w10))

def V_i_isLabelMap (Q : Bool → World → Prop) (p_0 : Int) (p_1 : Int) (p_2 : Sl) (p_3 : Sl) (q_0 : Int) (q_1 : Int) (q_2 : Sl) (q_3 : Sl) (f : Sl) (w : World) : Prop :=
  NEW T.t_i_Problem #[.int .i64 p_0, .int .i64 p_1, p_2.v, p_3.v] w fun (p_p : Addr) w1 =>
  NEW T.t_i_Problem #[.int .i64 q_0, .int .i64 q_1, q_2.v, q_3.v] w1 fun (p_q : Addr) w2 =>
  NEW T.t_sl_int #[f.v] w2 fun (p_f : Addr) w3 =>
  LD [.sl] p_f w3 fun (x9 : Sl) =>
  LD [.int .i64] (p_p.add 0) w3 fun (x12 : Int) =>
  cond ((x9.len : Int) != x12) (
  Q false w3) (
  LD [.int .i64, .int .i64, .sl, .sl] p_q w3 fun (x15_0 : Int) (x15_1 : Int) (x15_2 : Sl) (x15_3 : Sl) =>
  LD [.sl] p_f w3 fun (x16 : Sl) =>
  Calls Tryz.prog F.i_Problem_hasLabels #[.agg #[.int .i64 x15_0, .int .i64 x15_1, x15_2.v, x15_3.v], x16.v] w3 (Ret [.at .bool] fun (x17 : Bool) w4 =>
  cond (!x17) (
  Q false w4) (
  V_i_isLabelMap_k1 Q p_p p_q p_f w4)))

theorem C_i_isLabelMap {Q : Bool → World → Prop} {p_0 : Int} {p_1 : Int} {p_2 : Sl} {p_3 : Sl} {q_0 : Int} {q_1 : Int} {q_2 : Sl} {q_3 : Sl} {f : Sl} {w : World} (h : V_i_isLabelMap Q p_0 p_1 p_2 p_3 q_0 q_1 q_2 q_3 f w) : Calls Tryz.prog F.i_isLabelMap #[.agg #[.int .i64 p_0, .int .i64 p_1, p_2.v, p_3.v], .agg #[.int .i64 q_0, .int .i64 q_1, q_2.v, q_3.v], f.v] w (Ret [.at .bool] Q) :=
  mkC (hint := hint) (ann := annOf [(4, ⟨[(23, .int .i64)], [6, 8, 24, 25, 26, 27, 28, 29, 30, 31, 32, 33]⟩)]) (args := [.agg #[.int .i64 p_0, .int .i64 p_1, p_2.v, p_3.v], .agg #[.int .i64 q_0, .int .i64 q_1, q_2.v, q_3.v], f.v]) (rs := [.at .bool]) Tryz.func81 (by kernel_rfl) (by kernel_rfl) h

def V_i_isZeroRefusal (Q : Bool → World → Prop) (p_0 : Int) (p_1 : Int) (p_2 : Sl) (p_3 : Sl) (pairs : Sl) (w : World) : Prop :=
  NEW T.t_i_Problem #[.int .i64 p_0, .int .i64 p_1, p_2.v, p_3.v] w fun (p_p : Addr) w1 =>
  LD [.sl] (p_p.add 2) w1 fun (x10 : Sl) =>
  cond ((pairs.len : Int) != x10.len) (
  Q false w1) (
  ∃ (I4 : Int → World → Prop) (m4 : Int → World → Nat), I4 0 w1 ∧ ∀ (x15 : Int) w2, I4 x15 w2 → ∀ _ _ _ _ _ _ _ _ _ _ _ _ _ _ _ _ _ _ _ _ _ _ _ _ _ _ _ _ _ _ _ _ _ _ _ _ _ _ _ _ _ _ _ _ _ : Value,
  cond (decide ((x15 : Int) < pairs.len)) (
  IX pairs x15 1 fun (px18 : Addr) =>
  LD [.sl] px18 w2 fun (x19 : Sl) =>
  cond ((x19.len : Int) != 2) (
  ∀ w3, Ext w2 w3 →
  Q false w3) (
  LD [.sl] (p_p.add 2) w2 fun (x25 : Sl) =>
  IX x25 x15 1 fun (px27 : Addr) =>
  LD [.sl] px27 w2 fun (x28 : Sl) =>
  IX x19 0 1 fun (px30 : Addr) =>
  LD [.int .i64] px30 w2 fun (x31 : Int) =>
  QCALL Tryz.prog F.slices_Contains_sl_int_int #[x28.v, .int .i64 x31] w2 [.at .bool] fun (x32 : Bool) =>
  cond (!x32) (
  ∀ w4, Ext w2 w4 →
  Q false w4) (
  LD [.sl] (p_p.add 2) w2 fun (x37 : Sl) =>
  IX x37 x15 1 fun (px39 : Addr) =>
  LD [.sl] px39 w2 fun (x40 : Sl) =>
  IX x19 1 1 fun (px42 : Addr) =>
  LD [.int .i64] px42 w2 fun (x43 : Int) =>
  QCALL Tryz.prog F.slices_Contains_sl_int_int #[x40.v, .int .i64 x43] w2 [.at .bool] fun (x44 : Bool) =>
  cond (!x44) (
  ∀ w5, Ext w2 w5 →
  Q false w5) (
  LD [.int .i64, .int .i64, .sl, .sl] p_p w2 fun (x48_0 : Int) (x48_1 : Int) (x48_2 : Sl) (x48_3 : Sl) =>
  IX x19 0 1 fun (px50 : Addr) =>
  LD [.int .i64] px50 w2 fun (x51 : Int) =>
  IX x19 1 1 fun (px53 : Addr) =>
  LD [.int .i64] px53 w2 fun (x54 : Int) =>
  QCALL Tryz.prog F.i_Problem_edge #[.agg #[.int .i64 x48_0, .int .i64 x48_1, x48_2.v, x48_3.v], .int .i64 x51, .int .i64 x54] w2 [.at .bool] fun (x55 : Bool) =>
  ∀ w6, Ext w2 w6 →
  cond x55 (
  Q false w6) (
  I4 (IntKind.i64.wrap (x15 + 1)) w6 ∧ m4 (IntKind.i64.wrap (x15 + 1)) w6 < m4 x15 w2))))) (
  Q true w2))

theorem C_i_isZeroRefusal {Q : Bool → World → Prop} {p_0 : Int} {p_1 : Int} {p_2 : Sl} {p_3 : Sl} {pairs : Sl} {w : World} (h : V_i_isZeroRefusal Q p_0 p_1 p_2 p_3 pairs w) : Calls Tryz.prog F.i_isZeroRefusal #[.agg #[.int .i64 p_0, .int .i64 p_1, p_2.v, p_3.v], pairs.v] w (Ret [.at .bool] Q) :=
  mkC (hint := hint) (ann := annOf [(4, ⟨[(15, .int .i64)], [4, 5, 6, 16, 17, 18, 19, 20, 21, 22, 23, 24, 25, 26, 27, 28, 29, 30, 31, 32, 33, 34, 35, 36, 37, 38, 39, 40, 41, 42, 43, 44, 45, 46, 47, 48, 49, 50, 51, 52, 53, 54, 55, 56, 57]⟩)]) (args := [.agg #[.int .i64 p_0, .int .i64 p_1, p_2.v, p_3.v], pairs.v]) (rs := [.at .bool]) Tryz.func82 (by kernel_rfl) (by kernel_rfl) h

def V_s_EliminateRound (Q : Int → Int → Sl → Sl → Sl → Sl → Bool → World → Prop) (p_0 : Int) (p_1 : Int) (p_2 : Sl) (p_3 : Sl) (w : World) : Prop :=
  NEW T.t_i_Problem #[.int .i64 p_0, .int .i64 p_1, p_2.v, p_3.v] w fun (p_p : Addr) w1 =>
  NEW T.t_i_Problem #[.int .i64 0, .int .i64 0, .slice none 0 0, .slice none 0 0] w1 fun (px2 : Addr) w2 =>
  LD [.int .i64, .int .i64, .sl, .sl] p_p w2 fun (x13_0 : Int) (x13_1 : Int) (x13_2 : Sl) (x13_3 : Sl) =>
  Calls Tryz.prog F.s_EdgeStep #[.agg #[.int .i64 x13_0, .int .i64 x13_1, x13_2.v, x13_3.v]] w2 (Ret [.agg [.int .i64, .int .i64, .sl, .sl], .at .sl, .at .bool] fun (x14_0_0 : Int) (x14_0_1 : Int) (x14_0_2 : Sl) (x14_0_3 : Sl) (x14_1 : Sl) (x14_2 : Bool) w3 =>
  NEW T.t_i_Problem #[.int .i64 0, .int .i64 0, .slice none 0 0, .slice none 0 0] w3 fun (p_q : Addr) w4 =>
  ST p_q 0 [.int .i64 x14_0_0, .int .i64 x14_0_1, x14_0_2.v, x14_0_3.v] w4 fun w5 =>
  cond (!x14_2) (
  ST px2 0 [.int .i64 0, .int .i64 0, .slice none 0 0, .slice none 0 0] w5 fun w6 =>
  LD [.int .i64, .int .i64, .sl, .sl] px2 w6 fun (r0_0 : Int) (r0_1 : Int) (r0_2 : Sl) (r0_3 : Sl) =>
  Q r0_0 r0_1 r0_2 r0_3 (⟨none, 0, 0⟩) (⟨none, 0, 0⟩) false w6) (
  LD [.int .i64, .int .i64, .sl, .sl] p_q w5 fun (x22_0 : Int) (x22_1 : Int) (x22_2 : Sl) (x22_3 : Sl) =>
  Calls Tryz.prog F.s_elNode #[.agg #[.int .i64 x22_0, .int .i64 x22_1, x22_2.v, x22_3.v]] w5 (Ret [.agg [.int .i64, .int .i64, .sl, .sl], .at .sl, .at .bool] fun (x23_0_0 : Int) (x23_0_1 : Int) (x23_0_2 : Sl) (x23_0_3 : Sl) (x23_1 : Sl) (x23_2 : Bool) w7 =>
  NEW T.t_i_Problem #[.int .i64 0, .int .i64 0, .slice none 0 0, .slice none 0 0] w7 fun (p_r : Addr) w8 =>
  ST p_r 0 [.int .i64 x23_0_0, .int .i64 x23_0_1, x23_0_2.v, x23_0_3.v] w8 fun w9 =>
  cond (!x23_2) (
  ST px2 0 [.int .i64 0, .int .i64 0, .slice none 0 0, .slice none 0 0] w9 fun w10 =>
  LD [.int .i64, .int .i64, .sl, .sl] px2 w10 fun (r0_0_2 : Int) (r0_1_2 : Int) (r0_2_2 : Sl) (r0_3_2 : Sl) =>
  Q r0_0_2 r0_1_2 r0_2_2 r0_3_2 (⟨none, 0, 0⟩) (⟨none, 0, 0⟩) false w10) (
  LD [.int .i64, .int .i64, .sl, .sl] p_r w9 fun (x30_0 : Int) (x30_1 : Int) (x30_2 : Sl) (x30_3 : Sl) =>
  ST px2 0 [.int .i64 x30_0, .int .i64 x30_1, x30_2.v, x30_3.v] w9 fun w11 =>
  LD [.int .i64, .int .i64, .sl, .sl] px2 w11 fun (r0_0_3 : Int) (r0_1_3 : Int) (r0_2_3 : Sl) (r0_3_3 : Sl) =>
  Q r0_0_3 r0_1_3 r0_2_3 r0_3_3 x14_1 x23_1 true w11))))

theorem C_s_EliminateRound {Q : Int → Int → Sl → Sl → Sl → Sl → Bool → World → Prop} {p_0 : Int} {p_1 : Int} {p_2 : Sl} {p_3 : Sl} {w : World} (h : V_s_EliminateRound Q p_0 p_1 p_2 p_3 w) : Calls Tryz.prog F.s_EliminateRound #[.agg #[.int .i64 p_0, .int .i64 p_1, p_2.v, p_3.v]] w (Ret [.agg [.int .i64, .int .i64, .sl, .sl], .at .sl, .at .sl, .at .bool] Q) :=
  mkC (hint := hint) (ann := annOf []) (args := [.agg #[.int .i64 p_0, .int .i64 p_1, p_2.v, p_3.v]]) (rs := [.agg [.int .i64, .int .i64, .sl, .sl], .at .sl, .at .sl, .at .bool]) Tryz.func85 (by kernel_rfl) (by kernel_rfl) h

def V_s_l1All (Q : Bool → World → Prop) (l : Sl) (lo : Int) (hi : Int) (w : World) : Prop :=
  ∃ (I2 : Int → World → Prop) (m2 : Int → World → Nat), I2 0 w ∧ ∀ (x11 : Int) w1, I2 x11 w1 → ∀ _ _ _ _ _ _ _ _ _ _ _ : Value,
  cond (decide ((x11 : Int) < l.len)) (
  IX l x11 1 fun (px13 : Addr) =>
  LD [.int .i64] px13 w1 fun (x14 : Int) =>
  Calls Tryz.prog F.s_l1In #[.int .i64 x14, .int .i64 lo, .int .i64 hi] w1 (Ret [.at .bool] fun (x18 : Bool) w2 =>
  cond (!x18) (
  Q false w2) (
  I2 (IntKind.i64.wrap (x11 + 1)) w2 ∧ m2 (IntKind.i64.wrap (x11 + 1)) w2 < m2 x11 w1))) (
  Q true w1)

theorem C_s_l1All {Q : Bool → World → Prop} {l : Sl} {lo : Int} {hi : Int} {w : World} (h : V_s_l1All Q l lo hi w) : Calls Tryz.prog F.s_l1All #[l.v, .int .i64 lo, .int .i64 hi] w (Ret [.at .bool] Q) :=
  mkC (hint := hint) (ann := annOf [(2, ⟨[(11, .int .i64)], [6, 8, 12, 13, 14, 15, 16, 17, 18, 19, 20]⟩)]) (args := [l.v, .int .i64 lo, .int .i64 hi]) (rs := [.at .bool]) Tryz.func87 (by kernel_rfl) (by kernel_rfl) h

def V_s_EdgeStep (Q : Int → Int → Sl → Sl → Sl → Bool → World → Prop) (p_0 : Int) (p_1 : Int) (p_2 : Sl) (p_3 : Sl) (w : World) : Prop :=
  NEW T.t_i_Problem #[.int .i64 p_0, .int .i64 p_1, p_2.v, p_3.v] w fun (p_p : Addr) w1 =>
  NEW T.t_i_Problem #[.int .i64 0, .int .i64 0, .slice none 0 0, .slice none 0 0] w1 fun (px2 : Addr) w2 =>
  LD [.int .i64, .int .i64, .sl, .sl] p_p w2 fun (x5_0 : Int) (x5_1 : Int) (x5_2 : Sl) (x5_3 : Sl) =>
  Calls Tryz.prog F.s_prGood #[.agg #[.int .i64 x5_0, .int .i64 x5_1, x5_2.v, x5_3.v]] w2 (Ret [.at .bool] fun (x6 : Bool) w3 =>
  cond (!x6) (
  ST px2 0 [.int .i64 0, .int .i64 0, .slice none 0 0, .slice none 0 0] w3 fun w4 =>
  LD [.int .i64, .int .i64, .sl, .sl] px2 w4 fun (r0_0 : Int) (r0_1 : Int) (r0_2 : Sl) (r0_3 : Sl) =>
  Q r0_0 r0_1 r0_2 r0_3 (⟨none, 0, 0⟩) false w4) (
  LD [.int .i64, .int .i64, .sl, .sl] p_p w3 fun (x9_0 : Int) (x9_1 : Int) (x9_2 : Sl) (x9_3 : Sl) =>
  Calls Tryz.prog F.s_elEdge #[.agg #[.int .i64 x9_0, .int .i64 x9_1, x9_2.v, x9_3.v]] w3 (Ret [.agg [.int .i64, .int .i64, .sl, .sl], .at .sl, .at .bool] fun (x10_0_0 : Int) (x10_0_1 : Int) (x10_0_2 : Sl) (x10_0_3 : Sl) (x10_1 : Sl) (x10_2 : Bool) w5 =>
  ST px2 0 [.int .i64 x10_0_0, .int .i64 x10_0_1, x10_0_2.v, x10_0_3.v] w5 fun w6 =>
  LD [.int .i64, .int .i64, .sl, .sl] px2 w6 fun (r0_0_2 : Int) (r0_1_2 : Int) (r0_2_2 : Sl) (r0_3_2 : Sl) =>
  Q r0_0_2 r0_1_2 r0_2_2 r0_3_2 x10_1 x10_2 w6)))

theorem C_s_EdgeStep {Q : Int → Int → Sl → Sl → Sl → Bool → World → Prop} {p_0 : Int} {p_1 : Int} {p_2 : Sl} {p_3 : Sl} {w : World} (h : V_s_EdgeStep Q p_0 p_1 p_2 p_3 w) : Calls Tryz.prog F.s_EdgeStep #[.agg #[.int .i64 p_0, .int .i64 p_1, p_2.v, p_3.v]] w (Ret [.agg [.int .i64, .int .i64, .sl, .sl], .at .sl, .at .bool] Q) :=
  mkC (hint := hint) (ann := annOf []) (args := [.agg #[.int .i64 p_0, .int .i64 p_1, p_2.v, p_3.v]]) (rs := [.agg [.int .i64, .int .i64, .sl, .sl], .at .sl, .at .bool]) Tryz.func90 (by kernel_rfl) (by kernel_rfl) h

def V_i_copyProblem (Q : Int → Int → Sl → Sl → World → Prop) (p_0 : Int) (p_1 : Int) (p_2 : Sl) (p_3 : Sl) (w : World) : Prop :=
  NEW T.t_i_Problem #[.int .i64 p_0, .int .i64 p_1, p_2.v, p_3.v] w fun (p_p : Addr) w1 =>
  NEW T.t_i_Problem #[.int .i64 0, .int .i64 0, .slice none 0 0, .slice none 0 0] w1 fun (px2 : Addr) w2 =>
  ∀ w3, Ext w2 w3 → w3.heap = w2.heap → ∃ (D3 : Nat → Prop),
  ¬ D3 (p_p.add 2).block ∧ (
  LD [.sl] (p_p.add 2) w3 fun (x4 : Sl) =>
  ¬ D3 (p_p.add 3).block ∧ (
  LD [.sl] (p_p.add 3) w3 fun (x7 : Sl) =>
  Calls Tryz.prog F.i_copyLists #[x4.v] w3 (Ret [.at .sl] fun (x5 : Sl) w4 =>
  Chg w3 w4 D3 ∧ (
  Calls Tryz.prog F.i_copyLists #[x7.v] w4 (Ret [.at .sl] fun (x8 : Sl) w5 =>
  Chg w3 w5 D3 ∧ (
  ST (p_p.add 2) 0 [x5.v] w5 fun w6 =>
  ST (p_p.add 3) 0 [x8.v] w6 fun w7 =>
  LD [.int .i64, .int .i64, .sl, .sl] p_p w7 fun (x11_0 : Int) (x11_1 : Int) (x11_2 : Sl) (x11_3 : Sl) =>
  ST px2 0 [.int .i64 x11_0, .int .i64 x11_1, x11_2.v, x11_3.v] w7 fun w8 =>
  LD [.int .i64, .int .i64, .sl, .sl] px2 w8 fun (r0_0 : Int) (r0_1 : Int) (r0_2 : Sl) (r0_3 : Sl) =>
  Q r0_0 r0_1 r0_2 r0_3 w8))))))

theorem C_i_copyProblem {Q : Int → Int → Sl → Sl → World → Prop} {p_0 : Int} {p_1 : Int} {p_2 : Sl} {p_3 : Sl} {w : World} (h : V_i_copyProblem Q p_0 p_1 p_2 p_3 w) : Calls Tryz.prog F.i_copyProblem #[.agg #[.int .i64 p_0, .int .i64 p_1, p_2.v, p_3.v]] w (Ret [.agg [.int .i64, .int .i64, .sl, .sl]] Q) :=
  mkC (hint := hint) (ann := annOf []) (args := [.agg #[.int .i64 p_0, .int .i64 p_1, p_2.v, p_3.v]]) (rs := [.agg [.int .i64, .int .i64, .sl, .sl]]) Tryz.func95 (by kernel_rfl) (by kernel_rfl) h

def V_s_boOwn (Q : Int → Int → Sl → Sl → World → Prop) (p_0 : Int) (p_1 : Int) (p_2 : Sl) (p_3 : Sl) (w : World) : Prop :=
  NEW T.t_i_Problem #[.int .i64 p_0, .int .i64 p_1, p_2.v, p_3.v] w fun (p_p : Addr) w1 =>
  NEW T.t_i_Problem #[.int .i64 0, .int .i64 0, .slice none 0 0, .slice none 0 0] w1 fun (px2 : Addr) w2 =>
  ∀ w3, Ext w2 w3 → w3.heap = w2.heap → ∃ (D3 : Nat → Prop),
  ¬ D3 (p_p.add 0).block ∧ (
  LD [.int .i64] (p_p.add 0) w3 fun (x4 : Int) =>
  ¬ D3 (p_p.add 1).block ∧ (
  LD [.int .i64] (p_p.add 1) w3 fun (x6 : Int) =>
  ¬ D3 (p_p.add 2).block ∧ (
  LD [.sl] (p_p.add 2) w3 fun (x8 : Sl) =>
  ¬ D3 (p_p.add 3).block ∧ (
  LD [.sl] (p_p.add 3) w3 fun (x11 : Sl) =>
  Calls Tryz.prog F.s_soCopy #[x8.v] w3 (Ret [.at .sl] fun (x9 : Sl) w4 =>
  Chg w3 w4 D3 ∧ (
  Calls Tryz.prog F.s_soCopy #[x11.v] w4 (Ret [.at .sl] fun (x12 : Sl) w5 =>
  Chg w3 w5 D3 ∧ (
  Chg w3 w5 D3 ∧ (
  ST px2 0 [.int .i64 x4, .int .i64 x6, x9.v, x12.v] w5 fun w6 =>
  LD [.int .i64, .int .i64, .sl, .sl] px2 w6 fun (r0_0 : Int) (r0_1 : Int) (r0_2 : Sl) (r0_3 : Sl) =>
  Q r0_0 r0_1 r0_2 r0_3 w6)))))))))

theorem C_s_boOwn {Q : Int → Int → Sl → Sl → World → Prop} {p_0 : Int} {p_1 : Int} {p_2 : Sl} {p_3 : Sl} {w : World} (h : V_s_boOwn Q p_0 p_1 p_2 p_3 w) : Calls Tryz.prog F.s_boOwn #[.agg #[.int .i64 p_0, .int .i64 p_1, p_2.v, p_3.v]] w (Ret [.agg [.int .i64, .int .i64, .sl, .sl]] Q) :=
  mkC (hint := hint) (ann := annOf []) (args := [.agg #[.int .i64 p_0, .int .i64 p_1, p_2.v, p_3.v]]) (rs := [.agg [.int .i64, .int .i64, .sl, .sl]]) Tryz.func107 (by kernel_rfl) (by kernel_rfl) h

def V_s_LabelMapBetween_k2 (Q : Sl → Bool → World → Prop) (p_p : Addr) (p_q : Addr) (x : Addr) (w16 : World) : Prop :=
  ∃ (I6 : Sl → Int → World → Prop) (m6 : Sl → Int → World → Nat), I6 (⟨none, 0, 0⟩) 0 w16 ∧ ∀ (sets : Sl) (a : Int) w17, I6 sets a w17 → ∀ _ _ _ _ _ _ _ _ _ _ _ _ _ : Value,
  LD [.int .i64] (p_p.add 0) w17 fun (x32 : Int) =>
  cond (decide ((a : Int) < x32)) (
  LD [.int .i64] (p_q.add 0) w17 fun (x38 : Int) =>
  (0 : Int) ≤ x38 ∧ (
  RUN Tryz.prog (.at .sl) (Instr.buildSlice T.t_sl_int 1 #[(0, .int .i64 (IntKind.i64.wrap ((shlI .i64 1 x38) - 1)))]) w17 fun (x41 : Sl) w18 =>
  RUN Tryz.prog (.at .sl) (bsem .append #[T.t_sl_int, T.t_sl_int] T.t_sl_int #[sets.v, x41.v]) w18 fun (x42 : Sl) w19 =>
  I6 x42 (IntKind.i64.wrap (a + 1)) w19 ∧ m6 x42 (IntKind.i64.wrap (a + 1)) w19 < m6 sets a w17)) (
  LD [.int .i64, .int .i64, .sl, .sl, .int .i64, .int .i64, .sl, .sl, .sl, .sl] x w17 fun (x44_0 : Int) (x44_1 : Int) (x44_2 : Sl) (x44_3 : Sl) (x44_4 : Int) (x44_5 : Int) (x44_6 : Sl) (x44_7 : Sl) (x44_8 : Sl) (x44_9 : Sl) =>
  Calls Tryz.prog F.s_reFinder_narrow #[.agg #[.int .i64 x44_0, .int .i64 x44_1, x44_2.v, x44_3.v, .int .i64 x44_4, .int .i64 x44_5, x44_6.v, x44_7.v, x44_8.v, x44_9.v], sets.v] w17 (Ret [.at .sl, .at .bool] fun (x46_0 : Sl) (x46_1 : Bool) w20 =>
  cond (!x46_1) (
  Q (⟨none, 0, 0⟩) false w20) (
  LD [.int .i64, .int .i64, .sl, .sl, .int .i64, .int .i64, .sl, .sl, .sl, .sl] x w20 fun (x51_0 : Int) (x51_1 : Int) (x51_2 : Sl) (x51_3 : Sl) (x51_4 : Int) (x51_5 : Int) (x51_6 : Sl) (x51_7 : Sl) (x51_8 : Sl) (x51_9 : Sl) =>
  Calls Tryz.prog F.s_reFinder_grow #[.agg #[.int .i64 x51_0, .int .i64 x51_1, x51_2.v, x51_3.v, .int .i64 x51_4, .int .i64 x51_5, x51_6.v, x51_7.v, x51_8.v, x51_9.v], .slice none 0 0, x46_0.v] w20 (Ret [.at .sl, .at .bool] fun (x53_0 : Sl) (x53_1 : Bool) w21 =>
  Q x53_0 x53_1 w21))))

def V_s_LabelMapBetween (Q : Sl → Bool → World → Prop) (p_0 : Int) (p_1 : Int) (p_2 : Sl) (p_3 : Sl) (q_0 : Int) (q_1 : Int) (q_2 : Sl) (q_3 : Sl) (w : World) : Prop :=
  NEW T.t_i_Problem #[.int .i64 p_0, .int .i64 p_1, p_2.v, p_3.v] w fun (p_p : Addr) w1 =>
  NEW T.t_i_Problem #[.int .i64 q_0, .int .i64 q_1, q_2.v, q_3.v] w1 fun (p_q : Addr) w2 =>
  LD [.int .i64, .int .i64, .sl, .sl] p_p w2 fun (x11_0 : Int) (x11_1 : Int) (x11_2 : Sl) (x11_3 : Sl) =>
  LD [.int .i64, .int .i64, .sl, .sl] p_q w2 fun (x12_0 : Int) (x12_1 : Int) (x12_2 : Sl) (x12_3 : Sl) =>
  Calls Tryz.prog F.s_reTwo #[.agg #[.int .i64 x11_0, .int .i64 x11_1, x11_2.v, x11_3.v], .agg #[.int .i64 x12_0, .int .i64 x12_1, x12_2.v, x12_3.v]] w2 (Ret [.at .bool] fun (x13 : Bool) w3 =>
  cond (!x13) (
  Q (⟨none, 0, 0⟩) false w3) (
  ∀ w4, Ext w3 w4 → w4.heap = w3.heap → ∃ (D4 : Nat → Prop),
  ¬ D4 p_p.block ∧ (
  LD [.int .i64, .int .i64, .sl, .sl] p_p w4 fun (x15_0 : Int) (x15_1 : Int) (x15_2 : Sl) (x15_3 : Sl) =>
  ¬ D4 p_q.block ∧ (
  LD [.int .i64, .int .i64, .sl, .sl] p_q w4 fun (x16_0 : Int) (x16_1 : Int) (x16_2 : Sl) (x16_3 : Sl) =>
  ¬ D4 (p_q.add 2).block ∧ (
  LD [.sl] (p_q.add 2) w4 fun (x18 : Sl) =>
  ¬ D4 (p_q.add 0).block ∧ (
  LD [.int .i64] (p_q.add 0) w4 fun (x20 : Int) =>
  ¬ D4 (p_q.add 1).block ∧ (
  LD [.int .i64] (p_q.add 1) w4 fun (x22 : Int) =>
  ¬ D4 (p_q.add 3).block ∧ (
  LD [.sl] (p_q.add 3) w4 fun (x25 : Sl) =>
  ¬ D4 (p_q.add 0).block ∧ (
  LD [.int .i64] (p_q.add 0) w4 fun (x27 : Int) =>
  (
  Calls Tryz.prog F.s_reTable #[x18.v, .int .i64 x20, .int .i64 x22] w4 (Ret [.at .sl] fun (x23 : Sl) w5 =>
  Chg w4 w5 D4 ∧ (
  (
  Calls Tryz.prog F.s_reTable #[x25.v, .int .i64 x27, .int .i64 2] w5 (Ret [.at .sl] fun (x28 : Sl) w6 =>
  Chg w4 w6 D4 ∧ (
  NEW T.t_s_reFinder #[.int .i64 0, .int .i64 0, .slice none 0 0, .slice none 0 0, .int .i64 0, .int .i64 0, .slice none 0 0, .slice none 0 0, .slice none 0 0, .slice none 0 0] w6 fun (px : Addr) w7 =>
  Chg w4 w7 D4 ∧ (
  ST px 0 [.int .i64 x15_0, .int .i64 x15_1, x15_2.v, x15_3.v, .int .i64 x16_0, .int .i64 x16_1, x16_2.v, x16_3.v, x23.v, x28.v] w7 fun w8 =>
  Chg w4 w8 D4 ∧ (
  V_s_LabelMapBetween_k2 Q p_p p_q px w8))))) ∧ (
  NEW T.t_s_reFinder #[.int .i64 0, .int .i64 0, .slice none 0 0, .slice none 0 0, .int .i64 0, .int .i64 0, .slice none 0 0, .slice none 0 0, .slice none 0 0, .slice none 0 0] w5 fun (px_2 : Addr) w9 =>
  Chg w4 w9 D4 ∧ (
  Calls Tryz.prog F.s_reTable #[x25.v, .int .i64 x27, .int .i64 2] w9 (Ret [.at .sl] fun (x28_2 : Sl) w10 =>
  Chg w4 w10 D4 ∧ (
  Chg w4 w10 D4 ∧ (
  ST px_2 0 [.int .i64 x15_0, .int .i64 x15_1, x15_2.v, x15_3.v, .int .i64 x16_0, .int .i64 x16_1, x16_2.v, x16_3.v, x23.v, x28_2.v] w10 fun w11 =>
  Chg w4 w11 D4 ∧ (
  V_s_LabelMapBetween_k2 Q p_p p_q px_2 w11))))))))) ∧ (
  NEW T.t_s_reFinder #[.int .i64 0, .int .i64 0, .slice none 0 0, .slice none 0 0, .int .i64 0, .int .i64 0, .slice none 0 0, .slice none 0 0, .slice none 0 0, .slice none 0 0] w4 fun (px_3 : Addr) w12 =>
  Chg w4 w12 D4 ∧ (
  Calls Tryz.prog F.s_reTable #[x18.v, .int .i64 x20, .int .i64 x22] w12 (Ret [.at .sl] fun (x23_2 : Sl) w13 =>
  Chg w4 w13 D4 ∧ (
  Calls Tryz.prog F.s_reTable #[x25.v, .int .i64 x27, .int .i64 2] w13 (Ret [.at .sl] fun (x28_3 : Sl) w14 =>
  Chg w4 w14 D4 ∧ (
  Chg w4 w14 D4 ∧ (
  ST px_3 0 [.int .i64 x15_0, .int .i64 x15_1, x15_2.v, x15_3.v, .int .i64 x16_0, .int .i64 x16_1, x16_2.v, x16_3.v, x23_2.v, x28_3.v] w14 fun w15 =>
  Chg w4 w15 D4 ∧ (
  V_s_LabelMapBetween_k2 Q p_p p_q px_3 w15)))))))))))))))))

theorem C_s_LabelMapBetween {Q : Sl → Bool → World → Prop} {p_0 : Int} {p_1 : Int} {p_2 : Sl} {p_3 : Sl} {q_0 : Int} {q_1 : Int} {q_2 : Sl} {q_3 : Sl} {w : World} (h : V_s_LabelMapBetween Q p_0 p_1 p_2 p_3 q_0 q_1 q_2 q_3 w) : Calls Tryz.prog F.s_LabelMapBetween #[.agg #[.int .i64 p_0, .int .i64 p_1, p_2.v, p_3.v], .agg #[.int .i64 q_0, .int .i64 q_1, q_2.v, q_3.v]] w (Ret [.at .sl, .at .bool] Q) :=
  mkC (hint := hint) (ann := annOf [(6, ⟨[(7, .sl), (8, .int .i64)], [30, 31, 32, 33, 34, 35, 36, 37, 38, 39, 40, 41, 42]⟩)]) (args := [.agg #[.int .i64 p_0, .int .i64 p_1, p_2.v, p_3.v], .agg #[.int .i64 q_0, .int .i64 q_1, q_2.v, q_3.v]]) (rs := [.at .sl, .at .bool]) Tryz.func108 (by kernel_rfl) (by kernel_rfl) h

def V_s_RefusalOfZero (Q : Sl → Bool → World → Prop) (p_0 : Int) (p_1 : Int) (p_2 : Sl) (p_3 : Sl) (w : World) : Prop :=
  NEW T.t_i_Problem #[.int .i64 p_0, .int .i64 p_1, p_2.v, p_3.v] w fun (p_p : Addr) w1 =>
  LD [.int .i64, .int .i64, .sl, .sl] p_p w1 fun (x12_0 : Int) (x12_1 : Int) (x12_2 : Sl) (x12_3 : Sl) =>
  Calls Tryz.prog F.s_prGood #[.agg #[.int .i64 x12_0, .int .i64 x12_1, x12_2.v, x12_3.v]] w1 (Ret [.at .bool] fun (x13 : Bool) w2 =>
  cond (!x13) (
  Q (⟨none, 0, 0⟩) false w2) (
  LD [.int .i64, .int .i64, .sl, .sl] p_p w2 fun (x16_0 : Int) (x16_1 : Int) (x16_2 : Sl) (x16_3 : Sl) =>
  Calls Tryz.prog F.s_zeGood #[.agg #[.int .i64 x16_0, .int .i64 x16_1, x16_2.v, x16_3.v]] w2 (Ret [.at .sl, .at .bool] fun (x17_0 : Sl) (x17_1 : Bool) w3 =>
  cond x17_1 (
  Q (⟨none, 0, 0⟩) false w3) (
  LD [.sl] (p_p.add 2) w3 fun (x22 : Sl) =>
  ∃ (I8 : Sl → Int → World → Prop) (m8 : Sl → Int → World → Nat), I8 (⟨none, 0, 0⟩) 0 w3 ∧ ∀ (out : Sl) (x24 : Int) w4, I8 out x24 w4 → ∀ _ _ _ _ _ _ _ _ _ _ _ _ _ _ _ _ _ _ _ _ _ _ _ _ _ _ _ _ : Value,
  cond (decide ((x24 : Int) < x22.len)) (
  IX x22 x24 1 fun (px26 : Addr) =>
  LD [.sl] px26 w4 fun (x27 : Sl) =>
  LD [.int .i64, .int .i64, .sl, .sl] p_p w4 fun (x29_0 : Int) (x29_1 : Int) (x29_2 : Sl) (x29_3 : Sl) =>
  Calls Tryz.prog F.s_zeBad #[.agg #[.int .i64 x29_0, .int .i64 x29_1, x29_2.v, x29_3.v], x27.v, x27.v] w4 (Ret [.at (.int .i64), .at (.int .i64), .at .bool] fun (x32_0 : Int) (x32_1 : Int) (x32_2 : Bool) w5 =>
  ∀ w6, Ext w5 w6 → w6.heap = w5.heap → ∃ (D6 : Nat → Prop),
  IX x27 x32_0 1 fun (px39 : Addr) =>
  ¬ D6 px39.block ∧ (
  LD [.int .i64] px39 w6 fun (x40 : Int) =>
  Chg w6 w6 D6 ∧ (
  IX x27 x32_1 1 fun (px43 : Addr) =>
  Chg w6 w6 D6 ∧ (
  LD [.int .i64] px43 w6 fun (x44 : Int) =>
  Chg w6 w6 D6 ∧ (
  RUN Tryz.prog (.at .sl) (Instr.buildSlice T.t_sl_int 2 #[(0, .int .i64 x40), (1, .int .i64 x44)]) w6 fun (x45 : Sl) w7 =>
  Chg w6 w7 D6 ∧ (
  RUN Tryz.prog (.at .sl) (Instr.buildSlice T.t_sl_sl_int 1 #[(0, x45.v)]) w7 fun (x46 : Sl) w8 =>
  Chg w6 w8 D6 ∧ (
  RUN Tryz.prog (.at .sl) (bsem .append #[T.t_sl_sl_int, T.t_sl_sl_int] T.t_sl_sl_int #[out.v, x46.v]) w8 fun (x47 : Sl) w9 =>
  Chg w6 w9 D6 ∧ (
  I8 x47 (IntKind.i64.wrap (x24 + 1)) w9 ∧ m8 x47 (IntKind.i64.wrap (x24 + 1)) w9 < m8 out x24 w4))))))))) (
  Q out true w4)))))

theorem C_s_RefusalOfZero {Q : Sl → Bool → World → Prop} {p_0 : Int} {p_1 : Int} {p_2 : Sl} {p_3 : Sl} {w : World} (h : V_s_RefusalOfZero Q p_0 p_1 p_2 p_3 w) : Calls Tryz.prog F.s_RefusalOfZero #[.agg #[.int .i64 p_0, .int .i64 p_1, p_2.v, p_3.v]] w (Ret [.at .sl, .at .bool] Q) :=
  mkC (hint := hint) (ann := annOf [(8, ⟨[(6, .sl), (24, .int .i64)], [8, 9, 10, 11, 25, 26, 27, 28, 29, 30, 31, 32, 33, 34, 35, 36, 37, 38, 39, 40, 41, 42, 43, 44, 45, 46, 47, 48]⟩)]) (args := [.agg #[.int .i64 p_0, .int .i64 p_1, p_2.v, p_3.v]]) (rs := [.at .sl, .at .bool]) Tryz.func109 (by kernel_rfl) (by kernel_rfl) h

def V_i_LabelMapBetween (Q : Sl → Bool → World → Prop) (p_0 : Int) (p_1 : Int) (p_2 : Sl) (p_3 : Sl) (q_0 : Int) (q_1 : Int) (q_2 : Sl) (q_3 : Sl) (w : World) : Prop :=
  NEW T.t_i_Problem #[.int .i64 p_0, .int .i64 p_1, p_2.v, p_3.v] w fun (p_p : Addr) w1 =>
  NEW T.t_i_Problem #[.int .i64 q_0, .int .i64 q_1, q_2.v, q_3.v] w1 fun (p_q : Addr) w2 =>
  LD [.int .i64, .int .i64, .sl, .sl] p_p w2 fun (x7_0 : Int) (x7_1 : Int) (x7_2 : Sl) (x7_3 : Sl) =>
  LD [.int .i64, .int .i64, .sl, .sl] p_q w2 fun (x8_0 : Int) (x8_1 : Int) (x8_2 : Sl) (x8_3 : Sl) =>
  Calls Tryz.prog F.i_areProblems #[.agg #[.int .i64 x7_0, .int .i64 x7_1, x7_2.v, x7_3.v], .agg #[.int .i64 x8_0, .int .i64 x8_1, x8_2.v, x8_3.v]] w2 (Ret [.at .bool] fun (x9 : Bool) w3 =>
  cond (!x9) (
  Q (⟨none, 0, 0⟩) false w3) (
  LD [.int .i64, .int .i64, .sl, .sl] p_p w3 fun (x11_0 : Int) (x11_1 : Int) (x11_2 : Sl) (x11_3 : Sl) =>
  LD [.int .i64, .int .i64, .sl, .sl] p_q w3 fun (x12_0 : Int) (x12_1 : Int) (x12_2 : Sl) (x12_3 : Sl) =>
  NEW T.t_i_renamer #[.int .i64 x11_0, .int .i64 x11_1, x11_2.v, x11_3.v, .int .i64 x12_0, .int .i64 x12_1, x12_2.v, x12_3.v, .slice none 0 0] w3 fun (px14 : Addr) w4 =>
  Calls Tryz.prog F.i_firstLabelMap #[.pointer (some px14)] w4 (Ret [.at .bool] fun (x16 : Bool) w5 =>
  cond (!x16) (
  Q (⟨none, 0, 0⟩) false w5) (
  LD [.sl] (px14.add 8) w5 fun (x21 : Sl) =>
  Q x21 true w5))))

theorem C_i_LabelMapBetween {Q : Sl → Bool → World → Prop} {p_0 : Int} {p_1 : Int} {p_2 : Sl} {p_3 : Sl} {q_0 : Int} {q_1 : Int} {q_2 : Sl} {q_3 : Sl} {w : World} (h : V_i_LabelMapBetween Q p_0 p_1 p_2 p_3 q_0 q_1 q_2 q_3 w) : Calls Tryz.prog F.i_LabelMapBetween #[.agg #[.int .i64 p_0, .int .i64 p_1, p_2.v, p_3.v], .agg #[.int .i64 q_0, .int .i64 q_1, q_2.v, q_3.v]] w (Ret [.at .sl, .at .bool] Q) :=
  mkC (hint := hint) (ann := annOf []) (args := [.agg #[.int .i64 p_0, .int .i64 p_1, p_2.v, p_3.v], .agg #[.int .i64 q_0, .int .i64 q_1, q_2.v, q_3.v]]) (rs := [.at .sl, .at .bool]) Tryz.func110 (by kernel_rfl) (by kernel_rfl) h

def V_i_RefusalOfZero (Q : Sl → Bool → World → Prop) (p_0 : Int) (p_1 : Int) (p_2 : Sl) (p_3 : Sl) (w : World) : Prop :=
  NEW T.t_i_Problem #[.int .i64 p_0, .int .i64 p_1, p_2.v, p_3.v] w fun (p_p : Addr) w1 =>
  LD [.int .i64, .int .i64, .sl, .sl] p_p w1 fun (x10_0 : Int) (x10_1 : Int) (x10_2 : Sl) (x10_3 : Sl) =>
  Calls Tryz.prog F.i_IsProblem #[.agg #[.int .i64 x10_0, .int .i64 x10_1, x10_2.v, x10_3.v]] w1 (Ret [.at .bool] fun (x11 : Bool) w2 =>
  cond (!x11) (
  Q (⟨none, 0, 0⟩) false w2) (
  LD [.sl] (p_p.add 2) w2 fun (x14 : Sl) =>
  ∃ (I5 : Sl → Int → World → Prop) (m5 : Sl → Int → World → Nat), I5 (⟨none, 0, 0⟩) 0 w2 ∧ ∀ (out : Sl) (x16 : Int) w3, I5 out x16 w3 → ∀ _ _ _ _ _ _ _ _ _ _ _ _ _ _ _ _ _ _ _ _ _ _ _ _ _ _ _ _ _ _ _ _ : Value,
  cond (decide ((x16 : Int) < x14.len)) (
  IX x14 x16 1 fun (px18 : Addr) =>
  LD [.sl] px18 w3 fun (x19 : Sl) =>
  ∃ (I8 : Sl → Int → World → Prop) (m8 : Sl → Int → World → Nat), I8 out 0 w3 ∧ ∀ (out_2 : Sl) (x22 : Int) w4, I8 out_2 x22 w4 → ∀ _ _ _ _ _ _ _ _ _ _ _ _ _ _ _ _ _ _ _ _ _ _ _ _ : Value,
  cond (decide ((x22 : Int) < x19.len)) (
  ∀ w5, Ext w4 w5 → w5.heap = w4.heap →
  LD [.int .i64, .int .i64, .sl, .sl] p_p w5 fun (x26_0 : Int) (x26_1 : Int) (x26_2 : Sl) (x26_3 : Sl) =>
  SLC x19 (some x22) (some (IntKind.i64.wrap (x22 + 1))) 1 fun (x31 : Sl) =>
  Ext w5 w5 ∧ (
  SLC x19 (some x22) none 1 fun (x34 : Sl) =>
  Ext w5 w5 ∧ (
  Calls Tryz.prog F.i_badPair #[.agg #[.int .i64 x26_0, .int .i64 x26_1, x26_2.v, x26_3.v], x31.v, x34.v] w5 (Ret [.at .sl, .at .bool] fun (x35_0 : Sl) (x35_1 : Bool) w6 =>
  Ext w5 w6 ∧ (
  Ext w5 w6 ∧ (
  Ext w5 w6 ∧ (
  cond x35_1 (
  RUN Tryz.prog (.at .sl) (Instr.buildSlice T.t_sl_sl_int 1 #[(0, x35_0.v)]) w6 fun (x41 : Sl) w7 =>
  RUN Tryz.prog (.at .sl) (bsem .append #[T.t_sl_sl_int, T.t_sl_sl_int] T.t_sl_sl_int #[out_2.v, x41.v]) w7 fun (x42 : Sl) w8 =>
  I5 x42 (IntKind.i64.wrap (x16 + 1)) w8 ∧ m5 x42 (IntKind.i64.wrap (x16 + 1)) w8 < m5 out x16 w3) (
  I8 out_2 (IntKind.i64.wrap (x22 + 1)) w6 ∧ m8 out_2 (IntKind.i64.wrap (x22 + 1)) w6 < m8 out_2 x22 w4)))))))) (
  I5 out_2 (IntKind.i64.wrap (x16 + 1)) w4 ∧ m5 out_2 (IntKind.i64.wrap (x16 + 1)) w4 < m5 out x16 w3)) (
  LD [.sl] (p_p.add 2) w3 fun (x48 : Sl) =>
  cond (decide ((out.len : Int) < x48.len)) (
  Q (⟨none, 0, 0⟩) false w3) (
  Q out true w3))))

theorem C_i_RefusalOfZero {Q : Sl → Bool → World → Prop} {p_0 : Int} {p_1 : Int} {p_2 : Sl} {p_3 : Sl} {w : World} (h : V_i_RefusalOfZero Q p_0 p_1 p_2 p_3 w) : Calls Tryz.prog F.i_RefusalOfZero #[.agg #[.int .i64 p_0, .int .i64 p_1, p_2.v, p_3.v]] w (Ret [.at .sl, .at .bool] Q) :=
  mkC (hint := hint) (ann := annOf [(5, ⟨[(4, .sl), (16, .int .i64)], [6, 7, 8, 9, 17, 18, 19, 20, 21, 22, 23, 24, 25, 26, 27, 28, 29, 30, 31, 32, 33, 34, 35, 36, 37, 38, 39, 40, 41, 42, 43, 44]⟩), (8, ⟨[(4, .sl), (22, .int .i64)], [7, 8, 9, 23, 24, 25, 26, 27, 28, 29, 30, 31, 32, 33, 34, 35, 36, 37, 38, 39, 40, 41, 42, 43]⟩)]) (args := [.agg #[.int .i64 p_0, .int .i64 p_1, p_2.v, p_3.v]]) (rs := [.at .sl, .at .bool]) Tryz.func111 (by kernel_rfl) (by kernel_rfl) h

def V_s_prSameLists (Q : Bool → World → Prop) (a : Sl) (b : Sl) (w : World) : Prop :=
  cond ((a.len : Int) != b.len) (
  Q false w) (
  ∃ (I4 : Int → World → Prop) (m4 : Int → World → Nat), I4 0 w ∧ ∀ (x14 : Int) w1, I4 x14 w1 → ∀ _ _ _ _ _ _ _ _ _ _ _ _ _ _ _ : Value,
  cond (decide ((x14 : Int) < a.len)) (
  IX a x14 1 fun (px17 : Addr) =>
  LD [.sl] px17 w1 fun (x18 : Sl) =>
  IX b x14 1 fun (px22 : Addr) =>
  LD [.sl] px22 w1 fun (x23 : Sl) =>
  Calls Tryz.prog F.s_l1Same #[x18.v, x23.v] w1 (Ret [.at .bool] fun (x24 : Bool) w2 =>
  cond (!x24) (
  Q false w2) (
  I4 (IntKind.i64.wrap (x14 + 1)) w2 ∧ m4 (IntKind.i64.wrap (x14 + 1)) w2 < m4 x14 w1))) (
  Q true w1))

theorem C_s_prSameLists {Q : Bool → World → Prop} {a : Sl} {b : Sl} {w : World} (h : V_s_prSameLists Q a b w) : Calls Tryz.prog F.s_prSameLists #[a.v, b.v] w (Ret [.at .bool] Q) :=
  mkC (hint := hint) (ann := annOf [(4, ⟨[(14, .int .i64)], [4, 5, 6, 15, 16, 17, 18, 19, 20, 21, 22, 23, 24, 25, 26]⟩)]) (args := [a.v, b.v]) (rs := [.at .bool]) Tryz.func112 (by kernel_rfl) (by kernel_rfl) h

def V_i_sameProblem_1 (Q : Bool → World → Prop) (a : Sl) (b : Sl) (w : World) : Prop :=
  Calls Tryz.prog F.slices_EqualFunc_sl_sl_int_sl_sl_int_sl_int_sl_int #[a.v, b.v, .func (.func F.slices_Equal_sl_int_int) #[] #[]] w (Ret [.at .bool] fun (x7 : Bool) w1 =>
  Q x7 w1)

theorem C_i_sameProblem_1 {Q : Bool → World → Prop} {a : Sl} {b : Sl} {w : World} (h : V_i_sameProblem_1 Q a b w) : Calls Tryz.prog F.i_sameProblem_1 #[a.v, b.v] w (Ret [.at .bool] Q) :=
  mkC (hint := hint) (ann := annOf []) (args := [a.v, b.v]) (rs := [.at .bool]) Tryz.func113 (by kernel_rfl) (by kernel_rfl) h

def V_slices_EqualFunc_sl_sl_int_sl_sl_int_sl_int_sl_int (Q : Bool → World → Prop) (s1 : Sl) (s2 : Sl) (eq : Value) (w : World) : Prop :=
  cond ((s1.len : Int) != s2.len) (
  Q false w) (
  ∃ (I4 : Int → World → Prop) (m4 : Int → World → Nat), I4 0 w ∧ ∀ (x17 : Int) w1, I4 x17 w1 → ∀ _ _ _ _ _ _ _ _ _ _ _ _ _ _ _ _ _ _ : Value,
  cond (decide ((x17 : Int) < s1.len)) (
  IX s1 x17 1 fun (px20 : Addr) =>
  LD [.sl] px20 w1 fun (x21 : Sl) =>
  IX s2 x17 1 fun (px24 : Addr) =>
  LD [.sl] px24 w1 fun (x25 : Sl) =>
  CALLV Tryz.prog eq #[x21.v, x25.v] w1 (Ret [.at .bool] fun (x29 : Bool) w2 =>
  cond (!x29) (
  Q false w2) (
  I4 (IntKind.i64.wrap (x17 + 1)) w2 ∧ m4 (IntKind.i64.wrap (x17 + 1)) w2 < m4 x17 w1))) (
  Q true w1))

theorem C_slices_EqualFunc_sl_sl_int_sl_sl_int_sl_int_sl_int {Q : Bool → World → Prop} {s1 : Sl} {s2 : Sl} {eq : Value} {w : World} (h : V_slices_EqualFunc_sl_sl_int_sl_sl_int_sl_int_sl_int Q s1 s2 eq w) : Calls Tryz.prog F.slices_EqualFunc_sl_sl_int_sl_sl_int_sl_int_sl_int #[s1.v, s2.v, eq] w (Ret [.at .bool] Q) :=
  mkC (hint := hint) (ann := annOf [(4, ⟨[(17, .int .i64)], [6, 7, 8, 9, 18, 19, 20, 21, 22, 23, 24, 25, 26, 27, 28, 29, 30, 31]⟩)]) (args := [s1.v, s2.v, eq]) (rs := [.at .bool]) Tryz.func114 (by kernel_rfl) (by kernel_rfl) h

def V_slices_Equal_sl_int_int (Q : Bool → World → Prop) (s1 : Sl) (s2 : Sl) (w : World) : Prop :=
  cond ((s1.len : Int) != s2.len) (
  Q false w) (
  ∃ (I4 : Int → World → Prop) (m4 : Int → World → Nat), I4 0 w ∧ ∀ (x13 : Int) w1, I4 x13 w1 → ∀ _ _ _ _ _ _ _ _ _ _ _ _ _ _ : Value,
  cond (decide ((x13 : Int) < s1.len)) (
  IX s1 x13 1 fun (px18 : Addr) =>
  LD [.int .i64] px18 w1 fun (x19 : Int) =>
  IX s2 x13 1 fun (px22 : Addr) =>
  LD [.int .i64] px22 w1 fun (x23 : Int) =>
  ∀ w2, Ext w1 w2 →
  cond ((x19 : Int) != x23) (
  Q false w2) (
  I4 (IntKind.i64.wrap (x13 + 1)) w2 ∧ m4 (IntKind.i64.wrap (x13 + 1)) w2 < m4 x13 w1)) (
  Q true w1))

theorem C_slices_Equal_sl_int_int {Q : Bool → World → Prop} {s1 : Sl} {s2 : Sl} {w : World} (h : V_slices_Equal_sl_int_int Q s1 s2 w) : Calls Tryz.prog F.slices_Equal_sl_int_int #[s1.v, s2.v] w (Ret [.at .bool] Q) :=
  mkC (hint := hint) (ann := annOf [(4, ⟨[(13, .int .i64)], [4, 5, 14, 15, 16, 17, 18, 19, 20, 21, 22, 23, 24, 25]⟩)]) (args := [s1.v, s2.v]) (rs := [.at .bool]) Tryz.func115 (by kernel_rfl) (by kernel_rfl) h

def V_slices_Grow_sl_i_Problem_i_Problem (Q : Sl → World → Prop) (s : Sl) (n : Int) (w : World) : Prop :=
  cond (decide ((n : Int) < 0)) (
  False) (
  RUN Tryz.prog (.at (.int .i64)) (bsem .cap #[T.t_sl_i_Problem] T.t_int #[s.v]) w fun (x10 : Int) w1 =>
  cond (decide (((IntKind.i64.wrap (n - (IntKind.i64.wrap (x10 - s.len)))) : Int) > 0)) (
  RUN Tryz.prog (.at (.int .i64)) (bsem .cap #[T.t_sl_i_Problem] T.t_int #[s.v]) w1 fun (x19 : Int) w2 =>
  SLC s none (some x19) 4 fun (x20 : Sl) =>
  RUN Tryz.prog (.at .sl) (bsem .append #[T.t_sl_i_Problem, T.t_int] T.t_sl_i_Problem #[x20.v, .int .i64 (IntKind.i64.wrap (n - (IntKind.i64.wrap (x10 - s.len))))]) w2 fun (x22 : Sl) w3 =>
  SLC x22 none (some s.len) 4 fun (x25 : Sl) =>
  Q x25 w3) (
  Q s w1))

theorem C_slices_Grow_sl_i_Problem_i_Problem {Q : Sl → World → Prop} {s : Sl} {n : Int} {w : World} (h : V_slices_Grow_sl_i_Problem_i_Problem Q s n w) : Calls Tryz.prog F.slices_Grow_sl_i_Problem_i_Problem #[s.v, .int .i64 n] w (Ret [.at .sl] Q) :=
  mkC (hint := hint) (ann := annOf []) (args := [s.v, .int .i64 n]) (rs := [.at .sl]) Tryz.func116 (by kernel_rfl) (by kernel_rfl) h

def V_s_prLists_k4 (I2 : Int → World → Prop) (m2 : Int → World → Nat) (x12 : Int) (w1 : World) (size1 : Int) (Q : Bool → World → Prop) (x16 : Sl) (w4 : World) : Prop :=
  ∃ (I7 : Int → World → Prop) (m7 : Int → World → Nat), I7 1 w4 ∧ ∀ (k : Int) w5, I7 k w5 → ∀ _ _ _ _ _ _ _ _ _ _ _ _ _ _ _ _ : Value,
  cond (decide ((k : Int) < size1)) (
  IX x16 (IntKind.i64.wrap (k - 1)) 1 fun (px50 : Addr) =>
  LD [.int .i64] px50 w5 fun (x51 : Int) =>
  IX x16 k 1 fun (px54 : Addr) =>
  LD [.int .i64] px54 w5 fun (x55 : Int) =>
  ∀ w6, Ext w5 w6 →
  cond (decide ((x51 : Int) > x55)) (
  Q false w6) (
  I7 (IntKind.i64.wrap (k + 1)) w6 ∧ m7 (IntKind.i64.wrap (k + 1)) w6 < m7 k w5)) (
  I2 (IntKind.i64.wrap (x12 + 1)) w5 ∧ m2 (IntKind.i64.wrap (x12 + 1)) w5 < m2 x12 w1)

def V_s_prLists (Q : Bool → World → Prop) (l : Sl) (size1 : Int) (labels : Int) (w : World) : Prop :=
  ∃ (I2 : Int → World → Prop) (m2 : Int → World → Nat), I2 0 w ∧ ∀ (x12 : Int) w1, I2 x12 w1 → ∀ _ _ _ _ _ _ _ _ _ _ _ _ _ _ _ _ _ _ _ _ _ _ _ _ _ _ _ _ _ _ _ _ _ _ _ _ _ _ _ _ _ _ _ _ _ _ _ _ _ : Value,
  cond (decide ((x12 : Int) < l.len)) (
  IX l x12 1 fun (px15 : Addr) =>
  LD [.sl] px15 w1 fun (x16 : Sl) =>
  cond ((x16.len : Int) != size1) (
  Q false w1) (
  Calls Tryz.prog F.s_l1All #[x16.v, .int .i64 0, .int .i64 (IntKind.i64.wrap (labels - 1))] w1 (Ret [.at .bool] fun (x25 : Bool) w2 =>
  cond (!x25) (
  Q false w2) (
  cond (decide ((x12 : Int) > 0)) (
  IX l (IntKind.i64.wrap (x12 - 1)) 1 fun (px35 : Addr) =>
  LD [.sl] px35 w2 fun (x36 : Sl) =>
  Calls Tryz.prog F.s_prOrder #[x36.v, x16.v] w2 (Ret [.at (.int .i64)] fun (x38 : Int) w3 =>
  cond (decide ((x38 : Int) ≥ 0)) (
  Q false w3) (
  V_s_prLists_k4 I2 m2 x12 w1 size1 Q x16 w3))) (
  V_s_prLists_k4 I2 m2 x12 w1 size1 Q x16 w2))))) (
  Q true w1)

theorem C_s_prLists {Q : Bool → World → Prop} {l : Sl} {size1 : Int} {labels : Int} {w : World} (h : V_s_prLists Q l size1 labels w) : Calls Tryz.prog F.s_prLists #[l.v, .int .i64 size1, .int .i64 labels] w (Ret [.at .bool] Q) :=
  mkC (hint := hint) (ann := annOf [(2, ⟨[(12, .int .i64)], [6, 7, 8, 9, 13, 14, 15, 16, 17, 18, 19, 20, 21, 22, 23, 24, 25, 26, 27, 28, 29, 30, 31, 32, 33, 34, 35, 36, 37, 38, 39, 40, 41, 42, 43, 44, 45, 46, 47, 48, 49, 50, 51, 52, 53, 54, 55, 56, 57]⟩), (7, ⟨[(9, .int .i64)], [6, 42, 43, 44, 45, 46, 47, 48, 49, 50, 51, 52, 53, 54, 55, 56]⟩)]) (args := [l.v, .int .i64 size1, .int .i64 labels]) (rs := [.at .bool]) Tryz.func117 (by kernel_rfl) (by kernel_rfl) h

def V_s_CheckZeroRefusal (Q : Bool → Bool → World → Prop) (p_0 : Int) (p_1 : Int) (p_2 : Sl) (p_3 : Sl) (pairs : Sl) (w : World) : Prop :=
  NEW T.t_i_Problem #[.int .i64 p_0, .int .i64 p_1, p_2.v, p_3.v] w fun (p_p : Addr) w1 =>
  LD [.int .i64, .int .i64, .sl, .sl] p_p w1 fun (x8_0 : Int) (x8_1 : Int) (x8_2 : Sl) (x8_3 : Sl) =>
  Calls Tryz.prog F.s_prGood #[.agg #[.int .i64 x8_0, .int .i64 x8_1, x8_2.v, x8_3.v]] w1 (Ret [.at .bool] fun (x9 : Bool) w2 =>
  cond (!x9) (
  Q false false w2) (
  LD [.sl] (p_p.add 2) w2 fun (x14 : Sl) =>
  cond ((pairs.len : Int) != x14.len) (
  Q false true w2) (
  LD [.sl] (p_p.add 2) w2 fun (x18 : Sl) =>
  ∃ (I6 : Int → World → Prop) (m6 : Int → World → Nat), I6 0 w2 ∧ ∀ (x20 : Int) w3, I6 x20 w3 → ∀ _ _ _ _ _ _ _ _ _ _ _ _ _ _ _ _ _ _ : Value,
  cond (decide ((x20 : Int) < x18.len)) (
  IX x18 x20 1 fun (px23 : Addr) =>
  LD [.sl] px23 w3 fun (x24 : Sl) =>
  LD [.int .i64, .int .i64, .sl, .sl] p_p w3 fun (x25_0 : Int) (x25_1 : Int) (x25_2 : Sl) (x25_3 : Sl) =>
  IX pairs x20 1 fun (px28 : Addr) =>
  LD [.sl] px28 w3 fun (x29 : Sl) =>
  QCALL Tryz.prog F.s_zeTwo #[.agg #[.int .i64 x25_0, .int .i64 x25_1, x25_2.v, x25_3.v], x29.v, x24.v, x24.v] w3 [.at .bool] fun (x32 : Bool) =>
  ∀ w4, Ext w3 w4 →
  cond (!x32) (
  Q false true w4) (
  I6 (IntKind.i64.wrap (x20 + 1)) w4 ∧ m6 (IntKind.i64.wrap (x20 + 1)) w4 < m6 x20 w3)) (
  Q true true w3))))

theorem C_s_CheckZeroRefusal {Q : Bool → Bool → World → Prop} {p_0 : Int} {p_1 : Int} {p_2 : Sl} {p_3 : Sl} {pairs : Sl} {w : World} (h : V_s_CheckZeroRefusal Q p_0 p_1 p_2 p_3 pairs w) : Calls Tryz.prog F.s_CheckZeroRefusal #[.agg #[.int .i64 p_0, .int .i64 p_1, p_2.v, p_3.v], pairs.v] w (Ret [.at .bool, .at .bool] Q) :=
  mkC (hint := hint) (ann := annOf [(6, ⟨[(20, .int .i64)], [4, 5, 6, 7, 21, 22, 23, 24, 25, 26, 27, 28, 29, 30, 31, 32, 33, 34]⟩)]) (args := [.agg #[.int .i64 p_0, .int .i64 p_1, p_2.v, p_3.v], pairs.v]) (rs := [.at .bool, .at .bool]) Tryz.func118 (by kernel_rfl) (by kernel_rfl) h

def V_s_reMap (Q : Bool → World → Prop) (p_0 : Int) (p_1 : Int) (p_2 : Sl) (p_3 : Sl) (q_0 : Int) (q_1 : Int) (q_2 : Sl) (q_3 : Sl) (f : Sl) (w : World) : Prop :=
  NEW T.t_i_Problem #[.int .i64 p_0, .int .i64 p_1, p_2.v, p_3.v] w fun (p_p : Addr) w1 =>
  NEW T.t_i_Problem #[.int .i64 q_0, .int .i64 q_1, q_2.v, q_3.v] w1 fun (p_q : Addr) w2 =>
  LD [.int .i64] (p_p.add 0) w2 fun (x10 : Int) =>
  cond ((f.len : Int) == x10) (
  LD [.int .i64] (p_q.add 0) w2 fun (x15 : Int) =>
  Calls Tryz.prog F.s_l1All #[f.v, .int .i64 0, .int .i64 (IntKind.i64.wrap (x15 - 1))] w2 (Ret [.at .bool] fun (x17 : Bool) w3 =>
  cond x17 (
  LD [.sl] (p_p.add 2) w3 fun (x21 : Sl) =>
  LD [.sl] (p_q.add 2) w3 fun (x23 : Sl) =>
  Calls Tryz.prog F.s_reInto #[x21.v, x23.v, f.v] w3 (Ret [.at .bool] fun (x25 : Bool) w4 =>
  cond x25 (
  LD [.sl] (p_p.add 3) w4 fun (x29 : Sl) =>
  LD [.sl] (p_q.add 3) w4 fun (x31 : Sl) =>
  Calls Tryz.prog F.s_reInto #[x29.v, x31.v, f.v] w4 (Ret [.at .bool] fun (x33 : Bool) w5 =>
  Q x33 w5)) (
  Q false w4))) (
  Q false w3))) (
  Q false w2)

theorem C_s_reMap {Q : Bool → World → Prop} {p_0 : Int} {p_1 : Int} {p_2 : Sl} {p_3 : Sl} {q_0 : Int} {q_1 : Int} {q_2 : Sl} {q_3 : Sl} {f : Sl} {w : World} (h : V_s_reMap Q p_0 p_1 p_2 p_3 q_0 q_1 q_2 q_3 f w) : Calls Tryz.prog F.s_reMap #[.agg #[.int .i64 p_0, .int .i64 p_1, p_2.v, p_3.v], .agg #[.int .i64 q_0, .int .i64 q_1, q_2.v, q_3.v], f.v] w (Ret [.at .bool] Q) :=
  mkC (hint := hint) (ann := annOf []) (args := [.agg #[.int .i64 p_0, .int .i64 p_1, p_2.v, p_3.v], .agg #[.int .i64 q_0, .int .i64 q_1, q_2.v, q_3.v], f.v]) (rs := [.at .bool]) Tryz.func119 (by kernel_rfl) (by kernel_rfl) h

def V_slices_IndexFunc_sl_i_Problem_i_Problem (Q : Int → World → Prop) (s : Sl) (f : Value) (w : World) : Prop :=
  ∃ (I2 : Int → World → Prop) (m2 : Int → World → Nat), I2 0 w ∧ ∀ (x8 : Int) w1, I2 x8 w1 → ∀ _ _ _ _ _ _ _ _ _ _ _ _ : Value,
  cond (decide ((x8 : Int) < s.len)) (
  IX s x8 4 fun (px14 : Addr) =>
  LD [.int .i64, .int .i64, .sl, .sl] px14 w1 fun (x15_0 : Int) (x15_1 : Int) (x15_2 : Sl) (x15_3 : Sl) =>
  CALLV Tryz.prog f #[.agg #[.int .i64 x15_0, .int .i64 x15_1, x15_2.v, x15_3.v]] w1 (Ret [.at .bool] fun (x16 : Bool) w2 =>
  cond x16 (
  Q x8 w2) (
  I2 (IntKind.i64.wrap (x8 + 1)) w2 ∧ m2 (IntKind.i64.wrap (x8 + 1)) w2 < m2 x8 w1))) (
  Q (-1) w1)

theorem C_slices_IndexFunc_sl_i_Problem_i_Problem {Q : Int → World → Prop} {s : Sl} {f : Value} {w : World} (h : V_slices_IndexFunc_sl_i_Problem_i_Problem Q s f w) : Calls Tryz.prog F.slices_IndexFunc_sl_i_Problem_i_Problem #[s.v, f] w (Ret [.at (.int .i64)] Q) :=
  mkC (hint := hint) (ann := annOf [(2, ⟨[(8, .int .i64)], [4, 5, 9, 10, 11, 12, 13, 14, 15, 16, 17, 18]⟩)]) (args := [s.v, f]) (rs := [.at (.int .i64)]) Tryz.func120 (by kernel_rfl) (by kernel_rfl) h

def V_i_configurationsOk (Q : Bool → World → Prop) (list : Sl) (size1 : Int) (labels : Int) (w : World) : Prop :=
  ∃ (I2 : Int → World → Prop) (m2 : Int → World → Nat), I2 0 w ∧ ∀ (x11 : Int) w1, I2 x11 w1 → ∀ _ _ _ _ _ _ _ _ _ _ _ _ _ _ _ _ _ _ _ _ _ _ _ _ _ _ _ _ _ _ _ _ _ _ _ _ _ _ : Value,
  cond (decide ((x11 : Int) < list.len)) (
  IX list x11 1 fun (px14 : Addr) =>
  LD [.sl] px14 w1 fun (x15 : Sl) =>
  cond ((x15.len : Int) != size1) (
  Q false w1) (
  Calls Tryz.prog F.slices_IsSorted_sl_int_int #[x15.v] w1 (Ret [.at .bool] fun (x22 : Bool) w2 =>
  cond (!x22) (
  Q false w2) (
  Calls Tryz.prog F.i_allWithin #[x15.v, .int .i64 0, .int .i64 (IntKind.i64.wrap (labels - 1))] w2 (Ret [.at .bool] fun (x29 : Bool) w3 =>
  cond (!x29) (
  Q false w3) (
  cond (decide ((x11 : Int) > 0)) (
  IX list (IntKind.i64.wrap (x11 - 1)) 1 fun (px39 : Addr) =>
  LD [.sl] px39 w3 fun (x40 : Sl) =>
  Calls Tryz.prog F.slices_Compare_sl_int_int #[x40.v, x15.v] w3 (Ret [.at (.int .i64)] fun (x42 : Int) w4 =>
  cond (decide ((x42 : Int) ≥ 0)) (
  Q false w4) (
  I2 (IntKind.i64.wrap (x11 + 1)) w4 ∧ m2 (IntKind.i64.wrap (x11 + 1)) w4 < m2 x11 w1))) (
  I2 (IntKind.i64.wrap (x11 + 1)) w3 ∧ m2 (IntKind.i64.wrap (x11 + 1)) w3 < m2 x11 w1))))))) (
  Q true w1)

theorem C_i_configurationsOk {Q : Bool → World → Prop} {list : Sl} {size1 : Int} {labels : Int} {w : World} (h : V_i_configurationsOk Q list size1 labels w) : Calls Tryz.prog F.i_configurationsOk #[list.v, .int .i64 size1, .int .i64 labels] w (Ret [.at .bool] Q) :=
  mkC (hint := hint) (ann := annOf [(2, ⟨[(11, .int .i64)], [6, 7, 8, 12, 13, 14, 15, 16, 17, 18, 19, 20, 21, 22, 23, 24, 25, 26, 27, 28, 29, 30, 31, 32, 33, 34, 35, 36, 37, 38, 39, 40, 41, 42, 43, 44, 45, 46]⟩)]) (args := [list.v, .int .i64 size1, .int .i64 labels]) (rs := [.at .bool]) Tryz.func121 (by kernel_rfl) (by kernel_rfl) h

def V_i_edgeStep (Q : Int → Int → Sl → Sl → Sl → Bool → World → Prop) (p_0 : Int) (p_1 : Int) (p_2 : Sl) (p_3 : Sl) (w : World) : Prop :=
  NEW T.t_i_Problem #[.int .i64 p_0, .int .i64 p_1, p_2.v, p_3.v] w fun (p_p : Addr) w1 =>
  NEW T.t_i_Problem #[.int .i64 0, .int .i64 0, .slice none 0 0, .slice none 0 0] w1 fun (px2 : Addr) w2 =>
  ∃ (I3 : Sl → Int → World → Prop) (m3 : Sl → Int → World → Nat), I3 (⟨none, 0, 0⟩) 1 w2 ∧ ∀ (full : Sl) (set1 : Int) w3, I3 full set1 w3 → ∀ _ _ _ _ _ _ _ _ _ _ _ _ _ _ _ _ _ _ _ _ _ _ _ _ _ _ : Value,
  LD [.int .i64] (p_p.add 0) w3 fun (x13 : Int) =>
  (0 : Int) ≤ x13 ∧ (
  cond (decide ((set1 : Int) < (shlI .i64 1 x13))) (
  LD [.int .i64, .int .i64, .sl, .sl] p_p w3 fun (x18_0 : Int) (x18_1 : Int) (x18_2 : Sl) (x18_3 : Sl) =>
  Calls Tryz.prog F.i_beside #[.agg #[.int .i64 x18_0, .int .i64 x18_1, x18_2.v, x18_3.v], .int .i64 set1] w3 (Ret [.at (.int .i64)] fun (x20 : Int) w4 =>
  cond ((x20 : Int) != 0) (
  LD [.int .i64, .int .i64, .sl, .sl] p_p w4 fun (x24_0 : Int) (x24_1 : Int) (x24_2 : Sl) (x24_3 : Sl) =>
  Calls Tryz.prog F.i_beside #[.agg #[.int .i64 x24_0, .int .i64 x24_1, x24_2.v, x24_3.v], .int .i64 x20] w4 (Ret [.at (.int .i64)] fun (x26 : Int) w5 =>
  cond ((x26 : Int) == set1) (
  RUN Tryz.prog (.at .sl) (Instr.buildSlice T.t_sl_int 2 #[(0, .int .i64 set1), (1, .int .i64 x20)]) w5 fun (x33 : Sl) w6 =>
  RUN Tryz.prog (.at .sl) (Instr.buildSlice T.t_sl_sl_int 1 #[(0, x33.v)]) w6 fun (x34 : Sl) w7 =>
  RUN Tryz.prog (.at .sl) (bsem .append #[T.t_sl_sl_int, T.t_sl_sl_int] T.t_sl_sl_int #[full.v, x34.v]) w7 fun (x35 : Sl) w8 =>
  I3 x35 (IntKind.i64.wrap (set1 + 1)) w8 ∧ m3 x35 (IntKind.i64.wrap (set1 + 1)) w8 < m3 full set1 w3) (
  I3 full (IntKind.i64.wrap (set1 + 1)) w5 ∧ m3 full (IntKind.i64.wrap (set1 + 1)) w5 < m3 full set1 w3))) (
  I3 full (IntKind.i64.wrap (set1 + 1)) w4 ∧ m3 full (IntKind.i64.wrap (set1 + 1)) w4 < m3 full set1 w3))) (
  Calls Tryz.prog F.i_newLabels #[full.v] w3 (Ret [.at .sl, .at .sl] fun (x38_0 : Sl) (x38_1 : Sl) w9 =>
  NEW T.t_sl_int #[.slice none 0 0] w9 fun (p_sets : Addr) w10 =>
  ST p_sets 0 [x38_0.v] w10 fun w11 =>
  LD [.sl] p_sets w11 fun (x41 : Sl) =>
  Calls Tryz.prog F.i_within #[.int .i64 x41.len, .int .i64 1, .int .i64 8] w11 (Ret [.at .bool] fun (x43 : Bool) w12 =>
  cond (!x43) (
  ST px2 0 [.int .i64 0, .int .i64 0, .slice none 0 0, .slice none 0 0] w12 fun w13 =>
  LD [.int .i64, .int .i64, .sl, .sl] px2 w13 fun (r0_0 : Int) (r0_1 : Int) (r0_2 : Sl) (r0_3 : Sl) =>
  Q r0_0 r0_1 r0_2 r0_3 (⟨none, 0, 0⟩) false w13) (
  LD [.sl] p_sets w12 fun (x46 : Sl) =>
  LD [.int .i64] (p_p.add 1) w12 fun (x49 : Int) =>
  Calls Tryz.prog F.i_allowedBy #[.int .i64 x46.len, .int .i64 x49, .func (.func F.i_edgeStep_1) #[] #[.pointer (some p_p), .pointer (some p_sets)]] w12 (Ret [.at .sl] fun (x51 : Sl) w14 =>
  ∀ w15, Ext w14 w15 → w15.heap = w14.heap → ∃ (D15 : Nat → Prop),
  ¬ D15 p_sets.block ∧ (
  LD [.sl] p_sets w15 fun (x52 : Sl) =>
  ¬ D15 (p_p.add 1).block ∧ (
  LD [.int .i64] (p_p.add 1) w15 fun (x55 : Int) =>
  ¬ D15 p_sets.block ∧ (
  LD [.sl] p_sets w15 fun (x59 : Sl) =>
  ST px2 0 [.int .i64 x52.len, .int .i64 x55, x51.v, x38_1.v] w15 fun w16 =>
  Chg w15 w16 D15 ∧ (
  LD [.int .i64, .int .i64, .sl, .sl] px2 w16 fun (r0_0_2 : Int) (r0_1_2 : Int) (r0_2_2 : Sl) (r0_3_2 : Sl) =>
  Q r0_0_2 r0_1_2 r0_2_2 r0_3_2 x59 true w16))))))))))

theorem C_i_edgeStep {Q : Int → Int → Sl → Sl → Sl → Bool → World → Prop} {p_0 : Int} {p_1 : Int} {p_2 : Sl} {p_3 : Sl} {w : World} (h : V_i_edgeStep Q p_0 p_1 p_2 p_3 w) : Calls Tryz.prog F.i_edgeStep #[.agg #[.int .i64 p_0, .int .i64 p_1, p_2.v, p_3.v]] w (Ret [.agg [.int .i64, .int .i64, .sl, .sl], .at .sl, .at .bool] Q) :=
  mkC (hint := hint) (ann := annOf [(3, ⟨[(5, .sl), (6, .int .i64)], [7, 11, 12, 13, 14, 15, 16, 17, 18, 19, 20, 21, 22, 23, 24, 25, 26, 27, 28, 29, 30, 31, 32, 33, 34, 35]⟩)]) (args := [.agg #[.int .i64 p_0, .int .i64 p_1, p_2.v, p_3.v]]) (rs := [.agg [.int .i64, .int .i64, .sl, .sl], .at .sl, .at .bool]) Tryz.func122 (by kernel_rfl) (by kernel_rfl) h

def V_i_nodeStep_k1 (Q : Int → Int → Sl → Sl → Sl → Bool → World → Prop) (p_p : Addr) (px2 : Addr) (w4 : World) : Prop :=
  LD [.int .i64, .int .i64, .sl, .sl] p_p w4 fun (x18_0 : Int) (x18_1 : Int) (x18_2 : Sl) (x18_3 : Sl) =>
  Calls Tryz.prog F.i_newNodeSets #[.agg #[.int .i64 x18_0, .int .i64 x18_1, x18_2.v, x18_3.v]] w4 (Ret [.at .ptr] fun (x19 : Addr) w5 =>
  Calls Tryz.prog F.ptr_i_nodeSets_fullLists #[.pointer (some x19)] w5 (Ret [.at .sl] fun (x20 : Sl) w6 =>
  Calls Tryz.prog F.i_newLabels #[x20.v] w6 (Ret [.at .sl, .at .sl] fun (x21_0 : Sl) (x21_1 : Sl) w7 =>
  NEW T.t_sl_int #[.slice none 0 0] w7 fun (p_sets : Addr) w8 =>
  ST p_sets 0 [x21_0.v] w8 fun w9 =>
  LD [.sl] p_sets w9 fun (x24 : Sl) =>
  Calls Tryz.prog F.i_within #[.int .i64 x24.len, .int .i64 1, .int .i64 8] w9 (Ret [.at .bool] fun (x26 : Bool) w10 =>
  cond (!x26) (
  ST px2 0 [.int .i64 0, .int .i64 0, .slice none 0 0, .slice none 0 0] w10 fun w11 =>
  LD [.int .i64, .int .i64, .sl, .sl] px2 w11 fun (r0_0_2 : Int) (r0_1_2 : Int) (r0_2_2 : Sl) (r0_3_2 : Sl) =>
  Q r0_0_2 r0_1_2 r0_2_2 r0_3_2 (⟨none, 0, 0⟩) false w11) (
  LD [.sl] p_sets w10 fun (x29 : Sl) =>
  Calls Tryz.prog F.i_allowedBy #[.int .i64 x29.len, .int .i64 2, .func (.func F.i_nodeStep_1) #[] #[.pointer (some p_p), .pointer (some p_sets)]] w10 (Ret [.at .sl] fun (x32 : Sl) w12 =>
  ∀ w13, Ext w12 w13 → w13.heap = w12.heap → ∃ (D13 : Nat → Prop),
  ¬ D13 p_sets.block ∧ (
  LD [.sl] p_sets w13 fun (x33 : Sl) =>
  ¬ D13 (p_p.add 1).block ∧ (
  LD [.int .i64] (p_p.add 1) w13 fun (x36 : Int) =>
  ¬ D13 p_sets.block ∧ (
  LD [.sl] p_sets w13 fun (x40 : Sl) =>
  ST px2 0 [.int .i64 x33.len, .int .i64 x36, x21_1.v, x32.v] w13 fun w14 =>
  Chg w13 w14 D13 ∧ (
  LD [.int .i64, .int .i64, .sl, .sl] px2 w14 fun (r0_0_3 : Int) (r0_1_3 : Int) (r0_2_3 : Sl) (r0_3_3 : Sl) =>
  Q r0_0_3 r0_1_3 r0_2_3 r0_3_3 x40 true w14))))))))))

def V_i_nodeStep (Q : Int → Int → Sl → Sl → Sl → Bool → World → Prop) (p_0 : Int) (p_1 : Int) (p_2 : Sl) (p_3 : Sl) (w : World) : Prop :=
  NEW T.t_i_Problem #[.int .i64 p_0, .int .i64 p_1, p_2.v, p_3.v] w fun (p_p : Addr) w1 =>
  NEW T.t_i_Problem #[.int .i64 0, .int .i64 0, .slice none 0 0, .slice none 0 0] w1 fun (px2 : Addr) w2 =>
  LD [.int .i64] (p_p.add 1) w2 fun (x9 : Int) =>
  cond ((x9 : Int) == 4) (
  LD [.int .i64] (p_p.add 0) w2 fun (x13 : Int) =>
  cond (decide ((x13 : Int) > 6)) (
  ST px2 0 [.int .i64 0, .int .i64 0, .slice none 0 0, .slice none 0 0] w2 fun w3 =>
  LD [.int .i64, .int .i64, .sl, .sl] px2 w3 fun (r0_0 : Int) (r0_1 : Int) (r0_2 : Sl) (r0_3 : Sl) =>
  Q r0_0 r0_1 r0_2 r0_3 (⟨none, 0, 0⟩) false w3) (
  V_i_nodeStep_k1 Q p_p px2 w2)) (
  V_i_nodeStep_k1 Q p_p px2 w2)

theorem C_i_nodeStep {Q : Int → Int → Sl → Sl → Sl → Bool → World → Prop} {p_0 : Int} {p_1 : Int} {p_2 : Sl} {p_3 : Sl} {w : World} (h : V_i_nodeStep Q p_0 p_1 p_2 p_3 w) : Calls Tryz.prog F.i_nodeStep #[.agg #[.int .i64 p_0, .int .i64 p_1, p_2.v, p_3.v]] w (Ret [.agg [.int .i64, .int .i64, .sl, .sl], .at .sl, .at .bool] Q) :=
  mkC (hint := hint) (ann := annOf []) (args := [.agg #[.int .i64 p_0, .int .i64 p_1, p_2.v, p_3.v]]) (rs := [.agg [.int .i64, .int .i64, .sl, .sl], .at .sl, .at .bool]) Tryz.func123 (by kernel_rfl) (by kernel_rfl) h

def V_i_Problem_hasLabels (Q : Bool → World → Prop) (p_0 : Int) (p_1 : Int) (p_2 : Sl) (p_3 : Sl) (labels : Sl) (w : World) : Prop :=
  NEW T.t_i_Problem #[.int .i64 p_0, .int .i64 p_1, p_2.v, p_3.v] w fun (p_p : Addr) w1 =>
  LD [.int .i64] (p_p.add 0) w1 fun (x7 : Int) =>
  Calls Tryz.prog F.i_allWithin #[labels.v, .int .i64 0, .int .i64 (IntKind.i64.wrap (x7 - 1))] w1 (Ret [.at .bool] fun (x9 : Bool) w2 =>
  Q x9 w2)

theorem C_i_Problem_hasLabels {Q : Bool → World → Prop} {p_0 : Int} {p_1 : Int} {p_2 : Sl} {p_3 : Sl} {labels : Sl} {w : World} (h : V_i_Problem_hasLabels Q p_0 p_1 p_2 p_3 labels w) : Calls Tryz.prog F.i_Problem_hasLabels #[.agg #[.int .i64 p_0, .int .i64 p_1, p_2.v, p_3.v], labels.v] w (Ret [.at .bool] Q) :=
  mkC (hint := hint) (ann := annOf []) (args := [.agg #[.int .i64 p_0, .int .i64 p_1, p_2.v, p_3.v], labels.v]) (rs := [.at .bool]) Tryz.func124 (by kernel_rfl) (by kernel_rfl) h

def V_i_Problem_node (Q : Bool → World → Prop) (p_0 : Int) (p_1 : Int) (p_2 : Sl) (p_3 : Sl) (labels : Sl) (w : World) : Prop :=
  NEW T.t_i_Problem #[.int .i64 p_0, .int .i64 p_1, p_2.v, p_3.v] w fun (p_p : Addr) w1 =>
  LD [.sl] (p_p.add 2) w1 fun (x6 : Sl) =>
  Calls Tryz.prog F.i_hasConfiguration #[x6.v, labels.v] w1 (Ret [.at .bool] fun (x8 : Bool) w2 =>
  Q x8 w2)

theorem C_i_Problem_node {Q : Bool → World → Prop} {p_0 : Int} {p_1 : Int} {p_2 : Sl} {p_3 : Sl} {labels : Sl} {w : World} (h : V_i_Problem_node Q p_0 p_1 p_2 p_3 labels w) : Calls Tryz.prog F.i_Problem_node #[.agg #[.int .i64 p_0, .int .i64 p_1, p_2.v, p_3.v], labels.v] w (Ret [.at .bool] Q) :=
  mkC (hint := hint) (ann := annOf []) (args := [.agg #[.int .i64 p_0, .int .i64 p_1, p_2.v, p_3.v], labels.v]) (rs := [.at .bool]) Tryz.func125 (by kernel_rfl) (by kernel_rfl) h

def V_i_images (Q : Sl → World → Prop) (labels : Sl) (f : Sl) (w : World) : Prop :=
  ∃ (I3 : Sl → Int → World → Prop) (m3 : Sl → Int → World → Nat), I3 (⟨none, 0, 0⟩) 0 w ∧ ∀ (out : Sl) (x10 : Int) w1, I3 out x10 w1 → ∀ _ _ _ _ _ _ _ _ _ _ _ _ : Value,
  cond (decide ((x10 : Int) < labels.len)) (
  IX labels x10 1 fun (px12 : Addr) =>
  LD [.int .i64] px12 w1 fun (x13 : Int) =>
  IX f x13 1 fun (px17 : Addr) =>
  LD [.int .i64] px17 w1 fun (x18 : Int) =>
  RUN Tryz.prog (.at .sl) (Instr.buildSlice T.t_sl_int 1 #[(0, .int .i64 x18)]) w1 fun (x19 : Sl) w2 =>
  RUN Tryz.prog (.at .sl) (bsem .append #[T.t_sl_int, T.t_sl_int] T.t_sl_int #[out.v, x19.v]) w2 fun (x20 : Sl) w3 =>
  I3 x20 (IntKind.i64.wrap (x10 + 1)) w3 ∧ m3 x20 (IntKind.i64.wrap (x10 + 1)) w3 < m3 out x10 w1) (
  Q out w1)

theorem C_i_images {Q : Sl → World → Prop} {labels : Sl} {f : Sl} {w : World} (h : V_i_images Q labels f w) : Calls Tryz.prog F.i_images #[labels.v, f.v] w (Ret [.at .sl] Q) :=
  mkC (hint := hint) (ann := annOf [(3, ⟨[(5, .sl), (10, .int .i64)], [7, 11, 12, 13, 14, 15, 16, 17, 18, 19, 20, 21]⟩)]) (args := [labels.v, f.v]) (rs := [.at .sl]) Tryz.func126 (by kernel_rfl) (by kernel_rfl) h

def V_slices_ContainsFunc_sl_sl_int_sl_int (Q : Bool → World → Prop) (s : Sl) (f : Value) (w : World) : Prop :=
  Calls Tryz.prog F.slices_IndexFunc_sl_sl_int_sl_int #[s.v, f] w (Ret [.at (.int .i64)] fun (x7 : Int) w1 =>
  Q (decide ((x7 : Int) ≥ 0)) w1)

theorem C_slices_ContainsFunc_sl_sl_int_sl_int {Q : Bool → World → Prop} {s : Sl} {f : Value} {w : World} (h : V_slices_ContainsFunc_sl_sl_int_sl_int Q s f w) : Calls Tryz.prog F.slices_ContainsFunc_sl_sl_int_sl_int #[s.v, f] w (Ret [.at .bool] Q) :=
  mkC (hint := hint) (ann := annOf []) (args := [s.v, f]) (rs := [.at .bool]) Tryz.func127 (by kernel_rfl) (by kernel_rfl) h

def V_i_isLabelMap_1 (Q : Bool → World → Prop) (c : Sl) (cap0 : Addr) (cap1 : Addr) (w : World) : Prop :=
  LD [.int .i64, .int .i64, .sl, .sl] cap0 w fun (x5_0 : Int) (x5_1 : Int) (x5_2 : Sl) (x5_3 : Sl) =>
  LD [.sl] cap1 w fun (x6 : Sl) =>
  IX c 0 1 fun (px8 : Addr) =>
  LD [.int .i64] px8 w fun (x9 : Int) =>
  IX x6 x9 1 fun (px10 : Addr) =>
  LD [.int .i64] px10 w fun (x11 : Int) =>
  LD [.sl] cap1 w fun (x12 : Sl) =>
  IX c 1 1 fun (px14 : Addr) =>
  LD [.int .i64] px14 w fun (x15 : Int) =>
  IX x12 x15 1 fun (px16 : Addr) =>
  LD [.int .i64] px16 w fun (x17 : Int) =>
  QCALL Tryz.prog F.i_Problem_edge #[.agg #[.int .i64 x5_0, .int .i64 x5_1, x5_2.v, x5_3.v], .int .i64 x11, .int .i64 x17] w [.at .bool] fun (x18 : Bool) =>
  ∀ w1, Ext w w1 →
  Q (!x18) w1

theorem C_i_isLabelMap_1 {Q : Bool → World → Prop} {c : Sl} {cap0 : Addr} {cap1 : Addr} {w : World} (h : V_i_isLabelMap_1 Q c cap0 cap1 w) : Calls Tryz.prog F.i_isLabelMap_1 #[c.v, .pointer (some cap0), .pointer (some cap1)] w (Ret [.at .bool] Q) :=
  mkC (hint := hint) (ann := annOf []) (args := [c.v, .pointer (some cap0), .pointer (some cap1)]) (rs := [.at .bool]) Tryz.func128 (by kernel_rfl) (by kernel_rfl) h

def V_i_Problem_edge (Q : Bool → World → Prop) (p_0 : Int) (p_1 : Int) (p_2 : Sl) (p_3 : Sl) (a : Int) (b : Int) (w : World) : Prop :=
  NEW T.t_i_Problem #[.int .i64 p_0, .int .i64 p_1, p_2.v, p_3.v] w fun (p_p : Addr) w1 =>
  LD [.sl] (p_p.add 3) w1 fun (x8 : Sl) =>
  RUN Tryz.prog (.at .sl) (Instr.buildSlice T.t_sl_int 2 #[(0, .int .i64 a), (1, .int .i64 b)]) w1 fun (x11 : Sl) w2 =>
  Calls Tryz.prog F.i_hasConfiguration #[x8.v, x11.v] w2 (Ret [.at .bool] fun (x12 : Bool) w3 =>
  Q x12 w3)

theorem C_i_Problem_edge {Q : Bool → World → Prop} {p_0 : Int} {p_1 : Int} {p_2 : Sl} {p_3 : Sl} {a : Int} {b : Int} {w : World} (h : V_i_Problem_edge Q p_0 p_1 p_2 p_3 a b w) : Calls Tryz.prog F.i_Problem_edge #[.agg #[.int .i64 p_0, .int .i64 p_1, p_2.v, p_3.v], .int .i64 a, .int .i64 b] w (Ret [.at .bool] Q) :=
  mkC (hint := hint) (ann := annOf []) (args := [.agg #[.int .i64 p_0, .int .i64 p_1, p_2.v, p_3.v], .int .i64 a, .int .i64 b]) (rs := [.at .bool]) Tryz.func129 (by kernel_rfl) (by kernel_rfl) h

def V_slices_Contains_sl_int_int (Q : Bool → World → Prop) (s : Sl) (v : Int) (w : World) : Prop :=
  Calls Tryz.prog F.slices_Index_sl_int_int #[s.v, .int .i64 v] w (Ret [.at (.int .i64)] fun (x7 : Int) w1 =>
  Q (decide ((x7 : Int) ≥ 0)) w1)

theorem C_slices_Contains_sl_int_int {Q : Bool → World → Prop} {s : Sl} {v : Int} {w : World} (h : V_slices_Contains_sl_int_int Q s v w) : Calls Tryz.prog F.slices_Contains_sl_int_int #[s.v, .int .i64 v] w (Ret [.at .bool] Q) :=
  mkC (hint := hint) (ann := annOf []) (args := [s.v, .int .i64 v]) (rs := [.at .bool]) Tryz.func130 (by kernel_rfl) (by kernel_rfl) h

def V_s_elNode_k5 (I6 : Sl → Int → World → Prop) (m6 : Sl → Int → World → Nat) (x6 : Sl) (x33 : Int) (w10 : World) (x6_2 : Sl) (w21 : World) : Prop :=
  I6 x6_2 (IntKind.i64.wrap (x33 + 1)) w21 ∧ m6 x6_2 (IntKind.i64.wrap (x33 + 1)) w21 < m6 x6 x33 w10

def V_s_elNode_k9 (I6 : Sl → Int → World → Prop) (m6 : Sl → Int → World → Nat) (x33 : Int) (w10 : World) (px5 : Addr) (x6 : Sl) (x9 : Sl) (x51 : Int) (w15 : World) : Prop :=
  RUN Tryz.prog (.at .sl) (Instr.buildSlice T.t_sl_int 1 #[(0, .int .i64 x51)]) w15 fun (x71 : Sl) w16 =>
  RUN Tryz.prog (.at .sl) (bsem .append #[T.t_sl_int, T.t_sl_int] T.t_sl_int #[x9.v, x71.v]) w16 fun (x72 : Sl) w17 =>
  LD [.int .i64, .int .i64, .sl, .sl, .sl] px5 w17 fun (x73_0 : Int) (x73_1 : Int) (x73_2 : Sl) (x73_3 : Sl) (x73_4 : Sl) =>
  Calls Tryz.prog F.s_elTable_full #[.agg #[.int .i64 x73_0, .int .i64 x73_1, x73_2.v, x73_3.v, x73_4.v], x72.v] w17 (Ret [.at .bool] fun (x75 : Bool) w18 =>
  cond x75 (
  RUN Tryz.prog (.at .sl) (Instr.buildSlice T.t_sl_sl_int 1 #[(0, x72.v)]) w18 fun (x78 : Sl) w19 =>
  RUN Tryz.prog (.at .sl) (bsem .append #[T.t_sl_sl_int, T.t_sl_sl_int] T.t_sl_sl_int #[x6.v, x78.v]) w19 fun (x79 : Sl) w20 =>
  V_s_elNode_k5 I6 m6 x6 x33 w10 x79 w20) (
  V_s_elNode_k5 I6 m6 x6 x33 w10 x6 w18))

def V_s_elNode_k1 (Q : Int → Int → Sl → Sl → Sl → Bool → World → Prop) (px1 : Addr) (px2 : Addr) (w4 : World) : Prop :=
  LD [.int .i64, .int .i64, .sl, .sl] px1 w4 fun (x22_0 : Int) (x22_1 : Int) (x22_2 : Sl) (x22_3 : Sl) =>
  Calls Tryz.prog F.s_elTabled #[.agg #[.int .i64 x22_0, .int .i64 x22_1, x22_2.v, x22_3.v]] w4 (Ret [.agg [.int .i64, .int .i64, .sl, .sl, .sl]] fun (x23_0 : Int) (x23_1 : Int) (x23_2 : Sl) (x23_3 : Sl) (x23_4 : Sl) w5 =>
  NEW T.t_s_elTable #[.int .i64 0, .int .i64 0, .slice none 0 0, .slice none 0 0, .slice none 0 0] w5 fun (px5 : Addr) w6 =>
  ST px5 0 [.int .i64 x23_0, .int .i64 x23_1, x23_2.v, x23_3.v, x23_4.v] w6 fun w7 =>
  ∀ w8, Ext w7 w8 → w8.heap = w7.heap →
  LD [.int .i64] (px1.add 0) w8 fun (x25 : Int) =>
  (0 : Int) ≤ x25 ∧ (
  LD [.int .i64] (px1.add 1) w8 fun (x29 : Int) =>
  Calls Tryz.prog F.s_reChoices #[.int .i64 (IntKind.i64.wrap ((shlI .i64 1 x25) - 1)), .int .i64 (IntKind.i64.wrap (x29 - 1))] w8 (Ret [.at .sl] fun (x31 : Sl) w9 =>
  Ext w8 w9 ∧ (
  Ext w8 w9 ∧ (
  ∃ (I6 : Sl → Int → World → Prop) (m6 : Sl → Int → World → Nat), I6 (⟨none, 0, 0⟩) 0 w9 ∧ ∀ (x6 : Sl) (x33 : Int) w10, I6 x6 x33 w10 → ∀ _ _ _ _ _ _ _ _ _ _ _ _ _ _ _ _ _ _ _ _ _ _ _ _ _ _ _ _ _ _ _ _ _ _ _ _ _ _ _ _ _ _ _ _ _ _ _ _ _ _ _ : Value,
  cond (decide ((x33 : Int) < x31.len)) (
  IX x31 x33 1 fun (px35 : Addr) =>
  LD [.sl] px35 w10 fun (x36 : Sl) =>
  ∃ (I10 : Sl → Int → World → Prop) (m10 : Sl → Int → World → Nat), I10 (⟨none, 0, 0⟩) 0 w10 ∧ ∀ (x9 : Sl) (x39 : Int) w11, I10 x9 x39 w11 → ∀ _ _ _ _ _ _ _ _ _ _ : Value,
  cond (decide ((x39 : Int) < x36.len)) (
  IX x36 x39 1 fun (px41 : Addr) =>
  LD [.int .i64] px41 w11 fun (x42 : Int) =>
  RUN Tryz.prog (.at .sl) (Instr.buildSlice T.t_sl_int 1 #[(0, .int .i64 (IntKind.i64.wrap (x42 + 1)))]) w11 fun (x46 : Sl) w12 =>
  RUN Tryz.prog (.at .sl) (bsem .append #[T.t_sl_int, T.t_sl_int] T.t_sl_int #[x9.v, x46.v]) w12 fun (x47 : Sl) w13 =>
  I10 x47 (IntKind.i64.wrap (x39 + 1)) w13 ∧ m10 x47 (IntKind.i64.wrap (x39 + 1)) w13 < m10 x9 x39 w11) (
  LD [.int .i64, .int .i64, .sl, .sl, .sl] px5 w11 fun (x49_0 : Int) (x49_1 : Int) (x49_2 : Sl) (x49_3 : Sl) (x49_4 : Sl) =>
  Calls Tryz.prog F.s_elTable_rest #[.agg #[.int .i64 x49_0, .int .i64 x49_1, x49_2.v, x49_3.v, x49_4.v], x9.v, .int .i64 0] w11 (Ret [.at (.int .i64)] fun (x51 : Int) w14 =>
  cond ((x51 : Int) == 0) (
  V_s_elNode_k5 I6 m6 x6 x33 w10 x6 w14) (
  cond (decide ((x9.len : Int) > 0)) (
  IX x9 (IntKind.i64.wrap (x9.len - 1)) 1 fun (px64 : Addr) =>
  LD [.int .i64] px64 w14 fun (x65 : Int) =>
  cond (decide ((x51 : Int) < x65)) (
  V_s_elNode_k5 I6 m6 x6 x33 w10 x6 w14) (
  V_s_elNode_k9 I6 m6 x33 w10 px5 x6 x9 x51 w14)) (
  V_s_elNode_k9 I6 m6 x33 w10 px5 x6 x9 x51 w14))))) (
  LD [.int .i64, .int .i64, .sl, .sl] px1 w10 fun (x81_0 : Int) (x81_1 : Int) (x81_2 : Sl) (x81_3 : Sl) =>
  Calls Tryz.prog F.s_elMade #[.agg #[.int .i64 x81_0, .int .i64 x81_1, x81_2.v, x81_3.v], x6.v, .bool false] w10 (Ret [.agg [.int .i64, .int .i64, .sl, .sl], .at .sl, .at .bool] fun (x83_0_0 : Int) (x83_0_1 : Int) (x83_0_2 : Sl) (x83_0_3 : Sl) (x83_1 : Sl) (x83_2 : Bool) w22 =>
  ST px2 0 [.int .i64 x83_0_0, .int .i64 x83_0_1, x83_0_2.v, x83_0_3.v] w22 fun w23 =>
  LD [.int .i64, .int .i64, .sl, .sl] px2 w23 fun (r0_0_2 : Int) (r0_1_2 : Int) (r0_2_2 : Sl) (r0_3_2 : Sl) =>
  Q r0_0_2 r0_1_2 r0_2_2 r0_3_2 x83_1 x83_2 w23)))))))

def V_s_elNode (Q : Int → Int → Sl → Sl → Sl → Bool → World → Prop) (x0_0 : Int) (x0_1 : Int) (x0_2 : Sl) (x0_3 : Sl) (w : World) : Prop :=
  NEW T.t_i_Problem #[.int .i64 x0_0, .int .i64 x0_1, x0_2.v, x0_3.v] w fun (px1 : Addr) w1 =>
  NEW T.t_i_Problem #[.int .i64 0, .int .i64 0, .slice none 0 0, .slice none 0 0] w1 fun (px2 : Addr) w2 =>
  LD [.int .i64] (px1.add 1) w2 fun (x14 : Int) =>
  cond ((x14 : Int) == 4) (
  LD [.int .i64] (px1.add 0) w2 fun (x18 : Int) =>
  cond (decide ((x18 : Int) > 6)) (
  ST px2 0 [.int .i64 0, .int .i64 0, .slice none 0 0, .slice none 0 0] w2 fun w3 =>
  LD [.int .i64, .int .i64, .sl, .sl] px2 w3 fun (r0_0 : Int) (r0_1 : Int) (r0_2 : Sl) (r0_3 : Sl) =>
  Q r0_0 r0_1 r0_2 r0_3 (⟨none, 0, 0⟩) false w3) (
  V_s_elNode_k1 Q px1 px2 w2)) (
  V_s_elNode_k1 Q px1 px2 w2)

theorem C_s_elNode {Q : Int → Int → Sl → Sl → Sl → Bool → World → Prop} {x0_0 : Int} {x0_1 : Int} {x0_2 : Sl} {x0_3 : Sl} {w : World} (h : V_s_elNode Q x0_0 x0_1 x0_2 x0_3 w) : Calls Tryz.prog F.s_elNode #[.agg #[.int .i64 x0_0, .int .i64 x0_1, x0_2.v, x0_3.v]] w (Ret [.agg [.int .i64, .int .i64, .sl, .sl], .at .sl, .at .bool] Q) :=
  mkC (hint := hint) (ann := annOf [(6, ⟨[(6, .sl), (33, .int .i64)], [8, 9, 11, 12, 34, 35, 36, 37, 38, 39, 40, 41, 42, 43, 44, 45, 46, 47, 48, 49, 50, 51, 52, 53, 54, 55, 56, 57, 58, 59, 60, 61, 62, 63, 64, 65, 66, 67, 68, 69, 70, 71, 72, 73, 74, 75, 76, 77, 78, 79, 80]⟩), (10, ⟨[(9, .sl), (39, .int .i64)], [11, 40, 41, 42, 43, 44, 45, 46, 47, 48]⟩)]) (args := [.agg #[.int .i64 x0_0, .int .i64 x0_1, x0_2.v, x0_3.v]]) (rs := [.agg [.int .i64, .int .i64, .sl, .sl], .at .sl, .at .bool]) Tryz.func132 (by kernel_rfl) (by kernel_rfl) h

def V_s_l1Has (Q : Bool → World → Prop) (l : Sl) (n : Int) (w : World) : Prop :=
  ∃ (I2 : Int → World → Prop) (m2 : Int → World → Nat), I2 0 w ∧ ∀ (x9 : Int) w1, I2 x9 w1 → ∀ _ _ _ _ _ _ _ _ _ : Value,
  cond (decide ((x9 : Int) < l.len)) (
  IX l x9 1 fun (px11 : Addr) =>
  LD [.int .i64] px11 w1 fun (x12 : Int) =>
  cond ((x12 : Int) == n) (
  Q true w1) (
  I2 (IntKind.i64.wrap (x9 + 1)) w1 ∧ m2 (IntKind.i64.wrap (x9 + 1)) w1 < m2 x9 w1)) (
  Q false w1)

theorem C_s_l1Has {Q : Bool → World → Prop} {l : Sl} {n : Int} {w : World} (h : V_s_l1Has Q l n w) : Calls Tryz.prog F.s_l1Has #[l.v, .int .i64 n] w (Ret [.at .bool] Q) :=
  mkC (hint := hint) (ann := annOf [(2, ⟨[(9, .int .i64)], [4, 6, 10, 11, 12, 13, 14, 15, 16]⟩)]) (args := [l.v, .int .i64 n]) (rs := [.at .bool]) Tryz.func133 (by kernel_rfl) (by kernel_rfl) h

def V_s_zeGood (Q : Sl → Bool → World → Prop) (p_0 : Int) (p_1 : Int) (p_2 : Sl) (p_3 : Sl) (w : World) : Prop :=
  NEW T.t_i_Problem #[.int .i64 p_0, .int .i64 p_1, p_2.v, p_3.v] w fun (p_p : Addr) w1 =>
  LD [.sl] (p_p.add 2) w1 fun (x7 : Sl) =>
  ∃ (I2 : Int → World → Prop) (m2 : Int → World → Nat), I2 0 w1 ∧ ∀ (x9 : Int) w2, I2 x9 w2 → ∀ _ _ _ _ _ _ _ _ _ _ _ _ _ : Value,
  cond (decide ((x9 : Int) < x7.len)) (
  IX x7 x9 1 fun (px11 : Addr) =>
  LD [.sl] px11 w2 fun (x12 : Sl) =>
  LD [.int .i64, .int .i64, .sl, .sl] p_p w2 fun (x13_0 : Int) (x13_1 : Int) (x13_2 : Sl) (x13_3 : Sl) =>
  Calls Tryz.prog F.s_zePairs #[.agg #[.int .i64 x13_0, .int .i64 x13_1, x13_2.v, x13_3.v], x12.v, x12.v] w2 (Ret [.at .bool] fun (x16 : Bool) w3 =>
  cond x16 (
  Calls Tryz.prog F.s_l1Own #[x12.v] w3 (Ret [.at .sl] fun (x18 : Sl) w4 =>
  Q x18 true w4)) (
  I2 (IntKind.i64.wrap (x9 + 1)) w3 ∧ m2 (IntKind.i64.wrap (x9 + 1)) w3 < m2 x9 w2))) (
  Q (⟨none, 0, 0⟩) false w2)

theorem C_s_zeGood {Q : Sl → Bool → World → Prop} {p_0 : Int} {p_1 : Int} {p_2 : Sl} {p_3 : Sl} {w : World} (h : V_s_zeGood Q p_0 p_1 p_2 p_3 w) : Calls Tryz.prog F.s_zeGood #[.agg #[.int .i64 p_0, .int .i64 p_1, p_2.v, p_3.v]] w (Ret [.at .sl, .at .bool] Q) :=
  mkC (hint := hint) (ann := annOf [(2, ⟨[(9, .int .i64)], [2, 3, 5, 10, 11, 12, 13, 14, 15, 16, 17, 18, 19]⟩)]) (args := [.agg #[.int .i64 p_0, .int .i64 p_1, p_2.v, p_3.v]]) (rs := [.at .sl, .at .bool]) Tryz.func134 (by kernel_rfl) (by kernel_rfl) h

def V_s_l1Own (Q : Sl → World → Prop) (l : Sl) (w : World) : Prop :=
  RUN Tryz.prog (.at .sl) (Instr.buildSlice T.t_sl_int 0 #[]) w fun (x3 : Sl) w1 =>
  RUN Tryz.prog (.at .sl) (bsem .append #[T.t_sl_int, T.t_sl_int] T.t_sl_int #[x3.v, l.v]) w1 fun (x5 : Sl) w2 =>
  Q x5 w2

theorem C_s_l1Own {Q : Sl → World → Prop} {l : Sl} {w : World} (h : V_s_l1Own Q l w) : Calls Tryz.prog F.s_l1Own #[l.v] w (Ret [.at .sl] Q) :=
  mkC (hint := hint) (ann := annOf []) (args := [l.v]) (rs := [.at .sl]) Tryz.func135 (by kernel_rfl) (by kernel_rfl) h

def V_s_elEdge (Q : Int → Int → Sl → Sl → Sl → Bool → World → Prop) (p_0 : Int) (p_1 : Int) (p_2 : Sl) (p_3 : Sl) (w : World) : Prop :=
  NEW T.t_i_Problem #[.int .i64 p_0, .int .i64 p_1, p_2.v, p_3.v] w fun (p_p : Addr) w1 =>
  NEW T.t_i_Problem #[.int .i64 0, .int .i64 0, .slice none 0 0, .slice none 0 0] w1 fun (px2 : Addr) w2 =>
  ∃ (I3 : Sl → Int → World → Prop) (m3 : Sl → Int → World → Nat), I3 (⟨none, 0, 0⟩) 1 w2 ∧ ∀ (full : Sl) (set1 : Int) w3, I3 full set1 w3 → ∀ _ _ _ _ _ _ _ _ _ _ _ _ _ _ _ _ _ _ _ _ _ _ _ _ _ _ : Value,
  LD [.int .i64] (p_p.add 0) w3 fun (x10 : Int) =>
  (0 : Int) ≤ x10 ∧ (
  cond (decide ((set1 : Int) < (shlI .i64 1 x10))) (
  LD [.int .i64, .int .i64, .sl, .sl] p_p w3 fun (x15_0 : Int) (x15_1 : Int) (x15_2 : Sl) (x15_3 : Sl) =>
  Calls Tryz.prog F.s_elNear #[.agg #[.int .i64 x15_0, .int .i64 x15_1, x15_2.v, x15_3.v], .int .i64 set1] w3 (Ret [.at (.int .i64)] fun (x17 : Int) w4 =>
  cond (decide ((x17 : Int) > 0)) (
  LD [.int .i64, .int .i64, .sl, .sl] p_p w4 fun (x21_0 : Int) (x21_1 : Int) (x21_2 : Sl) (x21_3 : Sl) =>
  Calls Tryz.prog F.s_elNear #[.agg #[.int .i64 x21_0, .int .i64 x21_1, x21_2.v, x21_3.v], .int .i64 x17] w4 (Ret [.at (.int .i64)] fun (x23 : Int) w5 =>
  cond ((x23 : Int) == set1) (
  RUN Tryz.prog (.at .sl) (Instr.buildSlice T.t_sl_int 2 #[(0, .int .i64 set1), (1, .int .i64 x17)]) w5 fun (x30 : Sl) w6 =>
  RUN Tryz.prog (.at .sl) (Instr.buildSlice T.t_sl_sl_int 1 #[(0, x30.v)]) w6 fun (x31 : Sl) w7 =>
  RUN Tryz.prog (.at .sl) (bsem .append #[T.t_sl_sl_int, T.t_sl_sl_int] T.t_sl_sl_int #[full.v, x31.v]) w7 fun (x32 : Sl) w8 =>
  I3 x32 (IntKind.i64.wrap (set1 + 1)) w8 ∧ m3 x32 (IntKind.i64.wrap (set1 + 1)) w8 < m3 full set1 w3) (
  I3 full (IntKind.i64.wrap (set1 + 1)) w5 ∧ m3 full (IntKind.i64.wrap (set1 + 1)) w5 < m3 full set1 w3))) (
  I3 full (IntKind.i64.wrap (set1 + 1)) w4 ∧ m3 full (IntKind.i64.wrap (set1 + 1)) w4 < m3 full set1 w3))) (
  LD [.int .i64, .int .i64, .sl, .sl] p_p w3 fun (x33_0 : Int) (x33_1 : Int) (x33_2 : Sl) (x33_3 : Sl) =>
  Calls Tryz.prog F.s_elMade #[.agg #[.int .i64 x33_0, .int .i64 x33_1, x33_2.v, x33_3.v], full.v, .bool true] w3 (Ret [.agg [.int .i64, .int .i64, .sl, .sl], .at .sl, .at .bool] fun (x35_0_0 : Int) (x35_0_1 : Int) (x35_0_2 : Sl) (x35_0_3 : Sl) (x35_1 : Sl) (x35_2 : Bool) w9 =>
  ST px2 0 [.int .i64 x35_0_0, .int .i64 x35_0_1, x35_0_2.v, x35_0_3.v] w9 fun w10 =>
  LD [.int .i64, .int .i64, .sl, .sl] px2 w10 fun (r0_0 : Int) (r0_1 : Int) (r0_2 : Sl) (r0_3 : Sl) =>
  Q r0_0 r0_1 r0_2 r0_3 x35_1 x35_2 w10)))

theorem C_s_elEdge {Q : Int → Int → Sl → Sl → Sl → Bool → World → Prop} {p_0 : Int} {p_1 : Int} {p_2 : Sl} {p_3 : Sl} {w : World} (h : V_s_elEdge Q p_0 p_1 p_2 p_3 w) : Calls Tryz.prog F.s_elEdge #[.agg #[.int .i64 p_0, .int .i64 p_1, p_2.v, p_3.v]] w (Ret [.agg [.int .i64, .int .i64, .sl, .sl], .at .sl, .at .bool] Q) :=
  mkC (hint := hint) (ann := annOf [(3, ⟨[(5, .sl), (6, .int .i64)], [7, 8, 9, 10, 11, 12, 13, 14, 15, 16, 17, 18, 19, 20, 21, 22, 23, 24, 25, 26, 27, 28, 29, 30, 31, 32]⟩)]) (args := [.agg #[.int .i64 p_0, .int .i64 p_1, p_2.v, p_3.v]]) (rs := [.agg [.int .i64, .int .i64, .sl, .sl], .at .sl, .at .bool]) Tryz.func136 (by kernel_rfl) (by kernel_rfl) h

end Go.Proofs.YtndebacmnpghkaaGreat
end
