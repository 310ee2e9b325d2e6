/- What each function's code computes to. Printed by a program. -/
import Derived.Test.YtoeaoinedidbiaaNames
namespace Go.Proofs.Ytoeaoinedidbiaa
open Go.GX Go.RowKit
set_option linter.unusedVariables false
set_option maxRecDepth 100000

def V_s_FailingNetwork_k7 (I8 : Int → World → Prop) (m8 : Int → World → Nat) (x51 : Int) (w16 : World) (px9 : Addr) (x11 : Int) (w17 : World) : Prop :=
  ∀ w18, Ext w17 w18 → w18.heap = w17.heap → ∃ (D18 : Nat → Prop),
  ¬ D18 (px9.add 0).block ∧ (
  LD [.sl] (px9.add 0) w18 fun (x64 : Sl) =>
  ¬ D18 (px9.add 0).block ∧ (
  LD [.sl] (px9.add 0) w18 fun (x66 : Sl) =>
  IX x66 0 1 fun (px67 : Addr) =>
  ¬ D18 px67.block ∧ (
  LD [.sl] px67 w18 fun (x68 : Sl) =>
  Chg w18 w18 D18 ∧ (
  Chg w18 w18 D18 ∧ (
  RUN Try.prog (.at .sl) (Instr.buildSlice T.t_sl_i_End 1 #[(0, .agg #[.int .i64 1, .int .i64 x11])]) w18 fun (x71 : Sl) w19 =>
  Chg w18 w19 D18 ∧ (
  RUN Try.prog (.at .sl) (bsem .append #[T.t_sl_i_End, T.t_sl_i_End] T.t_sl_i_End #[x68.v, x71.v]) w19 fun (x72 : Sl) w20 =>
  Chg w18 w20 D18 ∧ (
  IX x64 0 1 fun (px73 : Addr) =>
  ST px73 0 [x72.v] w20 fun w21 =>
  ∀ w22, Ext w21 w22 → w22.heap = w21.heap → ∃ (D22 : Nat → Prop),
  ¬ D22 (px9.add 0).block ∧ (
  LD [.sl] (px9.add 0) w22 fun (x75 : Sl) =>
  ¬ D22 (px9.add 0).block ∧ (
  LD [.sl] (px9.add 0) w22 fun (x77 : Sl) =>
  IX x77 1 1 fun (px78 : Addr) =>
  ¬ D22 px78.block ∧ (
  LD [.sl] px78 w22 fun (x79 : Sl) =>
  Chg w22 w22 D22 ∧ (
  Chg w22 w22 D22 ∧ (
  RUN Try.prog (.at .sl) (Instr.buildSlice T.t_sl_i_End 1 #[(0, .agg #[.int .i64 0, .int .i64 x11])]) w22 fun (x82 : Sl) w23 =>
  Chg w22 w23 D22 ∧ (
  RUN Try.prog (.at .sl) (bsem .append #[T.t_sl_i_End, T.t_sl_i_End] T.t_sl_i_End #[x79.v, x82.v]) w23 fun (x83 : Sl) w24 =>
  Chg w22 w24 D22 ∧ (
  IX x75 1 1 fun (px84 : Addr) =>
  ST px84 0 [x83.v] w24 fun w25 =>
  I8 (IntKind.i64.wrap (x51 + 1)) w25 ∧ m8 (IntKind.i64.wrap (x51 + 1)) w25 < m8 x51 w16))))))))))))))

def V_s_FailingNetwork_k1 (x1 : Sl) (Q : Sl → Sl → Sl → Bool → World → Prop) (px2 : Addr) (px4 : Addr) (w10 : World) : Prop :=
  LD [.int .i64, .int .i64, .sl, .sl] px2 w10 fun (x38_0 : Int) (x38_1 : Int) (x38_2 : Sl) (x38_3 : Sl) =>
  Calls Try.prog F.s_zeBad #[.agg #[.int .i64 x38_0, .int .i64 x38_1, x38_2.v, x38_3.v], x1.v, x1.v] w10 (Ret [.at (.int .i64), .at (.int .i64), .at .bool] fun (x41_0 : Int) (x41_1 : Int) (x41_2 : Bool) w11 =>
  cond (!x41_2) (
  ST px4 0 [.slice none 0 0, .slice none 0 0, .slice none 0 0] w11 fun w12 =>
  LD [.sl, .sl, .sl] px4 w12 fun (r0_0_5 : Sl) (r0_1_5 : Sl) (r0_2_5 : Sl) =>
  Q r0_0_5 r0_1_5 r0_2_5 false w12) (
  Calls Try.prog F.s_neEmpty #[.int .i64 2] w11 (Ret [.agg [.sl, .sl, .sl]] fun (x48_0 : Sl) (x48_1 : Sl) (x48_2 : Sl) w13 =>
  NEW T.t_i_Network #[.slice none 0 0, .slice none 0 0, .slice none 0 0] w13 fun (px9 : Addr) w14 =>
  ST px9 0 [x48_0.v, x48_1.v, x48_2.v] w14 fun w15 =>
  ∃ (I8 : Int → World → Prop) (m8 : Int → World → Nat), I8 0 w15 ∧ ∀ (x51 : Int) w16, I8 x51 w16 → ∀ _ _ _ _ _ _ _ _ _ _ _ _ _ _ _ _ _ _ _ _ _ _ _ _ _ _ _ _ _ _ _ _ _ _ _ _ : Value,
  cond (decide ((x51 : Int) < x1.len)) (
  cond ((x51 : Int) == x41_0) (
  V_s_FailingNetwork_k7 I8 m8 x51 w16 px9 x41_1 w16) (
  cond ((x51 : Int) == x41_1) (
  V_s_FailingNetwork_k7 I8 m8 x51 w16 px9 x41_0 w16) (
  V_s_FailingNetwork_k7 I8 m8 x51 w16 px9 x51 w16))) (
  LD [.sl, .sl, .sl] px9 w16 fun (x86_0 : Sl) (x86_1 : Sl) (x86_2 : Sl) =>
  ST px4 0 [x86_0.v, x86_1.v, x86_2.v] w16 fun w26 =>
  LD [.sl, .sl, .sl] px4 w26 fun (r0_0_6 : Sl) (r0_1_6 : Sl) (r0_2_6 : Sl) =>
  Q r0_0_6 r0_1_6 r0_2_6 true w26))))

def V_s_FailingNetwork (Q : Sl → Sl → Sl → Bool → World → Prop) (x0_0 : Int) (x0_1 : Int) (x0_2 : Sl) (x0_3 : Sl) (x1 : Sl) (w : World) : Prop :=
  NEW T.t_i_Problem #[.int .i64 x0_0, .int .i64 x0_1, x0_2.v, x0_3.v] w fun (px2 : Addr) w1 =>
  NEW T.t_i_Network #[.slice none 0 0, .slice none 0 0, .slice none 0 0] w1 fun (px4 : Addr) w2 =>
  LD [.int .i64, .int .i64, .sl, .sl] px2 w2 fun (x12_0 : Int) (x12_1 : Int) (x12_2 : Sl) (x12_3 : Sl) =>
  Calls Try.prog F.s_prGood #[.agg #[.int .i64 x12_0, .int .i64 x12_1, x12_2.v, x12_3.v]] w2 (Ret [.at .bool] fun (x13 : Bool) w3 =>
  cond (!x13) (
  ST px4 0 [.slice none 0 0, .slice none 0 0, .slice none 0 0] w3 fun w6 =>
  LD [.sl, .sl, .sl] px4 w6 fun (r0_0 : Sl) (r0_1 : Sl) (r0_2 : Sl) =>
  Q r0_0 r0_1 r0_2 false w6) (
  LD [.int .i64] (px2.add 1) w3 fun (x19 : Int) =>
  cond ((x1.len : Int) != x19) (
  ST px4 0 [.slice none 0 0, .slice none 0 0, .slice none 0 0] w3 fun w7 =>
  LD [.sl, .sl, .sl] px4 w7 fun (r0_0_2 : Sl) (r0_1_2 : Sl) (r0_2_2 : Sl) =>
  Q r0_0_2 r0_1_2 r0_2_2 false w7) (
  LD [.int .i64] (px2.add 0) w3 fun (x25 : Int) =>
  Calls Try.prog F.s_l1All #[x1.v, .int .i64 0, .int .i64 (IntKind.i64.wrap (x25 - 1))] w3 (Ret [.at .bool] fun (x27 : Bool) w4 =>
  cond (!x27) (
  ST px4 0 [.slice none 0 0, .slice none 0 0, .slice none 0 0] w4 fun w8 =>
  LD [.sl, .sl, .sl] px4 w8 fun (r0_0_3 : Sl) (r0_1_3 : Sl) (r0_2_3 : Sl) =>
  Q r0_0_3 r0_1_3 r0_2_3 false w8) (
  LD [.int .i64, .int .i64, .sl, .sl] px2 w4 fun (x31_0 : Int) (x31_1 : Int) (x31_2 : Sl) (x31_3 : Sl) =>
  Calls Try.prog F.s_prNode #[.agg #[.int .i64 x31_0, .int .i64 x31_1, x31_2.v, x31_3.v], x1.v] w4 (Ret [.at .bool] fun (x33 : Bool) w5 =>
  cond (!x33) (
  ST px4 0 [.slice none 0 0, .slice none 0 0, .slice none 0 0] w5 fun w9 =>
  LD [.sl, .sl, .sl] px4 w9 fun (r0_0_4 : Sl) (r0_1_4 : Sl) (r0_2_4 : Sl) =>
  Q r0_0_4 r0_1_4 r0_2_4 false w9) (
  V_s_FailingNetwork_k1 x1 Q px2 px4 w5)))))))

theorem C_s_FailingNetwork {Q : Sl → Sl → Sl → Bool → World → Prop} {x0_0 : Int} {x0_1 : Int} {x0_2 : Sl} {x0_3 : Sl} {x1 : Sl} {w : World} (h : V_s_FailingNetwork Q x0_0 x0_1 x0_2 x0_3 x1 w) : Calls Try.prog F.s_FailingNetwork #[.agg #[.int .i64 x0_0, .int .i64 x0_1, x0_2.v, x0_3.v], x1.v] w (Ret [.agg [.sl, .sl, .sl], .at .bool] Q) :=
  mkC (hint := hint) (ann := annOf [(8, ⟨[(51, .int .i64)], [10, 11, 52, 53, 54, 55, 56, 57, 58, 59, 60, 61, 62, 63, 64, 65, 66, 67, 68, 69, 70, 71, 72, 73, 74, 75, 76, 77, 78, 79, 80, 81, 82, 83, 84, 85]⟩)]) (args := [.agg #[.int .i64 x0_0, .int .i64 x0_1, x0_2.v, x0_3.v], x1.v]) (rs := [.agg [.sl, .sl, .sl], .at .bool]) Try.func48 (by kernel_rfl) (by kernel_rfl) h

def V_l_toProblem (Q : Int → Int → Sl → Sl → World → Prop) (a_0 : Int) (a_1 : Int) (a_2 : Sl) (a_3 : Sl) (w : World) : Prop :=
  NEW T.t_l_Problem #[.int .i64 a_0, .int .i64 a_1, a_2.v, a_3.v] w fun (p_a : Addr) w1 =>
  NEW T.t_i_Problem #[.int .i64 0, .int .i64 0, .slice none 0 0, .slice none 0 0] w1 fun (px2 : Addr) w2 =>
  NEW T.t_i_Problem #[.int .i64 0, .int .i64 0, .slice none 0 0, .slice none 0 0] w2 fun (p_out : Addr) w3 =>
  LD [.int .i64] (p_a.add 0) w3 fun (x5 : Int) =>
  ST (p_out.add 0) 0 [.int .i64 x5] w3 fun w4 =>
  LD [.int .i64] (p_a.add 1) w4 fun (x8 : Int) =>
  ST (p_out.add 1) 0 [.int .i64 x8] w4 fun w5 =>
  LD [.sl] (p_a.add 2) w5 fun (x11 : Sl) =>
  Calls Try.prog F.l_toIntSS #[x11.v] w5 (Ret [.at .sl] fun (x12 : Sl) w6 =>
  ST (p_out.add 2) 0 [x12.v] w6 fun w7 =>
  LD [.sl] (p_a.add 3) w7 fun (x15 : Sl) =>
  Calls Try.prog F.l_toIntSS #[x15.v] w7 (Ret [.at .sl] fun (x16 : Sl) w8 =>
  ST (p_out.add 3) 0 [x16.v] w8 fun w9 =>
  LD [.int .i64, .int .i64, .sl, .sl] p_out w9 fun (x18_0 : Int) (x18_1 : Int) (x18_2 : Sl) (x18_3 : Sl) =>
  ST px2 0 [.int .i64 x18_0, .int .i64 x18_1, x18_2.v, x18_3.v] w9 fun w10 =>
  LD [.int .i64, .int .i64, .sl, .sl] px2 w10 fun (r0_0 : Int) (r0_1 : Int) (r0_2 : Sl) (r0_3 : Sl) =>
  Q r0_0 r0_1 r0_2 r0_3 w10))

theorem C_l_toProblem {Q : Int → Int → Sl → Sl → World → Prop} {a_0 : Int} {a_1 : Int} {a_2 : Sl} {a_3 : Sl} {w : World} (h : V_l_toProblem Q a_0 a_1 a_2 a_3 w) : Calls Try.prog F.l_toProblem #[.agg #[.int .i64 a_0, .int .i64 a_1, a_2.v, a_3.v]] w (Ret [.agg [.int .i64, .int .i64, .sl, .sl]] Q) :=
  mkC (hint := hint) (ann := annOf []) (args := [.agg #[.int .i64 a_0, .int .i64 a_1, a_2.v, a_3.v]]) (rs := [.agg [.int .i64, .int .i64, .sl, .sl]]) Try.func49 (by kernel_rfl) (by kernel_rfl) h

def V_i_FailingNetwork_k1 (x : Sl) (Q : Sl → Sl → Sl → Bool → World → Prop) (p_p : Addr) (px4 : Addr) (w10 : World) : Prop :=
  ∃ (I4 : Int → World → Prop) (m4 : Int → World → Nat), I4 0 w10 ∧ ∀ (x33 : Int) w11, I4 x33 w11 → ∀ _ _ _ _ _ _ _ _ _ _ _ _ _ _ _ _ _ _ _ _ _ _ _ _ _ _ _ _ _ _ : Value,
  cond (decide ((x33 : Int) < x.len)) (
  NEW T.t_int #[.int .i64 0] w11 fun (p_i : Addr) w12 =>
  ST p_i 0 [.int .i64 x33] w12 fun w13 =>
  LD [.int .i64] p_i w13 fun (x36 : Int) =>
  NEW T.t_int #[.int .i64 0] w13 fun (p_j : Addr) w14 =>
  ST p_j 0 [.int .i64 x36] w14 fun w15 =>
  ∃ (I7 : Addr → World → Prop) (m7 : Addr → World → Nat), I7 p_j w15 ∧ ∀ (j : Addr) w16, I7 j w16 → ∀ _ _ _ _ _ _ _ _ _ _ _ _ _ _ _ _ _ _ _ _ _ _ _ _ : Value,
  LD [.int .i64] j w16 fun (x37 : Int) =>
  cond (decide ((x37 : Int) < x.len)) (
  LD [.int .i64, .int .i64, .sl, .sl] p_p w16 fun (x43_0 : Int) (x43_1 : Int) (x43_2 : Sl) (x43_3 : Sl) =>
  LD [.int .i64] p_i w16 fun (x45 : Int) =>
  IX x x45 1 fun (px46 : Addr) =>
  LD [.int .i64] px46 w16 fun (x47 : Int) =>
  LD [.int .i64] j w16 fun (x49 : Int) =>
  IX x x49 1 fun (px50 : Addr) =>
  LD [.int .i64] px50 w16 fun (x51 : Int) =>
  QCALL Try.prog F.i_Problem_edge #[.agg #[.int .i64 x43_0, .int .i64 x43_1, x43_2.v, x43_3.v], .int .i64 x47, .int .i64 x51] w16 [.at .bool] fun (x52 : Bool) =>
  ∀ w17, Ext w16 w17 →
  cond x52 (
  LD [.int .i64] j w17 fun (x59 : Int) =>
  NEW T.t_int #[.int .i64 0] w17 fun (p_j_2 : Addr) w20 =>
  ST p_j_2 0 [.int .i64 x59] w20 fun w21 =>
  LD [.int .i64] p_j_2 w21 fun (x41 : Int) =>
  ST p_j_2 0 [.int .i64 (IntKind.i64.wrap (x41 + 1))] w21 fun w22 =>
  I7 p_j_2 w22 ∧ m7 p_j_2 w22 < m7 j w16) (
  LD [.int .i64] (p_p.add 1) w17 fun (x54 : Int) =>
  Calls Try.prog F.i_wired #[.int .i64 2, .int .i64 x54, .func (.func F.i_FailingNetwork_1) #[] #[.pointer (some p_i), .pointer (some j)]] w17 (Ret [.agg [.sl, .sl, .sl], .at .bool] fun (x56_0_0 : Sl) (x56_0_1 : Sl) (x56_0_2 : Sl) (x56_1 : Bool) w18 =>
  ST px4 0 [x56_0_0.v, x56_0_1.v, x56_0_2.v] w18 fun w19 =>
  LD [.sl, .sl, .sl] px4 w19 fun (r0_0_5 : Sl) (r0_1_5 : Sl) (r0_2_5 : Sl) =>
  Q r0_0_5 r0_1_5 r0_2_5 x56_1 w19))) (
  I4 (IntKind.i64.wrap (x33 + 1)) w16 ∧ m4 (IntKind.i64.wrap (x33 + 1)) w16 < m4 x33 w11)) (
  ST px4 0 [.slice none 0 0, .slice none 0 0, .slice none 0 0] w11 fun w23 =>
  LD [.sl, .sl, .sl] px4 w23 fun (r0_0_6 : Sl) (r0_1_6 : Sl) (r0_2_6 : Sl) =>
  Q r0_0_6 r0_1_6 r0_2_6 false w23)

def V_i_FailingNetwork (Q : Sl → Sl → Sl → Bool → World → Prop) (p_0 : Int) (p_1 : Int) (p_2 : Sl) (p_3 : Sl) (x : Sl) (w : World) : Prop :=
  NEW T.t_i_Problem #[.int .i64 p_0, .int .i64 p_1, p_2.v, p_3.v] w fun (p_p : Addr) w1 =>
  NEW T.t_i_Network #[.slice none 0 0, .slice none 0 0, .slice none 0 0] w1 fun (px4 : Addr) w2 =>
  LD [.int .i64, .int .i64, .sl, .sl] p_p w2 fun (x8_0 : Int) (x8_1 : Int) (x8_2 : Sl) (x8_3 : Sl) =>
  Calls Try.prog F.i_IsProblem #[.agg #[.int .i64 x8_0, .int .i64 x8_1, x8_2.v, x8_3.v]] w2 (Ret [.at .bool] fun (x9 : Bool) w3 =>
  cond (!x9) (
  ST px4 0 [.slice none 0 0, .slice none 0 0, .slice none 0 0] w3 fun w6 =>
  LD [.sl, .sl, .sl] px4 w6 fun (r0_0 : Sl) (r0_1 : Sl) (r0_2 : Sl) =>
  Q r0_0 r0_1 r0_2 false w6) (
  LD [.int .i64] (p_p.add 1) w3 fun (x15 : Int) =>
  cond ((x.len : Int) != x15) (
  ST px4 0 [.slice none 0 0, .slice none 0 0, .slice none 0 0] w3 fun w7 =>
  LD [.sl, .sl, .sl] px4 w7 fun (r0_0_2 : Sl) (r0_1_2 : Sl) (r0_2_2 : Sl) =>
  Q r0_0_2 r0_1_2 r0_2_2 false w7) (
  LD [.int .i64, .int .i64, .sl, .sl] p_p w3 fun (x19_0 : Int) (x19_1 : Int) (x19_2 : Sl) (x19_3 : Sl) =>
  Calls Try.prog F.i_Problem_hasLabels #[.agg #[.int .i64 x19_0, .int .i64 x19_1, x19_2.v, x19_3.v], x.v] w3 (Ret [.at .bool] fun (x21 : Bool) w4 =>
  cond (!x21) (
  ST px4 0 [.slice none 0 0, .slice none 0 0, .slice none 0 0] w4 fun w8 =>
  LD [.sl, .sl, .sl] px4 w8 fun (r0_0_3 : Sl) (r0_1_3 : Sl) (r0_2_3 : Sl) =>
  Q r0_0_3 r0_1_3 r0_2_3 false w8) (
  LD [.int .i64, .int .i64, .sl, .sl] p_p w4 fun (x25_0 : Int) (x25_1 : Int) (x25_2 : Sl) (x25_3 : Sl) =>
  Calls Try.prog F.i_Problem_node #[.agg #[.int .i64 x25_0, .int .i64 x25_1, x25_2.v, x25_3.v], x.v] w4 (Ret [.at .bool] fun (x27 : Bool) w5 =>
  cond (!x27) (
  ST px4 0 [.slice none 0 0, .slice none 0 0, .slice none 0 0] w5 fun w9 =>
  LD [.sl, .sl, .sl] px4 w9 fun (r0_0_4 : Sl) (r0_1_4 : Sl) (r0_2_4 : Sl) =>
  Q r0_0_4 r0_1_4 r0_2_4 false w9) (
  V_i_FailingNetwork_k1 x Q p_p px4 w5)))))))

theorem C_i_FailingNetwork {Q : Sl → Sl → Sl → Bool → World → Prop} {p_0 : Int} {p_1 : Int} {p_2 : Sl} {p_3 : Sl} {x : Sl} {w : World} (h : V_i_FailingNetwork Q p_0 p_1 p_2 p_3 x w) : Calls Try.prog F.i_FailingNetwork #[.agg #[.int .i64 p_0, .int .i64 p_1, p_2.v, p_3.v], x.v] w (Ret [.agg [.sl, .sl, .sl], .at .bool] Q) :=
  mkC (hint := hint) (ann := annOf [(4, ⟨[(33, .int .i64)], [5, 6, 7, 34, 35, 36, 37, 38, 39, 40, 41, 42, 43, 44, 45, 46, 47, 48, 49, 50, 51, 52, 53, 54, 55, 56, 57, 58, 59, 60]⟩), (7, ⟨[(7, .ptr)], [5, 37, 38, 39, 40, 41, 42, 43, 44, 45, 46, 47, 48, 49, 50, 51, 52, 53, 54, 55, 56, 57, 58, 59]⟩)]) (args := [.agg #[.int .i64 p_0, .int .i64 p_1, p_2.v, p_3.v], x.v]) (rs := [.agg [.sl, .sl, .sl], .at .bool]) Try.func50 (by kernel_rfl) (by kernel_rfl) h

def V_l_eqProblem (Q : Bool → World → Prop) (a_0 : Int) (a_1 : Int) (a_2 : Sl) (a_3 : Sl) (b_0 : Int) (b_1 : Int) (b_2 : Sl) (b_3 : Sl) (w : World) : Prop :=
  NEW T.t_i_Problem #[.int .i64 a_0, .int .i64 a_1, a_2.v, a_3.v] w fun (p_a : Addr) w1 =>
  NEW T.t_i_Problem #[.int .i64 b_0, .int .i64 b_1, b_2.v, b_3.v] w1 fun (p_b : Addr) w2 =>
  LD [.int .i64] (p_a.add 0) w2 fun (x6 : Int) =>
  LD [.int .i64] (p_b.add 0) w2 fun (x8 : Int) =>
  cond ((x6 : Int) != x8) (
  Q false w2) (
  LD [.int .i64] (p_a.add 1) w2 fun (x11 : Int) =>
  LD [.int .i64] (p_b.add 1) w2 fun (x13 : Int) =>
  cond ((x11 : Int) != x13) (
  Q false w2) (
  LD [.sl] (p_a.add 2) w2 fun (x16 : Sl) =>
  LD [.sl] (p_b.add 2) w2 fun (x18 : Sl) =>
  Calls Try.prog F.l_eqIntSS #[x16.v, x18.v] w2 (Ret [.at .bool] fun (x19 : Bool) w3 =>
  cond (!x19) (
  Q false w3) (
  LD [.sl] (p_a.add 3) w3 fun (x22 : Sl) =>
  LD [.sl] (p_b.add 3) w3 fun (x24 : Sl) =>
  Calls Try.prog F.l_eqIntSS #[x22.v, x24.v] w3 (Ret [.at .bool] fun (x25 : Bool) w4 =>
  cond (!x25) (
  Q false w4) (
  Q true w4))))))

theorem C_l_eqProblem {Q : Bool → World → Prop} {a_0 : Int} {a_1 : Int} {a_2 : Sl} {a_3 : Sl} {b_0 : Int} {b_1 : Int} {b_2 : Sl} {b_3 : Sl} {w : World} (h : V_l_eqProblem Q a_0 a_1 a_2 a_3 b_0 b_1 b_2 b_3 w) : Calls Try.prog F.l_eqProblem #[.agg #[.int .i64 a_0, .int .i64 a_1, a_2.v, a_3.v], .agg #[.int .i64 b_0, .int .i64 b_1, b_2.v, b_3.v]] w (Ret [.at .bool] Q) :=
  mkC (hint := hint) (ann := annOf []) (args := [.agg #[.int .i64 a_0, .int .i64 a_1, a_2.v, a_3.v], .agg #[.int .i64 b_0, .int .i64 b_1, b_2.v, b_3.v]]) (rs := [.at .bool]) Try.func51 (by kernel_rfl) (by kernel_rfl) h

def V_l_markProblem (Q : Int → World → Prop) (a_0 : Int) (a_1 : Int) (a_2 : Sl) (a_3 : Sl) (k : Int) (w : World) : Prop :=
  NEW T.t_i_Problem #[.int .i64 a_0, .int .i64 a_1, a_2.v, a_3.v] w fun (p_a : Addr) w1 =>
  LD [.sl] (p_a.add 2) w1 fun (x6 : Sl) =>
  Calls Try.prog F.l_markIntSS #[x6.v, .int .i64 k] w1 (Ret [.at (.int .i64)] fun (x8 : Int) w2 =>
  LD [.sl] (p_a.add 3) w2 fun (x10 : Sl) =>
  Calls Try.prog F.l_markIntSS #[x10.v, .int .i64 x8] w2 (Ret [.at (.int .i64)] fun (x12 : Int) w3 =>
  Q x12 w3))

theorem C_l_markProblem {Q : Int → World → Prop} {a_0 : Int} {a_1 : Int} {a_2 : Sl} {a_3 : Sl} {k : Int} {w : World} (h : V_l_markProblem Q a_0 a_1 a_2 a_3 k w) : Calls Try.prog F.l_markProblem #[.agg #[.int .i64 a_0, .int .i64 a_1, a_2.v, a_3.v], .int .i64 k] w (Ret [.at (.int .i64)] Q) :=
  mkC (hint := hint) (ann := annOf []) (args := [.agg #[.int .i64 a_0, .int .i64 a_1, a_2.v, a_3.v], .int .i64 k]) (rs := [.at (.int .i64)]) Try.func52 (by kernel_rfl) (by kernel_rfl) h

def V_l_heldNetwork (Q : Int → World → Prop) (a_0 : Sl) (a_1 : Sl) (a_2 : Sl) (k : Int) (w : World) : Prop :=
  NEW T.t_i_Network #[a_0.v, a_1.v, a_2.v] w fun (p_a : Addr) w1 =>
  LD [.sl] (p_a.add 0) w1 fun (x6 : Sl) =>
  Calls Try.prog F.l_heldEndSS #[x6.v, .int .i64 k] w1 (Ret [.at (.int .i64)] fun (x8 : Int) w2 =>
  cond (decide ((x8 : Int) < 0)) (
  Q (-1) w2) (
  LD [.sl] (p_a.add 1) w2 fun (x12 : Sl) =>
  Calls Try.prog F.l_heldIntS #[x12.v, .int .i64 x8] w2 (Ret [.at (.int .i64)] fun (x14 : Int) w3 =>
  cond (decide ((x14 : Int) < 0)) (
  Q (-1) w3) (
  LD [.sl] (p_a.add 2) w3 fun (x18 : Sl) =>
  Calls Try.prog F.l_heldIntS #[x18.v, .int .i64 x14] w3 (Ret [.at (.int .i64)] fun (x20 : Int) w4 =>
  cond (decide ((x20 : Int) < 0)) (
  Q (-1) w4) (
  Q x20 w4))))))

theorem C_l_heldNetwork {Q : Int → World → Prop} {a_0 : Sl} {a_1 : Sl} {a_2 : Sl} {k : Int} {w : World} (h : V_l_heldNetwork Q a_0 a_1 a_2 k w) : Calls Try.prog F.l_heldNetwork #[.agg #[a_0.v, a_1.v, a_2.v], .int .i64 k] w (Ret [.at (.int .i64)] Q) :=
  mkC (hint := hint) (ann := annOf []) (args := [.agg #[a_0.v, a_1.v, a_2.v], .int .i64 k]) (rs := [.at (.int .i64)]) Try.func53 (by kernel_rfl) (by kernel_rfl) h

def V_l_szEndSS (Q : Int → World → Prop) (a : Sl) (left : Int) (w : World) : Prop :=
  cond (decide (((IntKind.i64.wrap (left - a.len)) : Int) < 0)) (
  Q (-1) w) (
  ∃ (I5 : Int → Int → World → Prop) (m5 : Int → Int → World → Nat), I5 (IntKind.i64.wrap (left - a.len)) 0 w ∧ ∀ (left_2 : Int) (i : Int) w1, I5 left_2 i w1 → ∀ _ _ _ _ _ _ _ _ _ _ _ _ _ _ _ : Value,
  cond (decide ((i : Int) < a.len)) (
  IX a i 1 fun (px20 : Addr) =>
  LD [.sl] px20 w1 fun (x21 : Sl) =>
  Calls Try.prog F.l_szEndS #[x21.v, .int .i64 left_2] w1 (Ret [.at (.int .i64)] fun (x23 : Int) w2 =>
  cond (decide ((x23 : Int) < 0)) (
  Q (-1) w2) (
  I5 x23 (IntKind.i64.wrap (i + 1)) w2 ∧ m5 x23 (IntKind.i64.wrap (i + 1)) w2 < m5 left_2 i w1))) (
  Q left_2 w1))

theorem C_l_szEndSS {Q : Int → World → Prop} {a : Sl} {left : Int} {w : World} (h : V_l_szEndSS Q a left w) : Calls Try.prog F.l_szEndSS #[a.v, .int .i64 left] w (Ret [.at (.int .i64)] Q) :=
  mkC (hint := hint) (ann := annOf [(5, ⟨[(1, .int .i64), (5, .int .i64)], [4, 12, 13, 14, 15, 16, 17, 18, 19, 20, 21, 22, 23, 24, 25]⟩)]) (args := [a.v, .int .i64 left]) (rs := [.at (.int .i64)]) Try.func54 (by kernel_rfl) (by kernel_rfl) h

def V_l_szIntS (Q : Int → World → Prop) (a : Sl) (left : Int) (w : World) : Prop :=
  cond (decide (((IntKind.i64.wrap (left - a.len)) : Int) < 0)) (
  Q (-1) w) (
  Q (IntKind.i64.wrap (left - a.len)) w)

theorem C_l_szIntS {Q : Int → World → Prop} {a : Sl} {left : Int} {w : World} (h : V_l_szIntS Q a left w) : Calls Try.prog F.l_szIntS #[a.v, .int .i64 left] w (Ret [.at (.int .i64)] Q) :=
  mkC (hint := hint) (ann := annOf []) (args := [a.v, .int .i64 left]) (rs := [.at (.int .i64)]) Try.func55 (by kernel_rfl) (by kernel_rfl) h

def V_s_neGood_k1 (Q : Bool → World → Prop) (px1 : Addr) (w5 : World) : Prop :=
  LD [.sl] (px1.add 0) w5 fun (x37 : Sl) =>
  ∃ (I4 : Int → World → Prop) (m4 : Int → World → Nat), I4 0 w5 ∧ ∀ (x39 : Int) w6, I4 x39 w6 → ∀ _ _ _ _ _ _ _ _ _ _ _ _ _ _ _ _ _ _ _ _ _ _ _ _ _ _ _ _ _ _ _ _ _ _ _ _ _ _ _ _ _ _ _ _ _ _ _ _ _ _ _ _ _ _ _ _ _ _ _ : Value,
  cond (decide ((x39 : Int) < x37.len)) (
  IX x37 x39 1 fun (px42 : Addr) =>
  LD [.sl] px42 w6 fun (x43 : Sl) =>
  cond (decide ((x43.len : Int) > 6)) (
  Q false w6) (
  ∃ (I9 : Int → World → Prop) (m9 : Int → World → Nat), I9 0 w6 ∧ ∀ (x49 : Int) w7, I9 x49 w7 → ∀ _ _ _ _ _ _ _ _ _ _ _ _ _ _ _ _ _ _ _ _ _ _ _ _ _ _ _ _ _ _ _ _ _ _ _ _ _ _ _ _ _ _ _ _ _ _ : Value,
  cond (decide ((x49 : Int) < x43.len)) (
  IX x43 x49 2 fun (px52 : Addr) =>
  LD [.int .i64, .int .i64] px52 w7 fun (x53_0 : Int) (x53_1 : Int) =>
  NEW T.t_i_End #[.int .i64 0, .int .i64 0] w7 fun (px6 : Addr) w8 =>
  ST px6 0 [.int .i64 x53_0, .int .i64 x53_1] w8 fun w9 =>
  LD [.int .i64] (px6.add 0) w9 fun (x55 : Int) =>
  LD [.sl] (px1.add 0) w9 fun (x57 : Sl) =>
  QCALL Try.prog F.s_l1In #[.int .i64 x55, .int .i64 0, .int .i64 (IntKind.i64.wrap (x57.len - 1))] w9 [.at .bool] fun (x60 : Bool) =>
  cond (!x60) (
  ∀ w10, Ext w9 w10 →
  Q false w10) (
  LD [.int .i64] (px6.add 1) w9 fun (x64 : Int) =>
  LD [.sl] (px1.add 0) w9 fun (x66 : Sl) =>
  LD [.int .i64] (px6.add 0) w9 fun (x68 : Int) =>
  IX x66 x68 1 fun (px69 : Addr) =>
  LD [.sl] px69 w9 fun (x70 : Sl) =>
  QCALL Try.prog F.s_l1In #[.int .i64 x64, .int .i64 0, .int .i64 (IntKind.i64.wrap (x70.len - 1))] w9 [.at .bool] fun (x73 : Bool) =>
  cond (!x73) (
  ∀ w11, Ext w9 w11 →
  Q false w11) (
  LD [.sl] (px1.add 0) w9 fun (x78 : Sl) =>
  LD [.int .i64] (px6.add 0) w9 fun (x80 : Int) =>
  IX x78 x80 1 fun (px81 : Addr) =>
  LD [.sl] px81 w9 fun (x82 : Sl) =>
  LD [.int .i64] (px6.add 1) w9 fun (x84 : Int) =>
  IX x82 x84 2 fun (px85 : Addr) =>
  LD [.int .i64, .int .i64] px85 w9 fun (x86_0 : Int) (x86_1 : Int) =>
  AEQ Try.prog (do eqGuard .neq T.t_i_End (.tmp 86) (.tmp 89) (.agg #[.int .i64 x86_0, .int .i64 x86_1]) (.agg #[.int .i64 x39, .int .i64 x49]); binOp .neq T.t_i_End (.agg #[.int .i64 x86_0, .int .i64 x86_1]) (.agg #[.int .i64 x39, .int .i64 x49])) fun (x90 : Bool) =>
  ∀ w12, Ext w9 w12 →
  cond x90 (
  Q false w12) (
  I9 (IntKind.i64.wrap (x49 + 1)) w12 ∧ m9 (IntKind.i64.wrap (x49 + 1)) w12 < m9 x49 w7)))) (
  I4 (IntKind.i64.wrap (x39 + 1)) w7 ∧ m4 (IntKind.i64.wrap (x39 + 1)) w7 < m4 x39 w6))) (
  Q true w6)

def V_s_neGood (Q : Bool → World → Prop) (x0_0 : Sl) (x0_1 : Sl) (x0_2 : Sl) (w : World) : Prop :=
  NEW T.t_i_Network #[x0_0.v, x0_1.v, x0_2.v] w fun (px1 : Addr) w1 =>
  LD [.sl] (px1.add 0) w1 fun (x8 : Sl) =>
  Calls Try.prog F.s_l1In #[.int .i64 x8.len, .int .i64 1, .int .i64 40] w1 (Ret [.at .bool] fun (x10 : Bool) w2 =>
  cond (!x10) (
  Q false w2) (
  LD [.sl] (px1.add 1) w2 fun (x14 : Sl) =>
  LD [.sl] (px1.add 0) w2 fun (x16 : Sl) =>
  Calls Try.prog F.s_neIds #[x14.v, .int .i64 x16.len] w2 (Ret [.at .bool] fun (x18 : Bool) w3 =>
  cond (!x18) (
  Q false w3) (
  LD [.sl] (px1.add 2) w3 fun (x23 : Sl) =>
  LD [.sl] (px1.add 0) w3 fun (x26 : Sl) =>
  cond ((x23.len : Int) != x26.len) (
  Q false w3) (
  LD [.sl] (px1.add 2) w3 fun (x32 : Sl) =>
  Calls Try.prog F.s_l1All #[x32.v, .int .i64 0, .int .i64 9] w3 (Ret [.at .bool] fun (x33 : Bool) w4 =>
  cond (!x33) (
  Q false w4) (
  V_s_neGood_k1 Q px1 w4)))))))

theorem C_s_neGood {Q : Bool → World → Prop} {x0_0 : Sl} {x0_1 : Sl} {x0_2 : Sl} {w : World} (h : V_s_neGood Q x0_0 x0_1 x0_2 w) : Calls Try.prog F.s_neGood #[.agg #[x0_0.v, x0_1.v, x0_2.v]] w (Ret [.at .bool] Q) :=
  mkC (hint := hint) (ann := annOf [(4, ⟨[(39, .int .i64)], [2, 3, 4, 5, 6, 40, 41, 42, 43, 44, 45, 46, 47, 48, 49, 50, 51, 52, 53, 54, 55, 56, 57, 58, 59, 60, 61, 62, 63, 64, 65, 66, 67, 68, 69, 70, 71, 72, 73, 74, 75, 76, 77, 78, 79, 80, 81, 82, 83, 84, 85, 86, 87, 88, 89, 90, 91, 92, 93]⟩), (9, ⟨[(49, .int .i64)], [2, 5, 6, 50, 51, 52, 53, 54, 55, 56, 57, 58, 59, 60, 61, 62, 63, 64, 65, 66, 67, 68, 69, 70, 71, 72, 73, 74, 75, 76, 77, 78, 79, 80, 81, 82, 83, 84, 85, 86, 87, 88, 89, 90, 91, 92]⟩)]) (args := [.agg #[x0_0.v, x0_1.v, x0_2.v]]) (rs := [.at .bool]) Try.func56 (by kernel_rfl) (by kernel_rfl) h

def V_s_clEdges (Q : Bool → World → Prop) (x0_0 : Sl) (x0_1 : Sl) (x0_2 : Sl) (x1 : Sl) (w : World) : Prop :=
  NEW T.t_i_Network #[x0_0.v, x0_1.v, x0_2.v] w fun (px2 : Addr) w1 =>
  LD [.sl] (px2.add 0) w1 fun (x16 : Sl) =>
  cond ((x1.len : Int) != x16.len) (
  Q false w1) (
  ∃ (I4 : Int → World → Prop) (m4 : Int → World → Nat), I4 0 w1 ∧ ∀ (x21 : Int) w2, I4 x21 w2 → ∀ _ _ _ _ _ _ _ _ _ _ _ _ _ _ _ _ _ _ _ _ _ _ _ _ _ _ _ _ _ _ _ _ _ _ _ _ _ : Value,
  cond (decide ((x21 : Int) < x1.len)) (
  IX x1 x21 1 fun (px24 : Addr) =>
  LD [.sl] px24 w2 fun (x25 : Sl) =>
  LD [.sl] (px2.add 0) w2 fun (x29 : Sl) =>
  IX x29 x21 1 fun (px31 : Addr) =>
  LD [.sl] px31 w2 fun (x32 : Sl) =>
  cond ((x25.len : Int) != x32.len) (
  Q false w2) (
  Calls Try.prog F.s_l1All #[x25.v, .int .i64 0, .int .i64 1000000000000] w2 (Ret [.at .bool] fun (x37 : Bool) w3 =>
  cond (!x37) (
  Q false w3) (
  ∃ (I9_2 : Int → World → Prop) (m9_2 : Int → World → Nat), I9_2 0 w3 ∧ ∀ (x42_2 : Int) w6, I9_2 x42_2 w6 → ∀ _ _ _ _ _ _ _ _ _ _ _ _ _ : Value,
  cond (decide ((x42_2 : Int) < x25.len)) (
  IX x25 x42_2 1 fun (px45_2 : Addr) =>
  LD [.int .i64] px45_2 w6 fun (x46_2 : Int) =>
  SLC x25 none (some x42_2) 1 fun (x49_2 : Sl) =>
  Calls Try.prog F.s_l1Has #[x49_2.v, .int .i64 x46_2] w6 (Ret [.at .bool] fun (x51_2 : Bool) w7 =>
  cond x51_2 (
  Q false w7) (
  I9_2 (IntKind.i64.wrap (x42_2 + 1)) w7 ∧ m9_2 (IntKind.i64.wrap (x42_2 + 1)) w7 < m9_2 x42_2 w6))) (
  I4 (IntKind.i64.wrap (x21 + 1)) w6 ∧ m4 (IntKind.i64.wrap (x21 + 1)) w6 < m4 x21 w2))))) (
  ∃ (I16 : Int → World → Prop) (m16 : Int → World → Nat), I16 0 w2 ∧ ∀ (x56 : Int) w8, I16 x56 w8 → ∀ _ _ _ _ _ _ _ _ _ _ _ _ _ _ _ _ _ _ _ _ _ _ _ _ _ _ _ _ _ _ _ _ _ _ _ _ : Value,
  cond (decide ((x56 : Int) < x1.len)) (
  IX x1 x56 1 fun (px59 : Addr) =>
  LD [.sl] px59 w8 fun (x60 : Sl) =>
  LD [.sl] (px2.add 0) w8 fun (x62 : Sl) =>
  IX x62 x56 1 fun (px64 : Addr) =>
  LD [.sl] px64 w8 fun (x65 : Sl) =>
  ∃ (I19 : Int → World → Prop) (m19 : Int → World → Nat), I19 0 w8 ∧ ∀ (x67 : Int) w9, I19 x67 w9 → ∀ _ _ _ _ _ _ _ _ _ _ _ _ _ _ _ _ _ _ _ _ _ _ : Value,
  cond (decide ((x67 : Int) < x65.len)) (
  IX x65 x67 2 fun (px70 : Addr) =>
  LD [.int .i64, .int .i64] px70 w9 fun (x71_0 : Int) (x71_1 : Int) =>
  NEW T.t_i_End #[.int .i64 0, .int .i64 0] w9 fun (px12 : Addr) w10 =>
  ST px12 0 [.int .i64 x71_0, .int .i64 x71_1] w10 fun w11 =>
  LD [.int .i64] (px12.add 0) w11 fun (x74 : Int) =>
  IX x1 x74 1 fun (px75 : Addr) =>
  LD [.sl] px75 w11 fun (x76 : Sl) =>
  LD [.int .i64] (px12.add 1) w11 fun (x78 : Int) =>
  IX x76 x78 1 fun (px79 : Addr) =>
  LD [.int .i64] px79 w11 fun (x80 : Int) =>
  IX x60 x67 1 fun (px83 : Addr) =>
  LD [.int .i64] px83 w11 fun (x84 : Int) =>
  ∀ w12, Ext w11 w12 →
  cond ((x80 : Int) != x84) (
  Q false w12) (
  I19 (IntKind.i64.wrap (x67 + 1)) w12 ∧ m19 (IntKind.i64.wrap (x67 + 1)) w12 < m19 x67 w9)) (
  I16 (IntKind.i64.wrap (x56 + 1)) w9 ∧ m16 (IntKind.i64.wrap (x56 + 1)) w9 < m16 x56 w8)) (
  Q true w8)))

theorem C_s_clEdges {Q : Bool → World → Prop} {x0_0 : Sl} {x0_1 : Sl} {x0_2 : Sl} {x1 : Sl} {w : World} (h : V_s_clEdges Q x0_0 x0_1 x0_2 x1 w) : Calls Try.prog F.s_clEdges #[.agg #[x0_0.v, x0_1.v, x0_2.v], x1.v] w (Ret [.at .bool] Q) :=
  mkC (hint := hint) (ann := annOf [(4, ⟨[(21, .int .i64)], [4, 5, 6, 7, 8, 22, 23, 24, 25, 26, 27, 28, 29, 30, 31, 32, 33, 34, 35, 36, 37, 38, 39, 40, 41, 42, 43, 44, 45, 46, 47, 48, 49, 50, 51, 52, 53]⟩), (9, ⟨[(42, .int .i64)], [4, 7, 8, 43, 44, 45, 46, 47, 48, 49, 50, 51, 52]⟩), (16, ⟨[(56, .int .i64)], [4, 9, 10, 11, 12, 57, 58, 59, 60, 61, 62, 63, 64, 65, 66, 67, 68, 69, 70, 71, 72, 73, 74, 75, 76, 77, 78, 79, 80, 81, 82, 83, 84, 85, 86, 87]⟩), (19, ⟨[(67, .int .i64)], [4, 11, 12, 68, 69, 70, 71, 72, 73, 74, 75, 76, 77, 78, 79, 80, 81, 82, 83, 84, 85, 86]⟩)]) (args := [.agg #[x0_0.v, x0_1.v, x0_2.v], x1.v]) (rs := [.at .bool]) Try.func57 (by kernel_rfl) (by kernel_rfl) h

def V_l_toEndSS (Q : Sl → World → Prop) (a : Sl) (w : World) : Prop :=
  RUN Try.prog (.at .sl) (Instr.makeSlice T.t_sl_sl_i_End (.int .i64 a.len) (.int .i64 a.len)) w fun (x7 : Sl) w1 =>
  ∃ (I3 : Int → World → Prop) (m3 : Int → World → Nat), I3 0 w1 ∧ ∀ (i : Int) w2, I3 i w2 → ∀ _ _ _ _ _ _ _ _ _ _ _ _ _ _ : Value,
  cond (decide ((i : Int) < a.len)) (
  IX a i 1 fun (px18 : Addr) =>
  LD [.sl] px18 w2 fun (x19 : Sl) =>
  Calls Try.prog F.l_toEndS #[x19.v] w2 (Ret [.at .sl] fun (x20 : Sl) w3 =>
  IX x7 i 1 fun (px21 : Addr) =>
  ST px21 0 [x20.v] w3 fun w4 =>
  I3 (IntKind.i64.wrap (i + 1)) w4 ∧ m3 (IntKind.i64.wrap (i + 1)) w4 < m3 i w2)) (
  Q x7 w2)

theorem C_l_toEndSS {Q : Sl → World → Prop} {a : Sl} {w : World} (h : V_l_toEndSS Q a w) : Calls Try.prog F.l_toEndSS #[a.v] w (Ret [.at .sl] Q) :=
  mkC (hint := hint) (ann := annOf [(3, ⟨[(4, .int .i64)], [8, 9, 10, 11, 12, 13, 14, 15, 16, 17, 18, 19, 20, 21]⟩)]) (args := [a.v]) (rs := [.at .sl]) Try.func58 (by kernel_rfl) (by kernel_rfl) h

def V_i_IsNetwork_k1 (Q : Bool → World → Prop) (px1 : Addr) (w5 : World) : Prop :=
  LD [.sl] (px1.add 0) w5 fun (x31 : Sl) =>
  ∃ (I4 : Int → World → Prop) (m4 : Int → World → Nat), I4 0 w5 ∧ ∀ (x33 : Int) w6, I4 x33 w6 → ∀ _ _ _ _ _ _ _ _ _ _ _ _ _ _ _ _ _ _ _ _ _ _ _ _ _ _ _ _ _ _ _ _ _ _ _ _ _ _ _ _ _ _ _ _ : Value,
  cond (decide ((x33 : Int) < x31.len)) (
  IX x31 x33 1 fun (px36 : Addr) =>
  LD [.sl] px36 w6 fun (x37 : Sl) =>
  cond (decide ((x37.len : Int) > 6)) (
  Q false w6) (
  ∃ (I9 : Int → World → Prop) (m9 : Int → World → Nat), I9 0 w6 ∧ ∀ (x43 : Int) w7, I9 x43 w7 → ∀ _ _ _ _ _ _ _ _ _ _ _ _ _ _ _ _ _ _ _ _ _ _ _ _ _ _ _ _ _ _ _ : Value,
  cond (decide ((x43 : Int) < x37.len)) (
  IX x37 x43 2 fun (px46 : Addr) =>
  LD [.int .i64, .int .i64] px46 w7 fun (x47_0 : Int) (x47_1 : Int) =>
  NEW T.t_i_End #[.int .i64 0, .int .i64 0] w7 fun (px6 : Addr) w8 =>
  ST px6 0 [.int .i64 x47_0, .int .i64 x47_1] w8 fun w9 =>
  LD [.sl, .sl, .sl] px1 w9 fun (x48_0 : Sl) (x48_1 : Sl) (x48_2 : Sl) =>
  LD [.int .i64] (px6.add 0) w9 fun (x50 : Int) =>
  LD [.int .i64] (px6.add 1) w9 fun (x52 : Int) =>
  QCALL Try.prog F.i_Network_hasPort #[.agg #[x48_0.v, x48_1.v, x48_2.v], .int .i64 x50, .int .i64 x52] w9 [.at .bool] fun (x53 : Bool) =>
  cond (!x53) (
  ∀ w10, Ext w9 w10 →
  Q false w10) (
  LD [.sl] (px1.add 0) w9 fun (x57 : Sl) =>
  LD [.int .i64] (px6.add 0) w9 fun (x59 : Int) =>
  IX x57 x59 1 fun (px60 : Addr) =>
  LD [.sl] px60 w9 fun (x61 : Sl) =>
  LD [.int .i64] (px6.add 1) w9 fun (x63 : Int) =>
  IX x61 x63 2 fun (px64 : Addr) =>
  LD [.int .i64, .int .i64] px64 w9 fun (x65_0 : Int) (x65_1 : Int) =>
  AEQ Try.prog (do eqGuard .neq T.t_i_End (.tmp 65) (.tmp 68) (.agg #[.int .i64 x65_0, .int .i64 x65_1]) (.agg #[.int .i64 x33, .int .i64 x43]); binOp .neq T.t_i_End (.agg #[.int .i64 x65_0, .int .i64 x65_1]) (.agg #[.int .i64 x33, .int .i64 x43])) fun (x69 : Bool) =>
  ∀ w11, Ext w9 w11 →
  cond x69 (
  Q false w11) (
  I9 (IntKind.i64.wrap (x43 + 1)) w11 ∧ m9 (IntKind.i64.wrap (x43 + 1)) w11 < m9 x43 w7))) (
  I4 (IntKind.i64.wrap (x33 + 1)) w7 ∧ m4 (IntKind.i64.wrap (x33 + 1)) w7 < m4 x33 w6))) (
  Q true w6)

def V_i_IsNetwork (Q : Bool → World → Prop) (x0_0 : Sl) (x0_1 : Sl) (x0_2 : Sl) (w : World) : Prop :=
  NEW T.t_i_Network #[x0_0.v, x0_1.v, x0_2.v] w fun (px1 : Addr) w1 =>
  LD [.sl] (px1.add 0) w1 fun (x8 : Sl) =>
  Calls Try.prog F.i_within #[.int .i64 x8.len, .int .i64 1, .int .i64 40] w1 (Ret [.at .bool] fun (x10 : Bool) w2 =>
  cond (!x10) (
  Q false w2) (
  LD [.sl] (px1.add 1) w2 fun (x14 : Sl) =>
  LD [.sl] (px1.add 0) w2 fun (x16 : Sl) =>
  Calls Try.prog F.i_idsOk #[x14.v, .int .i64 x16.len] w2 (Ret [.at .bool] fun (x18 : Bool) w3 =>
  cond (!x18) (
  Q false w3) (
  LD [.sl] (px1.add 2) w3 fun (x23 : Sl) =>
  LD [.sl] (px1.add 0) w3 fun (x25 : Sl) =>
  Calls Try.prog F.i_inputsOk #[x23.v, .int .i64 x25.len] w3 (Ret [.at .bool] fun (x27 : Bool) w4 =>
  cond (!x27) (
  Q false w4) (
  V_i_IsNetwork_k1 Q px1 w4))))))

theorem C_i_IsNetwork {Q : Bool → World → Prop} {x0_0 : Sl} {x0_1 : Sl} {x0_2 : Sl} {w : World} (h : V_i_IsNetwork Q x0_0 x0_1 x0_2 w) : Calls Try.prog F.i_IsNetwork #[.agg #[x0_0.v, x0_1.v, x0_2.v]] w (Ret [.at .bool] Q) :=
  mkC (hint := hint) (ann := annOf [(4, ⟨[(33, .int .i64)], [2, 3, 4, 5, 6, 34, 35, 36, 37, 38, 39, 40, 41, 42, 43, 44, 45, 46, 47, 48, 49, 50, 51, 52, 53, 54, 55, 56, 57, 58, 59, 60, 61, 62, 63, 64, 65, 66, 67, 68, 69, 70, 71, 72]⟩), (9, ⟨[(43, .int .i64)], [2, 5, 6, 44, 45, 46, 47, 48, 49, 50, 51, 52, 53, 54, 55, 56, 57, 58, 59, 60, 61, 62, 63, 64, 65, 66, 67, 68, 69, 70, 71]⟩)]) (args := [.agg #[x0_0.v, x0_1.v, x0_2.v]]) (rs := [.at .bool]) Try.func59 (by kernel_rfl) (by kernel_rfl) h

def V_i_isEdgeColouring (Q : Bool → World → Prop) (n_0 : Sl) (n_1 : Sl) (n_2 : Sl) (l : Sl) (w : World) : Prop :=
  NEW T.t_i_Network #[n_0.v, n_1.v, n_2.v] w fun (p_n : Addr) w1 =>
  LD [.sl, .sl, .sl] p_n w1 fun (x9_0 : Sl) (x9_1 : Sl) (x9_2 : Sl) =>
  Calls Try.prog F.i_portsOk #[.agg #[x9_0.v, x9_1.v, x9_2.v], l.v] w1 (Ret [.at .bool] fun (x11 : Bool) w2 =>
  cond (!x11) (
  Q false w2) (
  ∃ (I4 : Int → World → Prop) (m4 : Int → World → Nat), I4 0 w2 ∧ ∀ (x15 : Int) w3, I4 x15 w3 → ∀ _ _ _ _ _ _ _ _ _ _ _ _ _ _ _ _ _ _ _ _ _ _ _ _ _ _ _ _ _ _ _ _ _ _ _ _ _ _ _ _ _ : Value,
  cond (decide ((x15 : Int) < l.len)) (
  IX l x15 1 fun (px18 : Addr) =>
  LD [.sl] px18 w3 fun (x19 : Sl) =>
  Calls Try.prog F.slices_Values_sl_int_int #[x19.v] w3 (Ret [.at .val] fun (x21 : Value) w4 =>
  Calls Try.prog F.slices_Sorted_int #[x21] w4 (Ret [.at .sl] fun (x22 : Sl) w5 =>
  Calls Try.prog F.i_increasing #[x22.v, .int .i64 0, .int .i64 1000000000000] w5 (Ret [.at .bool] fun (x23 : Bool) w6 =>
  cond (!x23) (
  Q false w6) (
  LD [.sl] (p_n.add 0) w6 fun (x26 : Sl) =>
  IX x26 x15 1 fun (px28 : Addr) =>
  LD [.sl] px28 w6 fun (x29 : Sl) =>
  ∃ (I9 : Int → World → Prop) (m9 : Int → World → Nat), I9 0 w6 ∧ ∀ (x31 : Int) w7, I9 x31 w7 → ∀ _ _ _ _ _ _ _ _ _ _ _ _ _ _ _ _ _ _ _ _ _ _ : Value,
  cond (decide ((x31 : Int) < x29.len)) (
  IX x29 x31 2 fun (px34 : Addr) =>
  LD [.int .i64, .int .i64] px34 w7 fun (x35_0 : Int) (x35_1 : Int) =>
  NEW T.t_i_End #[.int .i64 0, .int .i64 0] w7 fun (p_e : Addr) w8 =>
  ST p_e 0 [.int .i64 x35_0, .int .i64 x35_1] w8 fun w9 =>
  IX x19 x31 1 fun (px38 : Addr) =>
  LD [.int .i64] px38 w9 fun (x39 : Int) =>
  LD [.int .i64] (p_e.add 0) w9 fun (x42 : Int) =>
  IX l x42 1 fun (px43 : Addr) =>
  LD [.sl] px43 w9 fun (x44 : Sl) =>
  LD [.int .i64] (p_e.add 1) w9 fun (x46 : Int) =>
  IX x44 x46 1 fun (px47 : Addr) =>
  LD [.int .i64] px47 w9 fun (x48 : Int) =>
  ∀ w10, Ext w9 w10 →
  cond ((x39 : Int) != x48) (
  Q false w10) (
  I9 (IntKind.i64.wrap (x31 + 1)) w10 ∧ m9 (IntKind.i64.wrap (x31 + 1)) w10 < m9 x31 w7)) (
  I4 (IntKind.i64.wrap (x15 + 1)) w7 ∧ m4 (IntKind.i64.wrap (x15 + 1)) w7 < m4 x15 w3)))))) (
  Q true w3)))

theorem C_i_isEdgeColouring {Q : Bool → World → Prop} {n_0 : Sl} {n_1 : Sl} {n_2 : Sl} {l : Sl} {w : World} (h : V_i_isEdgeColouring Q n_0 n_1 n_2 l w) : Calls Try.prog F.i_isEdgeColouring #[.agg #[n_0.v, n_1.v, n_2.v], l.v] w (Ret [.at .bool] Q) :=
  mkC (hint := hint) (ann := annOf [(4, ⟨[(15, .int .i64)], [4, 5, 6, 7, 8, 16, 17, 18, 19, 20, 21, 22, 23, 24, 25, 26, 27, 28, 29, 30, 31, 32, 33, 34, 35, 36, 37, 38, 39, 40, 41, 42, 43, 44, 45, 46, 47, 48, 49, 50, 51]⟩), (9, ⟨[(31, .int .i64)], [4, 7, 8, 32, 33, 34, 35, 36, 37, 38, 39, 40, 41, 42, 43, 44, 45, 46, 47, 48, 49, 50]⟩)]) (args := [.agg #[n_0.v, n_1.v, n_2.v], l.v]) (rs := [.at .bool]) Try.func60 (by kernel_rfl) (by kernel_rfl) h

def V_l_eqEndSS (Q : Bool → World → Prop) (a : Sl) (b : Sl) (w : World) : Prop :=
  cond ((a.len : Int) != b.len) (
  Q false w) (
  ∃ (I4 : Int → World → Prop) (m4 : Int → World → Nat), I4 0 w ∧ ∀ (i : Int) w1, I4 i w1 → ∀ _ _ _ _ _ _ _ _ _ _ _ _ _ _ _ _ _ : Value,
  cond (decide ((i : Int) < a.len)) (
  IX a i 1 fun (px19 : Addr) =>
  LD [.sl] px19 w1 fun (x20 : Sl) =>
  IX b i 1 fun (px23 : Addr) =>
  LD [.sl] px23 w1 fun (x24 : Sl) =>
  QCALL Try.prog F.l_eqEndS #[x20.v, x24.v] w1 [.at .bool] fun (x25 : Bool) =>
  ∀ w2, Ext w1 w2 →
  cond (!x25) (
  Q false w2) (
  I4 (IntKind.i64.wrap (i + 1)) w2 ∧ m4 (IntKind.i64.wrap (i + 1)) w2 < m4 i w1)) (
  Q true w1))

theorem C_l_eqEndSS {Q : Bool → World → Prop} {a : Sl} {b : Sl} {w : World} (h : V_l_eqEndSS Q a b w) : Calls Try.prog F.l_eqEndSS #[a.v, b.v] w (Ret [.at .bool] Q) :=
  mkC (hint := hint) (ann := annOf [(4, ⟨[(5, .int .i64)], [4, 11, 12, 13, 14, 15, 16, 17, 18, 19, 20, 21, 22, 23, 24, 25, 26]⟩)]) (args := [a.v, b.v]) (rs := [.at .bool]) Try.func61 (by kernel_rfl) (by kernel_rfl) h

def V_s_ruColours (Q : Bool → World → Prop) (n_0 : Sl) (n_1 : Sl) (n_2 : Sl) (l : Sl) (w : World) : Prop :=
  NEW T.t_i_Network #[n_0.v, n_1.v, n_2.v] w fun (p_n : Addr) w1 =>
  LD [.sl, .sl, .sl] p_n w1 fun (x5_0 : Sl) (x5_1 : Sl) (x5_2 : Sl) =>
  Calls Try.prog F.s_neGood #[.agg #[x5_0.v, x5_1.v, x5_2.v]] w1 (Ret [.at .bool] fun (x6 : Bool) w2 =>
  cond x6 (
  LD [.sl] (p_n.add 0) w2 fun (x11 : Sl) =>
  cond ((l.len : Int) == x11.len) (
  Calls Try.prog F.s_l1All #[l.v, .int .i64 0, .int .i64 1000000000000] w2 (Ret [.at .bool] fun (x17 : Bool) w3 =>
  Q x17 w3)) (
  Q false w2)) (
  Q false w2))

theorem C_s_ruColours {Q : Bool → World → Prop} {n_0 : Sl} {n_1 : Sl} {n_2 : Sl} {l : Sl} {w : World} (h : V_s_ruColours Q n_0 n_1 n_2 l w) : Calls Try.prog F.s_ruColours #[.agg #[n_0.v, n_1.v, n_2.v], l.v] w (Ret [.at .bool] Q) :=
  mkC (hint := hint) (ann := annOf []) (args := [.agg #[n_0.v, n_1.v, n_2.v], l.v]) (rs := [.at .bool]) Try.func62 (by kernel_rfl) (by kernel_rfl) h

def V_s_l1In (Q : Bool → World → Prop) (n : Int) (lo : Int) (hi : Int) (w : World) : Prop :=
  cond (decide ((n : Int) ≥ lo)) (
  Q (decide ((n : Int) ≤ hi)) w) (
  Q false w)

theorem C_s_l1In {Q : Bool → World → Prop} {n : Int} {lo : Int} {hi : Int} {w : World} (h : V_s_l1In Q n lo hi w) : Calls Try.prog F.s_l1In #[.int .i64 n, .int .i64 lo, .int .i64 hi] w (Ret [.at .bool] Q) :=
  mkC (hint := hint) (ann := annOf []) (args := [.int .i64 n, .int .i64 lo, .int .i64 hi]) (rs := [.at .bool]) Try.func63 (by kernel_rfl) (by kernel_rfl) h

def V_s_meFrom (Q : Sl → World → Prop) (x0_0 : Sl) (x0_1 : Sl) (x0_2 : Sl) (x1 : Int) (w : World) : Prop :=
  NEW T.t_i_Network #[x0_0.v, x0_1.v, x0_2.v] w fun (px2 : Addr) w1 =>
  LD [.sl] (px2.add 0) w1 fun (x12 : Sl) =>
  RUN Try.prog (.at .sl) (Instr.makeSlice T.t_sl_int (.int .i64 x12.len) (.int .i64 x12.len)) w1 fun (x14 : Sl) w2 =>
  ∃ (I3 : Int → World → Prop) (m3 : Int → World → Nat), I3 0 w2 ∧ ∀ (x17 : Int) w3, I3 x17 w3 → ∀ _ _ _ _ _ _ _ : Value,
  cond (decide ((x17 : Int) < x14.len)) (
  IX x14 x17 1 fun (px22 : Addr) =>
  ST px22 0 [.int .i64 (-1)] w3 fun w4 =>
  I3 (IntKind.i64.wrap (x17 + 1)) w4 ∧ m3 (IntKind.i64.wrap (x17 + 1)) w4 < m3 x17 w3) (
  IX x14 x1 1 fun (px26 : Addr) =>
  ST px26 0 [.int .i64 0] w3 fun w5 =>
  RUN Try.prog (.at .sl) (Instr.buildSlice T.t_sl_int 1 #[(0, .int .i64 x1)]) w5 fun (x28 : Sl) w6 =>
  ∃ (I10 : Sl → Int → World → Prop) (m10 : Sl → Int → World → Nat), I10 x28 0 w6 ∧ ∀ (x7 : Sl) (x8 : Int) w7, I10 x7 x8 w7 → ∀ _ _ _ _ _ _ _ _ _ _ _ _ _ _ _ _ _ _ _ _ _ _ _ _ _ _ _ _ _ _ _ _ _ _ _ _ _ _ _ : Value,
  cond (decide ((x8 : Int) < x7.len)) (
  ∀ w8, Ext w7 w8 → w8.heap = w7.heap →
  LD [.sl, .sl, .sl] px2 w8 fun (x35_0 : Sl) (x35_1 : Sl) (x35_2 : Sl) =>
  IX x7 x8 1 fun (px38 : Addr) =>
  LD [.int .i64] px38 w8 fun (x39 : Int) =>
  Calls Try.prog F.s_neNear #[.agg #[x35_0.v, x35_1.v, x35_2.v], .int .i64 x39] w8 (Ret [.at .sl] fun (x40 : Sl) w9 =>
  Ext w8 w9 ∧ (
  Ext w8 w9 ∧ (
  ∃ (I13 : Sl → Int → World → Prop) (m13 : Sl → Int → World → Nat), I13 x7 0 w9 ∧ ∀ (x7_2 : Sl) (x42 : Int) w10, I13 x7_2 x42 w10 → ∀ _ _ _ _ _ _ _ _ _ _ _ _ _ _ _ _ _ _ _ _ _ _ _ _ _ : Value,
  cond (decide ((x42 : Int) < x40.len)) (
  IX x40 x42 1 fun (px44 : Addr) =>
  LD [.int .i64] px44 w10 fun (x45 : Int) =>
  IX x14 x45 1 fun (px48 : Addr) =>
  LD [.int .i64] px48 w10 fun (x49 : Int) =>
  cond (decide ((x49 : Int) < 0)) (
  IX x7_2 x8 1 fun (px56 : Addr) =>
  LD [.int .i64] px56 w10 fun (x57 : Int) =>
  IX x14 x57 1 fun (px58 : Addr) =>
  LD [.int .i64] px58 w10 fun (x59 : Int) =>
  IX x14 x45 1 fun (px61 : Addr) =>
  ST px61 0 [.int .i64 (IntKind.i64.wrap (x59 + 1))] w10 fun w11 =>
  RUN Try.prog (.at .sl) (Instr.buildSlice T.t_sl_int 1 #[(0, .int .i64 x45)]) w11 fun (x64 : Sl) w12 =>
  RUN Try.prog (.at .sl) (bsem .append #[T.t_sl_int, T.t_sl_int] T.t_sl_int #[x7_2.v, x64.v]) w12 fun (x65 : Sl) w13 =>
  I13 x65 (IntKind.i64.wrap (x42 + 1)) w13 ∧ m13 x65 (IntKind.i64.wrap (x42 + 1)) w13 < m13 x7_2 x42 w10) (
  I13 x7_2 (IntKind.i64.wrap (x42 + 1)) w10 ∧ m13 x7_2 (IntKind.i64.wrap (x42 + 1)) w10 < m13 x7_2 x42 w10)) (
  I10 x7_2 (IntKind.i64.wrap (x8 + 1)) w10 ∧ m10 x7_2 (IntKind.i64.wrap (x8 + 1)) w10 < m10 x7 x8 w7))))) (
  Q x14 w7))

theorem C_s_meFrom {Q : Sl → World → Prop} {x0_0 : Sl} {x0_1 : Sl} {x0_2 : Sl} {x1 : Int} {w : World} (h : V_s_meFrom Q x0_0 x0_1 x0_2 x1 w) : Calls Try.prog F.s_meFrom #[.agg #[x0_0.v, x0_1.v, x0_2.v], .int .i64 x1] w (Ret [.at .sl] Q) :=
  mkC (hint := hint) (ann := annOf [(3, ⟨[(17, .int .i64)], [6, 18, 19, 20, 21, 22, 23]⟩), (10, ⟨[(7, .sl), (8, .int .i64)], [10, 29, 30, 31, 32, 33, 34, 35, 36, 37, 38, 39, 40, 41, 42, 43, 44, 45, 46, 47, 48, 49, 50, 51, 52, 53, 54, 55, 56, 57, 58, 59, 60, 61, 62, 63, 64, 65, 66]⟩), (13, ⟨[(7, .sl), (42, .int .i64)], [10, 43, 44, 45, 46, 47, 48, 49, 50, 51, 52, 53, 54, 55, 56, 57, 58, 59, 60, 61, 62, 63, 64, 65, 66]⟩)]) (args := [.agg #[x0_0.v, x0_1.v, x0_2.v], .int .i64 x1]) (rs := [.at .sl]) Try.func64 (by kernel_rfl) (by kernel_rfl) h

def V_i_areColours (Q : Bool → World → Prop) (n_0 : Sl) (n_1 : Sl) (n_2 : Sl) (colours : Sl) (w : World) : Prop :=
  NEW T.t_i_Network #[n_0.v, n_1.v, n_2.v] w fun (p_n : Addr) w1 =>
  LD [.sl, .sl, .sl] p_n w1 fun (x5_0 : Sl) (x5_1 : Sl) (x5_2 : Sl) =>
  Calls Try.prog F.i_IsNetwork #[.agg #[x5_0.v, x5_1.v, x5_2.v]] w1 (Ret [.at .bool] fun (x6 : Bool) w2 =>
  cond x6 (
  LD [.sl] (p_n.add 0) w2 fun (x11 : Sl) =>
  cond ((colours.len : Int) == x11.len) (
  Calls Try.prog F.i_allWithin #[colours.v, .int .i64 0, .int .i64 1000000000000] w2 (Ret [.at .bool] fun (x17 : Bool) w3 =>
  Q x17 w3)) (
  Q false w2)) (
  Q false w2))

theorem C_i_areColours {Q : Bool → World → Prop} {n_0 : Sl} {n_1 : Sl} {n_2 : Sl} {colours : Sl} {w : World} (h : V_i_areColours Q n_0 n_1 n_2 colours w) : Calls Try.prog F.i_areColours #[.agg #[n_0.v, n_1.v, n_2.v], colours.v] w (Ret [.at .bool] Q) :=
  mkC (hint := hint) (ann := annOf []) (args := [.agg #[n_0.v, n_1.v, n_2.v], colours.v]) (rs := [.at .bool]) Try.func65 (by kernel_rfl) (by kernel_rfl) h

def V_i_within (Q : Bool → World → Prop) (n : Int) (low : Int) (high : Int) (w : World) : Prop :=
  cond (decide ((low : Int) ≤ n)) (
  Q (decide ((n : Int) ≤ high)) w) (
  Q false w)

theorem C_i_within {Q : Bool → World → Prop} {n : Int} {low : Int} {high : Int} {w : World} (h : V_i_within Q n low high w) : Calls Try.prog F.i_within #[.int .i64 n, .int .i64 low, .int .i64 high] w (Ret [.at .bool] Q) :=
  mkC (hint := hint) (ann := annOf []) (args := [.int .i64 n, .int .i64 low, .int .i64 high]) (rs := [.at .bool]) Try.func66 (by kernel_rfl) (by kernel_rfl) h

def V_i_allDistances (Q : Sl → World → Prop) (n_0 : Sl) (n_1 : Sl) (n_2 : Sl) (w : World) : Prop :=
  NEW T.t_i_Network #[n_0.v, n_1.v, n_2.v] w fun (p_n : Addr) w1 =>
  LD [.sl] (p_n.add 0) w1 fun (x6 : Sl) =>
  ∃ (I3 : Sl → Int → World → Prop) (m3 : Sl → Int → World → Nat), I3 (⟨none, 0, 0⟩) 0 w1 ∧ ∀ (out : Sl) (x8 : Int) w2, I3 out x8 w2 → ∀ _ _ _ _ _ _ _ _ _ _ : Value,
  cond (decide ((x8 : Int) < x6.len)) (
  LD [.sl, .sl, .sl] p_n w2 fun (x12_0 : Sl) (x12_1 : Sl) (x12_2 : Sl) =>
  Calls Try.prog F.i_distancesFrom #[.agg #[x12_0.v, x12_1.v, x12_2.v], .int .i64 x8] w2 (Ret [.at .sl] fun (x14 : Sl) w3 =>
  RUN Try.prog (.at .sl) (Instr.buildSlice T.t_sl_sl_int 1 #[(0, x14.v)]) w3 fun (x15 : Sl) w4 =>
  RUN Try.prog (.at .sl) (bsem .append #[T.t_sl_sl_int, T.t_sl_sl_int] T.t_sl_sl_int #[out.v, x15.v]) w4 fun (x16 : Sl) w5 =>
  I3 x16 (IntKind.i64.wrap (x8 + 1)) w5 ∧ m3 x16 (IntKind.i64.wrap (x8 + 1)) w5 < m3 out x8 w2)) (
  Q out w2)

theorem C_i_allDistances {Q : Sl → World → Prop} {n_0 : Sl} {n_1 : Sl} {n_2 : Sl} {w : World} (h : V_i_allDistances Q n_0 n_1 n_2 w) : Calls Try.prog F.i_allDistances #[.agg #[n_0.v, n_1.v, n_2.v]] w (Ret [.at .sl] Q) :=
  mkC (hint := hint) (ann := annOf [(3, ⟨[(3, .sl), (8, .int .i64)], [4, 9, 10, 11, 12, 13, 14, 15, 16, 17]⟩)]) (args := [.agg #[n_0.v, n_1.v, n_2.v]]) (rs := [.at .sl]) Try.func67 (by kernel_rfl) (by kernel_rfl) h

def V_s_mtChosen (Q : Sl → World → Prop) (nodes : Int) (bits : Int) (w : World) : Prop :=
  ∃ (I3 : Sl → Int → World → Prop) (m3 : Sl → Int → World → Nat), I3 (⟨none, 0, 0⟩) 0 w ∧ ∀ (out : Sl) (v : Int) w1, I3 out v w1 → ∀ _ _ _ _ _ _ _ _ _ _ _ _ _ _ _ : Value,
  cond (decide ((v : Int) < nodes)) (
  Calls Try.prog F.s_elHas #[.int .i64 bits, .int .i64 (IntKind.i64.wrap ((IntKind.i64.wrap (nodes - 1)) - v))] w1 (Ret [.at .bool] fun (x17 : Bool) w2 =>
  cond x17 (
  RUN Try.prog (.at .sl) (Instr.buildSlice T.t_sl_int 1 #[(0, .int .i64 v)]) w2 fun (x20 : Sl) w3 =>
  RUN Try.prog (.at .sl) (bsem .append #[T.t_sl_int, T.t_sl_int] T.t_sl_int #[out.v, x20.v]) w3 fun (x21 : Sl) w4 =>
  I3 x21 (IntKind.i64.wrap (v + 1)) w4 ∧ m3 x21 (IntKind.i64.wrap (v + 1)) w4 < m3 out v w1) (
  I3 out (IntKind.i64.wrap (v + 1)) w2 ∧ m3 out (IntKind.i64.wrap (v + 1)) w2 < m3 out v w1))) (
  Q out w1)

theorem C_s_mtChosen {Q : Sl → World → Prop} {nodes : Int} {bits : Int} {w : World} (h : V_s_mtChosen Q nodes bits w) : Calls Try.prog F.s_mtChosen #[.int .i64 nodes, .int .i64 bits] w (Ret [.at .sl] Q) :=
  mkC (hint := hint) (ann := annOf [(3, ⟨[(5, .sl), (6, .int .i64)], [7, 8, 9, 10, 11, 12, 13, 14, 15, 16, 17, 18, 19, 20, 21]⟩)]) (args := [.int .i64 nodes, .int .i64 bits]) (rs := [.at .sl]) Try.func68 (by kernel_rfl) (by kernel_rfl) h

def V_s_mtCovers (Q : Bool → World → Prop) (n_0 : Sl) (n_1 : Sl) (n_2 : Sl) (set1 : Sl) (w : World) : Prop :=
  NEW T.t_i_Network #[n_0.v, n_1.v, n_2.v] w fun (p_n : Addr) w1 =>
  LD [.sl, .sl, .sl] p_n w1 fun (x7_0 : Sl) (x7_1 : Sl) (x7_2 : Sl) =>
  Calls Try.prog F.s_neEdges #[.agg #[x7_0.v, x7_1.v, x7_2.v]] w1 (Ret [.at .sl] fun (x8 : Sl) w2 =>
  ∃ (I2 : Int → World → Prop) (m2 : Int → World → Nat), I2 0 w2 ∧ ∀ (x10 : Int) w3, I2 x10 w3 → ∀ _ _ _ _ _ _ _ _ _ _ _ _ _ _ _ _ _ _ _ _ : Value,
  cond (decide ((x10 : Int) < x8.len)) (
  IX x8 x10 1 fun (px12 : Addr) =>
  LD [.sl] px12 w3 fun (x13 : Sl) =>
  IX x13 0 1 fun (px16 : Addr) =>
  LD [.int .i64] px16 w3 fun (x17 : Int) =>
  Calls Try.prog F.s_l1Has #[set1.v, .int .i64 x17] w3 (Ret [.at .bool] fun (x18 : Bool) w4 =>
  cond (!x18) (
  IX x13 2 1 fun (px23 : Addr) =>
  LD [.int .i64] px23 w4 fun (x24 : Int) =>
  Calls Try.prog F.s_l1Has #[set1.v, .int .i64 x24] w4 (Ret [.at .bool] fun (x25 : Bool) w5 =>
  cond (!x25) (
  Q false w5) (
  I2 (IntKind.i64.wrap (x10 + 1)) w5 ∧ m2 (IntKind.i64.wrap (x10 + 1)) w5 < m2 x10 w3))) (
  I2 (IntKind.i64.wrap (x10 + 1)) w4 ∧ m2 (IntKind.i64.wrap (x10 + 1)) w4 < m2 x10 w3))) (
  Q true w3))

theorem C_s_mtCovers {Q : Bool → World → Prop} {n_0 : Sl} {n_1 : Sl} {n_2 : Sl} {set1 : Sl} {w : World} (h : V_s_mtCovers Q n_0 n_1 n_2 set1 w) : Calls Try.prog F.s_mtCovers #[.agg #[n_0.v, n_1.v, n_2.v], set1.v] w (Ret [.at .bool] Q) :=
  mkC (hint := hint) (ann := annOf [(2, ⟨[(10, .int .i64)], [4, 6, 11, 12, 13, 14, 15, 16, 17, 18, 19, 20, 21, 22, 23, 24, 25, 26, 27, 28]⟩)]) (args := [.agg #[n_0.v, n_1.v, n_2.v], set1.v]) (rs := [.at .bool]) Try.func69 (by kernel_rfl) (by kernel_rfl) h

def V_i_binomial_k1 (n : Int) (k : Int) (Q : Int → World → Prop) (w1 : World) : Prop :=
  RUN Try.prog (.at .sl) (Instr.makeSlice T.t_sl_int (.int .i64 (IntKind.i64.wrap (k + 1))) (.int .i64 (IntKind.i64.wrap (k + 1)))) w1 fun (x16 : Sl) w2 =>
  IX x16 0 1 fun (px18 : Addr) =>
  ST px18 0 [.int .i64 1] w2 fun w3 =>
  ∃ (I6 : Int → World → Prop) (m6 : Int → World → Nat), I6 0 w3 ∧ ∀ (x20 : Int) w4, I6 x20 w4 → ∀ _ _ _ _ _ _ _ _ _ _ _ _ _ _ _ _ _ _ _ : Value,
  cond (decide ((x20 : Int) < n)) (
  ∃ (I8 : Int → World → Prop) (m8 : Int → World → Nat), I8 k w4 ∧ ∀ (i : Int) w5, I8 i w5 → ∀ _ _ _ _ _ _ _ _ _ _ _ _ _ _ _ : Value,
  cond (decide ((i : Int) > 0)) (
  ∀ w6, Ext w5 w6 → w6.heap = w5.heap → ∃ (D6 : Nat → Prop),
  IX x16 i 1 fun (px29 : Addr) =>
  ¬ D6 px29.block ∧ (
  LD [.int .i64] px29 w6 fun (x30 : Int) =>
  Chg w6 w6 D6 ∧ (
  Chg w6 w6 D6 ∧ (
  IX x16 (IntKind.i64.wrap (i - 1)) 1 fun (px34 : Addr) =>
  Chg w6 w6 D6 ∧ (
  LD [.int .i64] px34 w6 fun (x35 : Int) =>
  Chg w6 w6 D6 ∧ (
  Chg w6 w6 D6 ∧ (
  IX x16 i 1 fun (px37 : Addr) =>
  ST px37 0 [.int .i64 (IntKind.i64.wrap (x30 + x35))] w6 fun w7 =>
  I8 (IntKind.i64.wrap (i - 1)) w7 ∧ m8 (IntKind.i64.wrap (i - 1)) w7 < m8 i w5))))))) (
  I6 (IntKind.i64.wrap (x20 + 1)) w5 ∧ m6 (IntKind.i64.wrap (x20 + 1)) w5 < m6 x20 w4)) (
  IX x16 k 1 fun (px41 : Addr) =>
  LD [.int .i64] px41 w4 fun (x42 : Int) =>
  Q x42 w4)

def V_i_binomial (Q : Int → World → Prop) (n : Int) (k : Int) (w : World) : Prop :=
  cond (decide ((k : Int) < 0)) (
  Q 0 w) (
  cond (decide ((k : Int) > n)) (
  Q 0 w) (
  V_i_binomial_k1 n k Q w))

theorem C_i_binomial {Q : Int → World → Prop} {n : Int} {k : Int} {w : World} (h : V_i_binomial Q n k w) : Calls Try.prog F.i_binomial #[.int .i64 n, .int .i64 k] w (Ret [.at (.int .i64)] Q) :=
  mkC (hint := hint) (ann := annOf [(6, ⟨[(20, .int .i64)], [6, 21, 22, 23, 24, 25, 26, 27, 28, 29, 30, 31, 32, 33, 34, 35, 36, 37, 38]⟩), (8, ⟨[(6, .int .i64)], [23, 24, 25, 26, 27, 28, 29, 30, 31, 32, 33, 34, 35, 36, 37]⟩)]) (args := [.int .i64 n, .int .i64 k]) (rs := [.at (.int .i64)]) Try.func70 (by kernel_rfl) (by kernel_rfl) h

def V_i_subsetAt (Q : Sl → World → Prop) (n : Int) (k : Int) (r : Int) (w : World) : Prop :=
  ∃ (I3 : Int → Sl → Int → World → Prop) (m3 : Int → Sl → Int → World → Nat), I3 r (⟨none, 0, 0⟩) 0 w ∧ ∀ (r_2 : Int) (out : Sl) (x : Int) w1, I3 r_2 out x w1 → ∀ _ _ _ _ _ _ _ _ _ _ _ _ _ _ _ _ _ _ _ _ _ _ _ _ _ _ _ : Value,
  cond (decide ((out.len : Int) < k)) (
  Calls Try.prog F.i_binomial #[.int .i64 (IntKind.i64.wrap ((IntKind.i64.wrap (n - x)) - 1)), .int .i64 (IntKind.i64.wrap ((IntKind.i64.wrap (k - out.len)) - 1))] w1 (Ret [.at (.int .i64)] fun (x25 : Int) w2 =>
  cond (decide ((r_2 : Int) < x25)) (
  RUN Try.prog (.at .sl) (Instr.buildSlice T.t_sl_int 1 #[(0, .int .i64 x)]) w2 fun (x31 : Sl) w3 =>
  RUN Try.prog (.at .sl) (bsem .append #[T.t_sl_int, T.t_sl_int] T.t_sl_int #[out.v, x31.v]) w3 fun (x32 : Sl) w4 =>
  I3 r_2 x32 (IntKind.i64.wrap (x + 1)) w4 ∧ m3 r_2 x32 (IntKind.i64.wrap (x + 1)) w4 < m3 r_2 out x w1) (
  I3 (IntKind.i64.wrap (r_2 - x25)) out (IntKind.i64.wrap (x + 1)) w2 ∧ m3 (IntKind.i64.wrap (r_2 - x25)) out (IntKind.i64.wrap (x + 1)) w2 < m3 r_2 out x w1))) (
  Q out w1)

theorem C_i_subsetAt {Q : Sl → World → Prop} {n : Int} {k : Int} {r : Int} {w : World} (h : V_i_subsetAt Q n k r w) : Calls Try.prog F.i_subsetAt #[.int .i64 n, .int .i64 k, .int .i64 r] w (Ret [.at .sl] Q) :=
  mkC (hint := hint) (ann := annOf [(3, ⟨[(2, .int .i64), (7, .sl), (8, .int .i64)], [9, 10, 11, 12, 13, 14, 15, 16, 17, 18, 19, 20, 21, 22, 23, 24, 25, 26, 27, 28, 29, 30, 31, 32, 33, 34, 35]⟩)]) (args := [.int .i64 n, .int .i64 k, .int .i64 r]) (rs := [.at .sl]) Try.func71 (by kernel_rfl) (by kernel_rfl) h

def V_i_isCover (Q : Bool → World → Prop) (n_0 : Sl) (n_1 : Sl) (n_2 : Sl) (set1 : Sl) (w : World) : Prop :=
  NEW T.t_i_Network #[n_0.v, n_1.v, n_2.v] w fun (p_n : Addr) w1 =>
  NEW T.t_sl_int #[set1.v] w1 fun (p_set : Addr) w2 =>
  LD [.sl, .sl, .sl] p_n w2 fun (x5_0 : Sl) (x5_1 : Sl) (x5_2 : Sl) =>
  Calls Try.prog F.i_Network_edges #[.agg #[x5_0.v, x5_1.v, x5_2.v]] w2 (Ret [.at .sl] fun (x6 : Sl) w3 =>
  Calls Try.prog F.slices_ContainsFunc_sl_i_edge_i_edge #[x6.v, .func (.func F.i_isCover_1) #[] #[.pointer (some p_set)]] w3 (Ret [.at .bool] fun (x8 : Bool) w4 =>
  Q (!x8) w4))

theorem C_i_isCover {Q : Bool → World → Prop} {n_0 : Sl} {n_1 : Sl} {n_2 : Sl} {set1 : Sl} {w : World} (h : V_i_isCover Q n_0 n_1 n_2 set1 w) : Calls Try.prog F.i_isCover #[.agg #[n_0.v, n_1.v, n_2.v], set1.v] w (Ret [.at .bool] Q) :=
  mkC (hint := hint) (ann := annOf []) (args := [.agg #[n_0.v, n_1.v, n_2.v], set1.v]) (rs := [.at .bool]) Try.func72 (by kernel_rfl) (by kernel_rfl) h

def V_i_numbersTo (Q : Sl → World → Prop) (n : Int) (w : World) : Prop :=
  RUN Try.prog (.at .sl) (Instr.makeSlice T.t_sl_int (.int .i64 n) (.int .i64 n)) w fun (x6 : Sl) w1 =>
  ∃ (I3 : Int → World → Prop) (m3 : Int → World → Nat), I3 0 w1 ∧ ∀ (x9 : Int) w2, I3 x9 w2 → ∀ _ _ _ _ _ _ _ _ : Value,
  cond (decide ((x9 : Int) < x6.len)) (
  IX x6 x9 1 fun (px15 : Addr) =>
  ST px15 0 [.int .i64 x9] w2 fun w3 =>
  I3 (IntKind.i64.wrap (x9 + 1)) w3 ∧ m3 (IntKind.i64.wrap (x9 + 1)) w3 < m3 x9 w2) (
  Q x6 w2)

theorem C_i_numbersTo {Q : Sl → World → Prop} {n : Int} {w : World} (h : V_i_numbersTo Q n w) : Calls Try.prog F.i_numbersTo #[.int .i64 n] w (Ret [.at .sl] Q) :=
  mkC (hint := hint) (ann := annOf [(3, ⟨[(9, .int .i64)], [4, 10, 11, 12, 13, 14, 15, 16]⟩)]) (args := [.int .i64 n]) (rs := [.at .sl]) Try.func73 (by kernel_rfl) (by kernel_rfl) h

def V_l_markEndSS (Q : Int → World → Prop) (a : Sl) (k : Int) (w : World) : Prop :=
  ∃ (I2 : Int → Int → World → Prop) (m2 : Int → Int → World → Nat), I2 k 0 w ∧ ∀ (k_2 : Int) (i : Int) w1, I2 k_2 i w1 → ∀ _ _ _ _ _ _ _ _ _ _ _ _ : Value,
  cond (decide ((i : Int) < a.len)) (
  IX a i 1 fun (px14 : Addr) =>
  LD [.sl] px14 w1 fun (x15 : Sl) =>
  Calls Try.prog F.l_markEndS #[x15.v, .int .i64 k_2] w1 (Ret [.at (.int .i64)] fun (x17 : Int) w2 =>
  I2 x17 (IntKind.i64.wrap (i + 1)) w2 ∧ m2 x17 (IntKind.i64.wrap (i + 1)) w2 < m2 k_2 i w1)) (
  Q k_2 w1)

theorem C_l_markEndSS {Q : Int → World → Prop} {a : Sl} {k : Int} {w : World} (h : V_l_markEndSS Q a k w) : Calls Try.prog F.l_markEndSS #[a.v, .int .i64 k] w (Ret [.at (.int .i64)] Q) :=
  mkC (hint := hint) (ann := annOf [(2, ⟨[(1, .int .i64), (5, .int .i64)], [6, 7, 8, 9, 10, 11, 12, 13, 14, 15, 16, 17]⟩)]) (args := [a.v, .int .i64 k]) (rs := [.at (.int .i64)]) Try.func74 (by kernel_rfl) (by kernel_rfl) h

def V_s_soEmpty (Q : Sl → World → Prop) (n_0 : Sl) (n_1 : Sl) (n_2 : Sl) (w : World) : Prop :=
  NEW T.t_i_Network #[n_0.v, n_1.v, n_2.v] w fun (p_n : Addr) w1 =>
  LD [.sl] (p_n.add 0) w1 fun (x9 : Sl) =>
  ∃ (I3 : Sl → Int → World → Prop) (m3 : Sl → Int → World → Nat), I3 (⟨none, 0, 0⟩) 0 w1 ∧ ∀ (out : Sl) (x11 : Int) w2, I3 out x11 w2 → ∀ _ _ _ _ _ _ _ _ _ _ _ _ _ _ _ _ _ _ _ _ _ _ _ : Value,
  cond (decide ((x11 : Int) < x9.len)) (
  IX x9 x11 1 fun (px13 : Addr) =>
  LD [.sl] px13 w2 fun (x14 : Sl) =>
  RUN Try.prog (.at .sl) (Instr.makeSlice T.t_sl_int (.int .i64 x14.len) (.int .i64 x14.len)) w2 fun (x17 : Sl) w3 =>
  ∃ (I7 : Int → World → Prop) (m7 : Int → World → Nat), I7 0 w3 ∧ ∀ (x20 : Int) w4, I7 x20 w4 → ∀ _ _ _ _ _ _ _ : Value,
  cond (decide ((x20 : Int) < x17.len)) (
  IX x17 x20 1 fun (px25 : Addr) =>
  ST px25 0 [.int .i64 (-1)] w4 fun w5 =>
  I7 (IntKind.i64.wrap (x20 + 1)) w5 ∧ m7 (IntKind.i64.wrap (x20 + 1)) w5 < m7 x20 w4) (
  RUN Try.prog (.at .sl) (Instr.buildSlice T.t_sl_sl_int 1 #[(0, x17.v)]) w4 fun (x29 : Sl) w6 =>
  RUN Try.prog (.at .sl) (bsem .append #[T.t_sl_sl_int, T.t_sl_sl_int] T.t_sl_sl_int #[out.v, x29.v]) w6 fun (x30 : Sl) w7 =>
  I3 x30 (IntKind.i64.wrap (x11 + 1)) w7 ∧ m3 x30 (IntKind.i64.wrap (x11 + 1)) w7 < m3 out x11 w2)) (
  Q out w2)

theorem C_s_soEmpty {Q : Sl → World → Prop} {n_0 : Sl} {n_1 : Sl} {n_2 : Sl} {w : World} (h : V_s_soEmpty Q n_0 n_1 n_2 w) : Calls Try.prog F.s_soEmpty #[.agg #[n_0.v, n_1.v, n_2.v]] w (Ret [.at .sl] Q) :=
  mkC (hint := hint) (ann := annOf [(3, ⟨[(3, .sl), (11, .int .i64)], [5, 6, 7, 12, 13, 14, 15, 16, 17, 18, 19, 20, 21, 22, 23, 24, 25, 26, 27, 28, 29, 30, 31]⟩), (7, ⟨[(20, .int .i64)], [7, 21, 22, 23, 24, 25, 26]⟩)]) (args := [.agg #[n_0.v, n_1.v, n_2.v]]) (rs := [.at .sl]) Try.func75 (by kernel_rfl) (by kernel_rfl) h

def V_s_neEdges (Q : Sl → World → Prop) (n_0 : Sl) (n_1 : Sl) (n_2 : Sl) (w : World) : Prop :=
  NEW T.t_i_Network #[n_0.v, n_1.v, n_2.v] w fun (p_n : Addr) w1 =>
  LD [.sl] (p_n.add 0) w1 fun (x9 : Sl) =>
  ∃ (I3 : Sl → Int → World → Prop) (m3 : Sl → Int → World → Nat), I3 (⟨none, 0, 0⟩) 0 w1 ∧ ∀ (out : Sl) (x11 : Int) w2, I3 out x11 w2 → ∀ _ _ _ _ _ _ _ _ _ _ _ _ _ _ _ _ _ _ _ _ _ _ _ _ _ _ _ _ _ _ _ : Value,
  cond (decide ((x11 : Int) < x9.len)) (
  IX x9 x11 1 fun (px14 : Addr) =>
  LD [.sl] px14 w2 fun (x15 : Sl) =>
  ∃ (I6 : Sl → Int → World → Prop) (m6 : Sl → Int → World → Nat), I6 out 0 w2 ∧ ∀ (out_2 : Sl) (x18 : Int) w3, I6 out_2 x18 w3 → ∀ _ _ _ _ _ _ _ _ _ _ _ _ _ _ _ _ _ _ _ _ _ : Value,
  cond (decide ((x18 : Int) < x15.len)) (
  IX x15 x18 2 fun (px21 : Addr) =>
  LD [.int .i64, .int .i64] px21 w3 fun (x22_0 : Int) (x22_1 : Int) =>
  NEW T.t_i_End #[.int .i64 0, .int .i64 0] w3 fun (p_e : Addr) w4 =>
  ST p_e 0 [.int .i64 x22_0, .int .i64 x22_1] w4 fun w5 =>
  LD [.sl, .sl, .sl] p_n w5 fun (x23_0 : Sl) (x23_1 : Sl) (x23_2 : Sl) =>
  Calls Try.prog F.s_neFirst #[.agg #[x23_0.v, x23_1.v, x23_2.v], .int .i64 x11, .int .i64 x18] w5 (Ret [.at .bool] fun (x26 : Bool) w6 =>
  cond x26 (
  LD [.int .i64] (p_e.add 0) w6 fun (x31 : Int) =>
  LD [.int .i64] (p_e.add 1) w6 fun (x33 : Int) =>
  RUN Try.prog (.at .sl) (Instr.buildSlice T.t_sl_int 4 #[(0, .int .i64 x11), (1, .int .i64 x18), (2, .int .i64 x31), (3, .int .i64 x33)]) w6 fun (x34 : Sl) w7 =>
  RUN Try.prog (.at .sl) (Instr.buildSlice T.t_sl_sl_int 1 #[(0, x34.v)]) w7 fun (x35 : Sl) w8 =>
  RUN Try.prog (.at .sl) (bsem .append #[T.t_sl_sl_int, T.t_sl_sl_int] T.t_sl_sl_int #[out_2.v, x35.v]) w8 fun (x36 : Sl) w9 =>
  I6 x36 (IntKind.i64.wrap (x18 + 1)) w9 ∧ m6 x36 (IntKind.i64.wrap (x18 + 1)) w9 < m6 out_2 x18 w3) (
  I6 out_2 (IntKind.i64.wrap (x18 + 1)) w6 ∧ m6 out_2 (IntKind.i64.wrap (x18 + 1)) w6 < m6 out_2 x18 w3))) (
  I3 out_2 (IntKind.i64.wrap (x11 + 1)) w3 ∧ m3 out_2 (IntKind.i64.wrap (x11 + 1)) w3 < m3 out x11 w2)) (
  Q out w2)

theorem C_s_neEdges {Q : Sl → World → Prop} {n_0 : Sl} {n_1 : Sl} {n_2 : Sl} {w : World} (h : V_s_neEdges Q n_0 n_1 n_2 w) : Calls Try.prog F.s_neEdges #[.agg #[n_0.v, n_1.v, n_2.v]] w (Ret [.at .sl] Q) :=
  mkC (hint := hint) (ann := annOf [(3, ⟨[(3, .sl), (11, .int .i64)], [4, 5, 6, 7, 12, 13, 14, 15, 16, 17, 18, 19, 20, 21, 22, 23, 24, 25, 26, 27, 28, 29, 30, 31, 32, 33, 34, 35, 36, 37, 38]⟩), (6, ⟨[(3, .sl), (18, .int .i64)], [6, 7, 19, 20, 21, 22, 23, 24, 25, 26, 27, 28, 29, 30, 31, 32, 33, 34, 35, 36, 37]⟩)]) (args := [.agg #[n_0.v, n_1.v, n_2.v]]) (rs := [.at .sl]) Try.func76 (by kernel_rfl) (by kernel_rfl) h

def V_s_clLeast (Q : Int → World → Prop) (l : Sl) (w : World) : Prop :=
  ∃ (I2 : Int → World → Prop) (m2 : Int → World → Nat), I2 0 w ∧ ∀ (x : Int) w1, I2 x w1 → ∀ _ _ _ _ _ : Value,
  Calls Try.prog F.s_l1Has #[l.v, .int .i64 x] w1 (Ret [.at .bool] fun (x6 : Bool) w2 =>
  cond x6 (
  I2 (IntKind.i64.wrap (x + 1)) w2 ∧ m2 (IntKind.i64.wrap (x + 1)) w2 < m2 x w1) (
  Q x w2))

theorem C_s_clLeast {Q : Int → World → Prop} {l : Sl} {w : World} (h : V_s_clLeast Q l w) : Calls Try.prog F.s_clLeast #[l.v] w (Ret [.at (.int .i64)] Q) :=
  mkC (hint := hint) (ann := annOf [(2, ⟨[(3, .int .i64)], [4, 5, 6, 7, 8]⟩)]) (args := [l.v]) (rs := [.at (.int .i64)]) Try.func77 (by kernel_rfl) (by kernel_rfl) h

end Go.Proofs.Ytoeaoinedidbiaa
