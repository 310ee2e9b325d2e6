/- What each function's code computes to. Printed by a program. -/
import Derived.Test.YtjfodknpphhajaaNames
namespace Go.Proofs.Ytjfodknpphhajaa
open Go.GX Go.RowKit
set_option linter.unusedVariables false
set_option maxRecDepth 100000

def V_l_FnExactFirstFaultOfLabeling_k4 (x2 : Sl) (Q : Bool → World → Prop) (px3 : Addr) (px4 : Addr) (px11 : Addr) (px12 : Addr) (x48 : Sl) (w19 : World) : Prop :=
  ∀ w20, Ext w19 w20 → w20.heap = w19.heap →
  LD [.int .i64, .int .i64, .sl, .sl] px11 w20 fun (x70_0 : Int) (x70_1 : Int) (x70_2 : Sl) (x70_3 : Sl) =>
  LD [.int .i64, .int .i64, .sl, .sl] px3 w20 fun (x71_0 : Int) (x71_1 : Int) (x71_2 : Sl) (x71_3 : Sl) =>
  Ext w20 w20 ∧ (
  Calls Try.prog F.l_toProblem #[.agg #[.int .i64 x71_0, .int .i64 x71_1, x71_2.v, x71_3.v]] w20 (Ret [.agg [.int .i64, .int .i64, .sl, .sl]] fun (x72_0 : Int) (x72_1 : Int) (x72_2 : Sl) (x72_3 : Sl) w21 =>
  Ext w20 w21 ∧ (
  Calls Try.prog F.l_eqProblem #[.agg #[.int .i64 x70_0, .int .i64 x70_1, x70_2.v, x70_3.v], .agg #[.int .i64 x72_0, .int .i64 x72_1, x72_2.v, x72_3.v]] w21 (Ret [.at .bool] fun (x73 : Bool) w22 =>
  Ext w20 w22 ∧ (
  cond (!x73) (
  Q false w22) (
  ∀ w23, Ext w22 w23 → w23.heap = w22.heap →
  LD [.sl, .sl, .sl] px12 w23 fun (x75_0 : Sl) (x75_1 : Sl) (x75_2 : Sl) =>
  LD [.sl, .sl, .sl] px4 w23 fun (x76_0 : Sl) (x76_1 : Sl) (x76_2 : Sl) =>
  Ext w23 w23 ∧ (
  Calls Try.prog F.l_toNetwork #[.agg #[x76_0.v, x76_1.v, x76_2.v]] w23 (Ret [.agg [.sl, .sl, .sl]] fun (x77_0 : Sl) (x77_1 : Sl) (x77_2 : Sl) w24 =>
  Ext w23 w24 ∧ (
  Calls Try.prog F.l_eqNetwork #[.agg #[x75_0.v, x75_1.v, x75_2.v], .agg #[x77_0.v, x77_1.v, x77_2.v]] w24 (Ret [.at .bool] fun (x78 : Bool) w25 =>
  Ext w23 w25 ∧ (
  cond (!x78) (
  Q false w25) (
  Calls Try.prog F.l_toIntSS #[x2.v] w25 (Ret [.at .sl] fun (x82 : Sl) w26 =>
  Calls Try.prog F.l_eqIntSS #[x48.v, x82.v] w26 (Ret [.at .bool] fun (x83 : Bool) w27 =>
  cond (!x83) (
  Q false w27) (
  Q true w27)))))))))))))))

def V_l_FnExactFirstFaultOfLabeling (Q : Bool → World → Prop) (x0_0 : Int) (x0_1 : Int) (x0_2 : Sl) (x0_3 : Sl) (x1_0 : Sl) (x1_1 : Sl) (x1_2 : Sl) (x2 : Sl) (w : World) : Prop :=
  NEW T.t_l_Problem #[.int .i64 x0_0, .int .i64 x0_1, x0_2.v, x0_3.v] w fun (px3 : Addr) w1 =>
  NEW T.t_l_Network #[x1_0.v, x1_1.v, x1_2.v] w1 fun (px4 : Addr) w2 =>
  LD [.int .i64, .int .i64, .sl, .sl] px3 w2 fun (x17_0 : Int) (x17_1 : Int) (x17_2 : Sl) (x17_3 : Sl) =>
  Calls Try.prog F.l_szProblem #[.agg #[.int .i64 x17_0, .int .i64 x17_1, x17_2.v, x17_3.v], .int .i64 1048576] w2 (Ret [.at (.int .i64)] fun (x19 : Int) w3 =>
  cond (decide ((x19 : Int) < 0)) (
  Q true w3) (
  LD [.sl, .sl, .sl] px4 w3 fun (x22_0 : Sl) (x22_1 : Sl) (x22_2 : Sl) =>
  Calls Try.prog F.l_szNetwork #[.agg #[x22_0.v, x22_1.v, x22_2.v], .int .i64 x19] w3 (Ret [.at (.int .i64)] fun (x24 : Int) w4 =>
  cond (decide ((x24 : Int) < 0)) (
  Q true w4) (
  Calls Try.prog F.l_szIntSS #[x2.v, .int .i64 x24] w4 (Ret [.at (.int .i64)] fun (x29 : Int) w5 =>
  cond (decide ((x29 : Int) < 0)) (
  Q true w5) (
  ∀ w6, Ext w5 w6 → w6.heap = w5.heap →
  LD [.int .i64, .int .i64, .sl, .sl] px3 w6 fun (x33_0 : Int) (x33_1 : Int) (x33_2 : Sl) (x33_3 : Sl) =>
  LD [.sl, .sl, .sl] px4 w6 fun (x35_0 : Sl) (x35_1 : Sl) (x35_2 : Sl) =>
  Calls Try.prog F.l_toProblem #[.agg #[.int .i64 x33_0, .int .i64 x33_1, x33_2.v, x33_3.v]] w6 (Ret [.agg [.int .i64, .int .i64, .sl, .sl]] fun (x34_0 : Int) (x34_1 : Int) (x34_2 : Sl) (x34_3 : Sl) w7 =>
  Ext w6 w7 ∧ (
  Calls Try.prog F.l_toNetwork #[.agg #[x35_0.v, x35_1.v, x35_2.v]] w7 (Ret [.agg [.sl, .sl, .sl]] fun (x36_0 : Sl) (x36_1 : Sl) (x36_2 : Sl) w8 =>
  Ext w6 w8 ∧ (
  Calls Try.prog F.l_toIntSS #[x2.v] w8 (Ret [.at .sl] fun (x38 : Sl) w9 =>
  Ext w6 w9 ∧ (
  Calls Try.prog F.s_FirstFaultOfLabeling #[.agg #[.int .i64 x34_0, .int .i64 x34_1, x34_2.v, x34_3.v], .agg #[x36_0.v, x36_1.v, x36_2.v], x38.v] w9 (Ret [.at (.int .i64), .at (.int .i64), .at .bool] fun (x39_0 : Int) (x39_1 : Int) (x39_2 : Bool) w10 =>
  Ext w6 w10 ∧ (
  Ext w6 w10 ∧ (
  Ext w6 w10 ∧ (
  Ext w6 w10 ∧ (
  LD [.int .i64, .int .i64, .sl, .sl] px3 w10 fun (x43_0 : Int) (x43_1 : Int) (x43_2 : Sl) (x43_3 : Sl) =>
  Calls Try.prog F.l_toProblem #[.agg #[.int .i64 x43_0, .int .i64 x43_1, x43_2.v, x43_3.v]] w10 (Ret [.agg [.int .i64, .int .i64, .sl, .sl]] fun (x44_0 : Int) (x44_1 : Int) (x44_2 : Sl) (x44_3 : Sl) w11 =>
  NEW T.t_i_Problem #[.int .i64 0, .int .i64 0, .slice none 0 0, .slice none 0 0] w11 fun (px11 : Addr) w12 =>
  ST px11 0 [.int .i64 x44_0, .int .i64 x44_1, x44_2.v, x44_3.v] w12 fun w13 =>
  LD [.sl, .sl, .sl] px4 w13 fun (x45_0 : Sl) (x45_1 : Sl) (x45_2 : Sl) =>
  Calls Try.prog F.l_toNetwork #[.agg #[x45_0.v, x45_1.v, x45_2.v]] w13 (Ret [.agg [.sl, .sl, .sl]] fun (x46_0 : Sl) (x46_1 : Sl) (x46_2 : Sl) w14 =>
  NEW T.t_i_Network #[.slice none 0 0, .slice none 0 0, .slice none 0 0] w14 fun (px12 : Addr) w15 =>
  ST px12 0 [x46_0.v, x46_1.v, x46_2.v] w15 fun w16 =>
  Calls Try.prog F.l_toIntSS #[x2.v] w16 (Ret [.at .sl] fun (x48 : Sl) w17 =>
  LD [.int .i64, .int .i64, .sl, .sl] px11 w17 fun (x50_0 : Int) (x50_1 : Int) (x50_2 : Sl) (x50_3 : Sl) =>
  LD [.sl, .sl, .sl] px12 w17 fun (x51_0 : Sl) (x51_1 : Sl) (x51_2 : Sl) =>
  Calls Try.prog F.i_FirstFaultOfLabeling #[.agg #[.int .i64 x50_0, .int .i64 x50_1, x50_2.v, x50_3.v], .agg #[x51_0.v, x51_1.v, x51_2.v], x48.v] w17 (Ret [.at (.int .i64), .at (.int .i64), .at .bool] fun (x53_0 : Int) (x53_1 : Int) (x53_2 : Bool) w18 =>
  cond ((x53_0 : Int) != x39_0) (
  Q false w18) (
  cond ((x53_1 : Int) != x39_1) (
  Q false w18) (
  cond (!(x53_2 == x39_2)) (
  Q false w18) (
  V_l_FnExactFirstFaultOfLabeling_k4 x2 Q px3 px4 px11 px12 x48 w18))))))))))))))))))))))))

theorem C_l_FnExactFirstFaultOfLabeling {Q : Bool → World → Prop} {x0_0 : Int} {x0_1 : Int} {x0_2 : Sl} {x0_3 : Sl} {x1_0 : Sl} {x1_1 : Sl} {x1_2 : Sl} {x2 : Sl} {w : World} (h : V_l_FnExactFirstFaultOfLabeling Q x0_0 x0_1 x0_2 x0_3 x1_0 x1_1 x1_2 x2 w) : Calls Try.prog F.l_FnExactFirstFaultOfLabeling #[.agg #[.int .i64 x0_0, .int .i64 x0_1, x0_2.v, x0_3.v], .agg #[x1_0.v, x1_1.v, x1_2.v], x2.v] w (Ret [.at .bool] Q) :=
  mkC (hint := hint) (ann := annOf []) (args := [.agg #[.int .i64 x0_0, .int .i64 x0_1, x0_2.v, x0_3.v], .agg #[x1_0.v, x1_1.v, x1_2.v], x2.v]) (rs := [.at .bool]) Try.func3 (by kernel_rfl) (by kernel_rfl) h

def V_l_FnExactIsSolution_k4 (x2 : Sl) (Q : Bool → World → Prop) (px3 : Addr) (px4 : Addr) (px10 : Addr) (px11 : Addr) (x45 : Sl) (w19 : World) : Prop :=
  ∀ w20, Ext w19 w20 → w20.heap = w19.heap →
  LD [.int .i64, .int .i64, .sl, .sl] px10 w20 fun (x61_0 : Int) (x61_1 : Int) (x61_2 : Sl) (x61_3 : Sl) =>
  LD [.int .i64, .int .i64, .sl, .sl] px3 w20 fun (x62_0 : Int) (x62_1 : Int) (x62_2 : Sl) (x62_3 : Sl) =>
  Ext w20 w20 ∧ (
  Calls Try.prog F.l_toProblem #[.agg #[.int .i64 x62_0, .int .i64 x62_1, x62_2.v, x62_3.v]] w20 (Ret [.agg [.int .i64, .int .i64, .sl, .sl]] fun (x63_0 : Int) (x63_1 : Int) (x63_2 : Sl) (x63_3 : Sl) w21 =>
  Ext w20 w21 ∧ (
  Calls Try.prog F.l_eqProblem #[.agg #[.int .i64 x61_0, .int .i64 x61_1, x61_2.v, x61_3.v], .agg #[.int .i64 x63_0, .int .i64 x63_1, x63_2.v, x63_3.v]] w21 (Ret [.at .bool] fun (x64 : Bool) w22 =>
  Ext w20 w22 ∧ (
  cond (!x64) (
  Q false w22) (
  ∀ w23, Ext w22 w23 → w23.heap = w22.heap →
  LD [.sl, .sl, .sl] px11 w23 fun (x66_0 : Sl) (x66_1 : Sl) (x66_2 : Sl) =>
  LD [.sl, .sl, .sl] px4 w23 fun (x67_0 : Sl) (x67_1 : Sl) (x67_2 : Sl) =>
  Ext w23 w23 ∧ (
  Calls Try.prog F.l_toNetwork #[.agg #[x67_0.v, x67_1.v, x67_2.v]] w23 (Ret [.agg [.sl, .sl, .sl]] fun (x68_0 : Sl) (x68_1 : Sl) (x68_2 : Sl) w24 =>
  Ext w23 w24 ∧ (
  Calls Try.prog F.l_eqNetwork #[.agg #[x66_0.v, x66_1.v, x66_2.v], .agg #[x68_0.v, x68_1.v, x68_2.v]] w24 (Ret [.at .bool] fun (x69 : Bool) w25 =>
  Ext w23 w25 ∧ (
  cond (!x69) (
  Q false w25) (
  Calls Try.prog F.l_toIntSS #[x2.v] w25 (Ret [.at .sl] fun (x73 : Sl) w26 =>
  Calls Try.prog F.l_eqIntSS #[x45.v, x73.v] w26 (Ret [.at .bool] fun (x74 : Bool) w27 =>
  cond (!x74) (
  Q false w27) (
  Q true w27)))))))))))))))

def V_l_FnExactIsSolution (Q : Bool → World → Prop) (x0_0 : Int) (x0_1 : Int) (x0_2 : Sl) (x0_3 : Sl) (x1_0 : Sl) (x1_1 : Sl) (x1_2 : Sl) (x2 : Sl) (w : World) : Prop :=
  NEW T.t_l_Problem #[.int .i64 x0_0, .int .i64 x0_1, x0_2.v, x0_3.v] w fun (px3 : Addr) w1 =>
  NEW T.t_l_Network #[x1_0.v, x1_1.v, x1_2.v] w1 fun (px4 : Addr) w2 =>
  LD [.int .i64, .int .i64, .sl, .sl] px3 w2 fun (x15_0 : Int) (x15_1 : Int) (x15_2 : Sl) (x15_3 : Sl) =>
  Calls Try.prog F.l_szProblem #[.agg #[.int .i64 x15_0, .int .i64 x15_1, x15_2.v, x15_3.v], .int .i64 1048576] w2 (Ret [.at (.int .i64)] fun (x17 : Int) w3 =>
  cond (decide ((x17 : Int) < 0)) (
  Q true w3) (
  LD [.sl, .sl, .sl] px4 w3 fun (x20_0 : Sl) (x20_1 : Sl) (x20_2 : Sl) =>
  Calls Try.prog F.l_szNetwork #[.agg #[x20_0.v, x20_1.v, x20_2.v], .int .i64 x17] w3 (Ret [.at (.int .i64)] fun (x22 : Int) w4 =>
  cond (decide ((x22 : Int) < 0)) (
  Q true w4) (
  Calls Try.prog F.l_szIntSS #[x2.v, .int .i64 x22] w4 (Ret [.at (.int .i64)] fun (x27 : Int) w5 =>
  cond (decide ((x27 : Int) < 0)) (
  Q true w5) (
  ∀ w6, Ext w5 w6 → w6.heap = w5.heap →
  LD [.int .i64, .int .i64, .sl, .sl] px3 w6 fun (x31_0 : Int) (x31_1 : Int) (x31_2 : Sl) (x31_3 : Sl) =>
  LD [.sl, .sl, .sl] px4 w6 fun (x33_0 : Sl) (x33_1 : Sl) (x33_2 : Sl) =>
  Calls Try.prog F.l_toProblem #[.agg #[.int .i64 x31_0, .int .i64 x31_1, x31_2.v, x31_3.v]] w6 (Ret [.agg [.int .i64, .int .i64, .sl, .sl]] fun (x32_0 : Int) (x32_1 : Int) (x32_2 : Sl) (x32_3 : Sl) w7 =>
  Ext w6 w7 ∧ (
  Calls Try.prog F.l_toNetwork #[.agg #[x33_0.v, x33_1.v, x33_2.v]] w7 (Ret [.agg [.sl, .sl, .sl]] fun (x34_0 : Sl) (x34_1 : Sl) (x34_2 : Sl) w8 =>
  Ext w6 w8 ∧ (
  Calls Try.prog F.l_toIntSS #[x2.v] w8 (Ret [.at .sl] fun (x36 : Sl) w9 =>
  Ext w6 w9 ∧ (
  Calls Try.prog F.s_IsSolution #[.agg #[.int .i64 x32_0, .int .i64 x32_1, x32_2.v, x32_3.v], .agg #[x34_0.v, x34_1.v, x34_2.v], x36.v] w9 (Ret [.at .bool, .at .bool] fun (x37_0 : Bool) (x37_1 : Bool) w10 =>
  Ext w6 w10 ∧ (
  Ext w6 w10 ∧ (
  Ext w6 w10 ∧ (
  LD [.int .i64, .int .i64, .sl, .sl] px3 w10 fun (x40_0 : Int) (x40_1 : Int) (x40_2 : Sl) (x40_3 : Sl) =>
  Calls Try.prog F.l_toProblem #[.agg #[.int .i64 x40_0, .int .i64 x40_1, x40_2.v, x40_3.v]] w10 (Ret [.agg [.int .i64, .int .i64, .sl, .sl]] fun (x41_0 : Int) (x41_1 : Int) (x41_2 : Sl) (x41_3 : Sl) w11 =>
  NEW T.t_i_Problem #[.int .i64 0, .int .i64 0, .slice none 0 0, .slice none 0 0] w11 fun (px10 : Addr) w12 =>
  ST px10 0 [.int .i64 x41_0, .int .i64 x41_1, x41_2.v, x41_3.v] w12 fun w13 =>
  LD [.sl, .sl, .sl] px4 w13 fun (x42_0 : Sl) (x42_1 : Sl) (x42_2 : Sl) =>
  Calls Try.prog F.l_toNetwork #[.agg #[x42_0.v, x42_1.v, x42_2.v]] w13 (Ret [.agg [.sl, .sl, .sl]] fun (x43_0 : Sl) (x43_1 : Sl) (x43_2 : Sl) w14 =>
  NEW T.t_i_Network #[.slice none 0 0, .slice none 0 0, .slice none 0 0] w14 fun (px11 : Addr) w15 =>
  ST px11 0 [x43_0.v, x43_1.v, x43_2.v] w15 fun w16 =>
  Calls Try.prog F.l_toIntSS #[x2.v] w16 (Ret [.at .sl] fun (x45 : Sl) w17 =>
  LD [.int .i64, .int .i64, .sl, .sl] px10 w17 fun (x47_0 : Int) (x47_1 : Int) (x47_2 : Sl) (x47_3 : Sl) =>
  LD [.sl, .sl, .sl] px11 w17 fun (x48_0 : Sl) (x48_1 : Sl) (x48_2 : Sl) =>
  Calls Try.prog F.i_IsSolution #[.agg #[.int .i64 x47_0, .int .i64 x47_1, x47_2.v, x47_3.v], .agg #[x48_0.v, x48_1.v, x48_2.v], x45.v] w17 (Ret [.at .bool, .at .bool] fun (x50_0 : Bool) (x50_1 : Bool) w18 =>
  cond (!(x50_0 == x37_0)) (
  Q false w18) (
  cond (!(x50_1 == x37_1)) (
  Q false w18) (
  V_l_FnExactIsSolution_k4 x2 Q px3 px4 px10 px11 x45 w18))))))))))))))))))))))

theorem C_l_FnExactIsSolution {Q : Bool → World → Prop} {x0_0 : Int} {x0_1 : Int} {x0_2 : Sl} {x0_3 : Sl} {x1_0 : Sl} {x1_1 : Sl} {x1_2 : Sl} {x2 : Sl} {w : World} (h : V_l_FnExactIsSolution Q x0_0 x0_1 x0_2 x0_3 x1_0 x1_1 x1_2 x2 w) : Calls Try.prog F.l_FnExactIsSolution #[.agg #[.int .i64 x0_0, .int .i64 x0_1, x0_2.v, x0_3.v], .agg #[x1_0.v, x1_1.v, x1_2.v], x2.v] w (Ret [.at .bool] Q) :=
  mkC (hint := hint) (ann := annOf []) (args := [.agg #[.int .i64 x0_0, .int .i64 x0_1, x0_2.v, x0_3.v], .agg #[x1_0.v, x1_1.v, x1_2.v], x2.v]) (rs := [.at .bool]) Try.func4 (by kernel_rfl) (by kernel_rfl) h

def V_l_FnExactMergeLabels_k5 (x1 : Int) (x2 : Int) (Q : Bool → World → Prop) (px3 : Addr) (x28_1 : Bool) (px8 : Addr) (px11 : Addr) (w20 : World) : Prop :=
  LD [.int .i64, .int .i64, .sl, .sl] px11 w20 fun (x70_0 : Int) (x70_1 : Int) (x70_2 : Sl) (x70_3 : Sl) =>
  Calls Try.prog F.l_markProblem #[.agg #[.int .i64 x70_0, .int .i64 x70_1, x70_2.v, x70_3.v], .int .i64 1] w20 (Ret [.at (.int .i64)] fun (x72 : Int) w21 =>
  LD [.int .i64, .int .i64, .sl, .sl] px11 w21 fun (x73_0 : Int) (x73_1 : Int) (x73_2 : Sl) (x73_3 : Sl) =>
  Calls Try.prog F.l_heldProblem #[.agg #[.int .i64 x73_0, .int .i64 x73_1, x73_2.v, x73_3.v], .int .i64 1] w21 (Ret [.at (.int .i64)] fun (x75 : Int) w22 =>
  cond (decide ((x75 : Int) < 0)) (
  Q false w22) (
  cond ((x75 : Int) != x72) (
  Q false w22) (
  LD [.int .i64, .int .i64, .sl, .sl] px3 w22 fun (x82_0 : Int) (x82_1 : Int) (x82_2 : Sl) (x82_3 : Sl) =>
  Calls Try.prog F.l_toProblem #[.agg #[.int .i64 x82_0, .int .i64 x82_1, x82_2.v, x82_3.v]] w22 (Ret [.agg [.int .i64, .int .i64, .sl, .sl]] fun (x83_0 : Int) (x83_1 : Int) (x83_2 : Sl) (x83_3 : Sl) w23 =>
  Calls Try.prog F.i_MergeLabels #[.agg #[.int .i64 x83_0, .int .i64 x83_1, x83_2.v, x83_3.v], .int .i64 x1, .int .i64 x2] w23 (Ret [.agg [.int .i64, .int .i64, .sl, .sl], .at .bool] fun (x86_0_0 : Int) (x86_0_1 : Int) (x86_0_2 : Sl) (x86_0_3 : Sl) (x86_1 : Bool) w24 =>
  NEW T.t_i_Problem #[.int .i64 0, .int .i64 0, .slice none 0 0, .slice none 0 0] w24 fun (px16 : Addr) w25 =>
  ST px16 0 [.int .i64 x86_0_0, .int .i64 x86_0_1, x86_0_2.v, x86_0_3.v] w25 fun w26 =>
  LD [.int .i64, .int .i64, .sl, .sl] px16 w26 fun (x89_0 : Int) (x89_1 : Int) (x89_2 : Sl) (x89_3 : Sl) =>
  LD [.int .i64, .int .i64, .sl, .sl] px8 w26 fun (x90_0 : Int) (x90_1 : Int) (x90_2 : Sl) (x90_3 : Sl) =>
  Calls Try.prog F.l_eqProblem #[.agg #[.int .i64 x89_0, .int .i64 x89_1, x89_2.v, x89_3.v], .agg #[.int .i64 x90_0, .int .i64 x90_1, x90_2.v, x90_3.v]] w26 (Ret [.at .bool] fun (x91 : Bool) w27 =>
  cond (!x91) (
  Q false w27) (
  cond (!(x86_1 == x28_1)) (
  Q false w27) (
  LD [.int .i64, .int .i64, .sl, .sl] px11 w27 fun (x98_0_2 : Int) (x98_1_2 : Int) (x98_2_2 : Sl) (x98_3_2 : Sl) =>
  Calls Try.prog F.l_heldProblem #[.agg #[.int .i64 x98_0_2, .int .i64 x98_1_2, x98_2_2.v, x98_3_2.v], .int .i64 1] w27 (Ret [.at (.int .i64)] fun (x100_2 : Int) w29 =>
  cond (decide ((x100_2 : Int) < 0)) (
  Q false w29) (
  cond ((x100_2 : Int) != x72) (
  Q false w29) (
  Q true w29))))))))))))

def V_l_FnExactMergeLabels_k2 (x1 : Int) (x2 : Int) (Q : Bool → World → Prop) (px3 : Addr) (x28_1 : Bool) (px8 : Addr) (px10 : Addr) (x37_1 : Bool) (px11 : Addr) (w14 : World) : Prop :=
  ∀ w15, Ext w14 w15 → w15.heap = w14.heap →
  LD [.int .i64, .int .i64, .sl, .sl] px10 w15 fun (x49_0 : Int) (x49_1 : Int) (x49_2 : Sl) (x49_3 : Sl) =>
  LD [.int .i64, .int .i64, .sl, .sl] px3 w15 fun (x50_0 : Int) (x50_1 : Int) (x50_2 : Sl) (x50_3 : Sl) =>
  Ext w15 w15 ∧ (
  Calls Try.prog F.l_toProblem #[.agg #[.int .i64 x50_0, .int .i64 x50_1, x50_2.v, x50_3.v]] w15 (Ret [.agg [.int .i64, .int .i64, .sl, .sl]] fun (x51_0 : Int) (x51_1 : Int) (x51_2 : Sl) (x51_3 : Sl) w16 =>
  Ext w15 w16 ∧ (
  Calls Try.prog F.l_eqProblem #[.agg #[.int .i64 x49_0, .int .i64 x49_1, x49_2.v, x49_3.v], .agg #[.int .i64 x51_0, .int .i64 x51_1, x51_2.v, x51_3.v]] w16 (Ret [.at .bool] fun (x52 : Bool) w17 =>
  Ext w15 w17 ∧ (
  cond (!x52) (
  Q false w17) (
  LD [.int .i64, .int .i64, .sl, .sl] px10 w17 fun (x54_0 : Int) (x54_1 : Int) (x54_2 : Sl) (x54_3 : Sl) =>
  Calls Try.prog F.l_markProblem #[.agg #[.int .i64 x54_0, .int .i64 x54_1, x54_2.v, x54_3.v], .int .i64 1] w17 (Ret [.at (.int .i64)] fun (x56 : Int) w18 =>
  cond (decide ((x56 : Int) < 0)) (
  Q false w18) (
  LD [.int .i64, .int .i64, .sl, .sl] px11 w18 fun (x60_0 : Int) (x60_1 : Int) (x60_2 : Sl) (x60_3 : Sl) =>
  LD [.int .i64, .int .i64, .sl, .sl] px8 w18 fun (x61_0 : Int) (x61_1 : Int) (x61_2 : Sl) (x61_3 : Sl) =>
  Calls Try.prog F.l_eqProblem #[.agg #[.int .i64 x60_0, .int .i64 x60_1, x60_2.v, x60_3.v], .agg #[.int .i64 x61_0, .int .i64 x61_1, x61_2.v, x61_3.v]] w18 (Ret [.at .bool] fun (x62 : Bool) w19 =>
  cond (!x62) (
  Q false w19) (
  cond (!(x37_1 == x28_1)) (
  Q false w19) (
  V_l_FnExactMergeLabels_k5 x1 x2 Q px3 x28_1 px8 px11 w19)))))))))))

def V_l_FnExactMergeLabels (Q : Bool → World → Prop) (x0_0 : Int) (x0_1 : Int) (x0_2 : Sl) (x0_3 : Sl) (x1 : Int) (x2 : Int) (w : World) : Prop :=
  NEW T.t_l_Problem #[.int .i64 x0_0, .int .i64 x0_1, x0_2.v, x0_3.v] w fun (px3 : Addr) w1 =>
  LD [.int .i64, .int .i64, .sl, .sl] px3 w1 fun (x18_0 : Int) (x18_1 : Int) (x18_2 : Sl) (x18_3 : Sl) =>
  Calls Try.prog F.l_szProblem #[.agg #[.int .i64 x18_0, .int .i64 x18_1, x18_2.v, x18_3.v], .int .i64 1048576] w1 (Ret [.at (.int .i64)] fun (x20 : Int) w2 =>
  cond (decide ((x20 : Int) < 0)) (
  Q true w2) (
  LD [.int .i64, .int .i64, .sl, .sl] px3 w2 fun (x24_0 : Int) (x24_1 : Int) (x24_2 : Sl) (x24_3 : Sl) =>
  Calls Try.prog F.l_toProblem #[.agg #[.int .i64 x24_0, .int .i64 x24_1, x24_2.v, x24_3.v]] w2 (Ret [.agg [.int .i64, .int .i64, .sl, .sl]] fun (x25_0 : Int) (x25_1 : Int) (x25_2 : Sl) (x25_3 : Sl) w3 =>
  Calls Try.prog F.s_MergeLabels #[.agg #[.int .i64 x25_0, .int .i64 x25_1, x25_2.v, x25_3.v], .int .i64 x1, .int .i64 x2] w3 (Ret [.agg [.int .i64, .int .i64, .sl, .sl], .at .bool] fun (x28_0_0 : Int) (x28_0_1 : Int) (x28_0_2 : Sl) (x28_0_3 : Sl) (x28_1 : Bool) w4 =>
  NEW T.t_i_Problem #[.int .i64 0, .int .i64 0, .slice none 0 0, .slice none 0 0] w4 fun (px8 : Addr) w5 =>
  ST px8 0 [.int .i64 x28_0_0, .int .i64 x28_0_1, x28_0_2.v, x28_0_3.v] w5 fun w6 =>
  LD [.int .i64, .int .i64, .sl, .sl] px3 w6 fun (x31_0 : Int) (x31_1 : Int) (x31_2 : Sl) (x31_3 : Sl) =>
  Calls Try.prog F.l_toProblem #[.agg #[.int .i64 x31_0, .int .i64 x31_1, x31_2.v, x31_3.v]] w6 (Ret [.agg [.int .i64, .int .i64, .sl, .sl]] fun (x32_0 : Int) (x32_1 : Int) (x32_2 : Sl) (x32_3 : Sl) w7 =>
  NEW T.t_i_Problem #[.int .i64 0, .int .i64 0, .slice none 0 0, .slice none 0 0] w7 fun (px10 : Addr) w8 =>
  ST px10 0 [.int .i64 x32_0, .int .i64 x32_1, x32_2.v, x32_3.v] w8 fun w9 =>
  LD [.int .i64, .int .i64, .sl, .sl] px10 w9 fun (x34_0 : Int) (x34_1 : Int) (x34_2 : Sl) (x34_3 : Sl) =>
  Calls Try.prog F.i_MergeLabels #[.agg #[.int .i64 x34_0, .int .i64 x34_1, x34_2.v, x34_3.v], .int .i64 x1, .int .i64 x2] w9 (Ret [.agg [.int .i64, .int .i64, .sl, .sl], .at .bool] fun (x37_0_0 : Int) (x37_0_1 : Int) (x37_0_2 : Sl) (x37_0_3 : Sl) (x37_1 : Bool) w10 =>
  NEW T.t_i_Problem #[.int .i64 0, .int .i64 0, .slice none 0 0, .slice none 0 0] w10 fun (px11 : Addr) w11 =>
  ST px11 0 [.int .i64 x37_0_0, .int .i64 x37_0_1, x37_0_2.v, x37_0_3.v] w11 fun w12 =>
  LD [.int .i64, .int .i64, .sl, .sl] px11 w12 fun (x40_0 : Int) (x40_1 : Int) (x40_2 : Sl) (x40_3 : Sl) =>
  LD [.int .i64, .int .i64, .sl, .sl] px8 w12 fun (x41_0 : Int) (x41_1 : Int) (x41_2 : Sl) (x41_3 : Sl) =>
  Calls Try.prog F.l_eqProblem #[.agg #[.int .i64 x40_0, .int .i64 x40_1, x40_2.v, x40_3.v], .agg #[.int .i64 x41_0, .int .i64 x41_1, x41_2.v, x41_3.v]] w12 (Ret [.at .bool] fun (x42 : Bool) w13 =>
  cond (!x42) (
  Q false w13) (
  cond (!(x37_1 == x28_1)) (
  Q false w13) (
  V_l_FnExactMergeLabels_k2 x1 x2 Q px3 x28_1 px8 px10 x37_1 px11 w13)))))))))

theorem C_l_FnExactMergeLabels {Q : Bool → World → Prop} {x0_0 : Int} {x0_1 : Int} {x0_2 : Sl} {x0_3 : Sl} {x1 : Int} {x2 : Int} {w : World} (h : V_l_FnExactMergeLabels Q x0_0 x0_1 x0_2 x0_3 x1 x2 w) : Calls Try.prog F.l_FnExactMergeLabels #[.agg #[.int .i64 x0_0, .int .i64 x0_1, x0_2.v, x0_3.v], .int .i64 x1, .int .i64 x2] w (Ret [.at .bool] Q) :=
  mkC (hint := hint) (ann := annOf []) (args := [.agg #[.int .i64 x0_0, .int .i64 x0_1, x0_2.v, x0_3.v], .int .i64 x1, .int .i64 x2]) (rs := [.at .bool]) Try.func5 (by kernel_rfl) (by kernel_rfl) h

def V_l_szProblem (Q : Int → World → Prop) (a_0 : Int) (a_1 : Int) (a_2 : Sl) (a_3 : Sl) (left : Int) (w : World) : Prop :=
  NEW T.t_l_Problem #[.int .i64 a_0, .int .i64 a_1, a_2.v, a_3.v] w fun (p_a : Addr) w1 =>
  LD [.sl] (p_a.add 2) w1 fun (x6 : Sl) =>
  Calls Try.prog F.l_szIntSS #[x6.v, .int .i64 left] w1 (Ret [.at (.int .i64)] fun (x8 : Int) w2 =>
  cond (decide ((x8 : Int) < 0)) (
  Q (-1) w2) (
  LD [.sl] (p_a.add 3) w2 fun (x12 : Sl) =>
  Calls Try.prog F.l_szIntSS #[x12.v, .int .i64 x8] w2 (Ret [.at (.int .i64)] fun (x14 : Int) w3 =>
  cond (decide ((x14 : Int) < 0)) (
  Q (-1) w3) (
  Q x14 w3))))

theorem C_l_szProblem {Q : Int → World → Prop} {a_0 : Int} {a_1 : Int} {a_2 : Sl} {a_3 : Sl} {left : Int} {w : World} (h : V_l_szProblem Q a_0 a_1 a_2 a_3 left w) : Calls Try.prog F.l_szProblem #[.agg #[.int .i64 a_0, .int .i64 a_1, a_2.v, a_3.v], .int .i64 left] w (Ret [.at (.int .i64)] Q) :=
  mkC (hint := hint) (ann := annOf []) (args := [.agg #[.int .i64 a_0, .int .i64 a_1, a_2.v, a_3.v], .int .i64 left]) (rs := [.at (.int .i64)]) Try.func6 (by kernel_rfl) (by kernel_rfl) h

def V_l_szNetwork (Q : Int → World → Prop) (a_0 : Sl) (a_1 : Sl) (a_2 : Sl) (left : Int) (w : World) : Prop :=
  NEW T.t_l_Network #[a_0.v, a_1.v, a_2.v] w fun (p_a : Addr) w1 =>
  LD [.sl] (p_a.add 0) w1 fun (x6 : Sl) =>
  Calls Try.prog F.l_szEndSS #[x6.v, .int .i64 left] w1 (Ret [.at (.int .i64)] fun (x8 : Int) w2 =>
  cond (decide ((x8 : Int) < 0)) (
  Q (-1) w2) (
  LD [.sl] (p_a.add 1) w2 fun (x12 : Sl) =>
  Calls Try.prog F.l_szIntS #[x12.v, .int .i64 x8] w2 (Ret [.at (.int .i64)] fun (x14 : Int) w3 =>
  cond (decide ((x14 : Int) < 0)) (
  Q (-1) w3) (
  LD [.sl] (p_a.add 2) w3 fun (x18 : Sl) =>
  Calls Try.prog F.l_szIntS #[x18.v, .int .i64 x14] w3 (Ret [.at (.int .i64)] fun (x20 : Int) w4 =>
  cond (decide ((x20 : Int) < 0)) (
  Q (-1) w4) (
  Q x20 w4))))))

theorem C_l_szNetwork {Q : Int → World → Prop} {a_0 : Sl} {a_1 : Sl} {a_2 : Sl} {left : Int} {w : World} (h : V_l_szNetwork Q a_0 a_1 a_2 left w) : Calls Try.prog F.l_szNetwork #[.agg #[a_0.v, a_1.v, a_2.v], .int .i64 left] w (Ret [.at (.int .i64)] Q) :=
  mkC (hint := hint) (ann := annOf []) (args := [.agg #[a_0.v, a_1.v, a_2.v], .int .i64 left]) (rs := [.at (.int .i64)]) Try.func7 (by kernel_rfl) (by kernel_rfl) h

def V_l_szIntSS (Q : Int → World → Prop) (a : Sl) (left : Int) (w : World) : Prop :=
  cond (decide (((IntKind.i64.wrap (left - a.len)) : Int) < 0)) (
  Q (-1) w) (
  ∃ (I5 : Int → Int → World → Prop) (m5 : Int → Int → World → Nat), I5 (IntKind.i64.wrap (left - a.len)) 0 w ∧ ∀ (left_2 : Int) (i : Int) w1, I5 left_2 i w1 → ∀ _ _ _ _ _ _ _ _ _ _ _ _ _ _ _ : Value,
  cond (decide ((i : Int) < a.len)) (
  IX a i 1 fun (px20 : Addr) =>
  LD [.sl] px20 w1 fun (x21 : Sl) =>
  Calls Try.prog F.l_szIntS #[x21.v, .int .i64 left_2] w1 (Ret [.at (.int .i64)] fun (x23 : Int) w2 =>
  cond (decide ((x23 : Int) < 0)) (
  Q (-1) w2) (
  I5 x23 (IntKind.i64.wrap (i + 1)) w2 ∧ m5 x23 (IntKind.i64.wrap (i + 1)) w2 < m5 left_2 i w1))) (
  Q left_2 w1))

theorem C_l_szIntSS {Q : Int → World → Prop} {a : Sl} {left : Int} {w : World} (h : V_l_szIntSS Q a left w) : Calls Try.prog F.l_szIntSS #[a.v, .int .i64 left] w (Ret [.at (.int .i64)] Q) :=
  mkC (hint := hint) (ann := annOf [(5, ⟨[(1, .int .i64), (5, .int .i64)], [4, 12, 13, 14, 15, 16, 17, 18, 19, 20, 21, 22, 23, 24, 25]⟩)]) (args := [a.v, .int .i64 left]) (rs := [.at (.int .i64)]) Try.func8 (by kernel_rfl) (by kernel_rfl) h

def V_s_FirstFaultOfLabeling (Q : Int → Int → Bool → World → Prop) (p_0 : Int) (p_1 : Int) (p_2 : Sl) (p_3 : Sl) (n_0 : Sl) (n_1 : Sl) (n_2 : Sl) (l : Sl) (w : World) : Prop :=
  NEW T.t_i_Problem #[.int .i64 p_0, .int .i64 p_1, p_2.v, p_3.v] w fun (p_p : Addr) w1 =>
  NEW T.t_i_Network #[n_0.v, n_1.v, n_2.v] w1 fun (p_n : Addr) w2 =>
  LD [.int .i64, .int .i64, .sl, .sl] p_p w2 fun (x11_0 : Int) (x11_1 : Int) (x11_2 : Sl) (x11_3 : Sl) =>
  LD [.sl, .sl, .sl] p_n w2 fun (x12_0 : Sl) (x12_1 : Sl) (x12_2 : Sl) =>
  Calls Try.prog F.s_prAsked #[.agg #[.int .i64 x11_0, .int .i64 x11_1, x11_2.v, x11_3.v], .agg #[x12_0.v, x12_1.v, x12_2.v], l.v] w2 (Ret [.at .bool] fun (x14 : Bool) w3 =>
  cond (!x14) (
  Q 0 0 false w3) (
  LD [.int .i64, .int .i64, .sl, .sl] p_p w3 fun (x17_0 : Int) (x17_1 : Int) (x17_2 : Sl) (x17_3 : Sl) =>
  LD [.sl, .sl, .sl] p_n w3 fun (x18_0 : Sl) (x18_1 : Sl) (x18_2 : Sl) =>
  Calls Try.prog F.s_prIs #[.agg #[.int .i64 x17_0, .int .i64 x17_1, x17_2.v, x17_3.v], .agg #[x18_0.v, x18_1.v, x18_2.v], l.v] w3 (Ret [.at .bool] fun (x20 : Bool) w4 =>
  cond x20 (
  Q 0 0 false w4) (
  LD [.int .i64, .int .i64, .sl, .sl] p_p w4 fun (x23_0_2 : Int) (x23_1_2 : Int) (x23_2_2 : Sl) (x23_3_2 : Sl) =>
  LD [.sl, .sl, .sl] p_n w4 fun (x24_0_2 : Sl) (x24_1_2 : Sl) (x24_2_2 : Sl) =>
  Calls Try.prog F.s_prFault #[.agg #[.int .i64 x23_0_2, .int .i64 x23_1_2, x23_2_2.v, x23_3_2.v], .agg #[x24_0_2.v, x24_1_2.v, x24_2_2.v], l.v] w4 (Ret [.at (.int .i64), .at (.int .i64)] fun (x26_0_2 : Int) (x26_1_2 : Int) w6 =>
  Q x26_0_2 x26_1_2 true w6)))))

theorem C_s_FirstFaultOfLabeling {Q : Int → Int → Bool → World → Prop} {p_0 : Int} {p_1 : Int} {p_2 : Sl} {p_3 : Sl} {n_0 : Sl} {n_1 : Sl} {n_2 : Sl} {l : Sl} {w : World} (h : V_s_FirstFaultOfLabeling Q p_0 p_1 p_2 p_3 n_0 n_1 n_2 l w) : Calls Try.prog F.s_FirstFaultOfLabeling #[.agg #[.int .i64 p_0, .int .i64 p_1, p_2.v, p_3.v], .agg #[n_0.v, n_1.v, n_2.v], l.v] w (Ret [.at (.int .i64), .at (.int .i64), .at .bool] Q) :=
  mkC (hint := hint) (ann := annOf []) (args := [.agg #[.int .i64 p_0, .int .i64 p_1, p_2.v, p_3.v], .agg #[n_0.v, n_1.v, n_2.v], l.v]) (rs := [.at (.int .i64), .at (.int .i64), .at .bool]) Try.func9 (by kernel_rfl) (by kernel_rfl) h

def V_l_toProblem (Q : Int → Int → Sl → Sl → World → Prop) (a_0 : Int) (a_1 : Int) (a_2 : Sl) (a_3 : Sl) (w : World) : Prop :=
  NEW T.t_l_Problem #[.int .i64 a_0, .int .i64 a_1, a_2.v, a_3.v] w fun (p_a : Addr) w1 =>
  NEW T.t_i_Problem #[.int .i64 0, .int .i64 0, .slice none 0 0, .slice none 0 0] w1 fun (px2 : Addr) w2 =>
  NEW T.t_i_Problem #[.int .i64 0, .int .i64 0, .slice none 0 0, .slice none 0 0] w2 fun (p_out : Addr) w3 =>
  LD [.int .i64] (p_a.add 0) w3 fun (x5 : Int) =>
  ST (p_out.add 0) 0 [.int .i64 x5] w3 fun w4 =>
  LD [.int .i64] (p_a.add 1) w4 fun (x8 : Int) =>
  ST (p_out.add 1) 0 [.int .i64 x8] w4 fun w5 =>
  LD [.sl] (p_a.add 2) w5 fun (x11 : Sl) =>
  Calls Try.prog F.l_toIntSS #[x11.v] w5 (Ret [.at .sl] fun (x12 : Sl) w6 =>
  ST (p_out.add 2) 0 [x12.v] w6 fun w7 =>
  LD [.sl] (p_a.add 3) w7 fun (x15 : Sl) =>
  Calls Try.prog F.l_toIntSS #[x15.v] w7 (Ret [.at .sl] fun (x16 : Sl) w8 =>
  ST (p_out.add 3) 0 [x16.v] w8 fun w9 =>
  LD [.int .i64, .int .i64, .sl, .sl] p_out w9 fun (x18_0 : Int) (x18_1 : Int) (x18_2 : Sl) (x18_3 : Sl) =>
  ST px2 0 [.int .i64 x18_0, .int .i64 x18_1, x18_2.v, x18_3.v] w9 fun w10 =>
  LD [.int .i64, .int .i64, .sl, .sl] px2 w10 fun (r0_0 : Int) (r0_1 : Int) (r0_2 : Sl) (r0_3 : Sl) =>
  Q r0_0 r0_1 r0_2 r0_3 w10))

theorem C_l_toProblem {Q : Int → Int → Sl → Sl → World → Prop} {a_0 : Int} {a_1 : Int} {a_2 : Sl} {a_3 : Sl} {w : World} (h : V_l_toProblem Q a_0 a_1 a_2 a_3 w) : Calls Try.prog F.l_toProblem #[.agg #[.int .i64 a_0, .int .i64 a_1, a_2.v, a_3.v]] w (Ret [.agg [.int .i64, .int .i64, .sl, .sl]] Q) :=
  mkC (hint := hint) (ann := annOf []) (args := [.agg #[.int .i64 a_0, .int .i64 a_1, a_2.v, a_3.v]]) (rs := [.agg [.int .i64, .int .i64, .sl, .sl]]) Try.func10 (by kernel_rfl) (by kernel_rfl) h

def V_l_toNetwork (Q : Sl → Sl → Sl → World → Prop) (a_0 : Sl) (a_1 : Sl) (a_2 : Sl) (w : World) : Prop :=
  NEW T.t_l_Network #[a_0.v, a_1.v, a_2.v] w fun (p_a : Addr) w1 =>
  NEW T.t_i_Network #[.slice none 0 0, .slice none 0 0, .slice none 0 0] w1 fun (px2 : Addr) w2 =>
  NEW T.t_i_Network #[.slice none 0 0, .slice none 0 0, .slice none 0 0] w2 fun (p_out : Addr) w3 =>
  LD [.sl] (p_a.add 0) w3 fun (x5 : Sl) =>
  Calls Try.prog F.l_toEndSS #[x5.v] w3 (Ret [.at .sl] fun (x6 : Sl) w4 =>
  ST (p_out.add 0) 0 [x6.v] w4 fun w5 =>
  LD [.sl] (p_a.add 1) w5 fun (x9 : Sl) =>
  Calls Try.prog F.l_toIntS #[x9.v] w5 (Ret [.at .sl] fun (x10 : Sl) w6 =>
  ST (p_out.add 1) 0 [x10.v] w6 fun w7 =>
  LD [.sl] (p_a.add 2) w7 fun (x13 : Sl) =>
  Calls Try.prog F.l_toIntS #[x13.v] w7 (Ret [.at .sl] fun (x14 : Sl) w8 =>
  ST (p_out.add 2) 0 [x14.v] w8 fun w9 =>
  LD [.sl, .sl, .sl] p_out w9 fun (x16_0 : Sl) (x16_1 : Sl) (x16_2 : Sl) =>
  ST px2 0 [x16_0.v, x16_1.v, x16_2.v] w9 fun w10 =>
  LD [.sl, .sl, .sl] px2 w10 fun (r0_0 : Sl) (r0_1 : Sl) (r0_2 : Sl) =>
  Q r0_0 r0_1 r0_2 w10)))

theorem C_l_toNetwork {Q : Sl → Sl → Sl → World → Prop} {a_0 : Sl} {a_1 : Sl} {a_2 : Sl} {w : World} (h : V_l_toNetwork Q a_0 a_1 a_2 w) : Calls Try.prog F.l_toNetwork #[.agg #[a_0.v, a_1.v, a_2.v]] w (Ret [.agg [.sl, .sl, .sl]] Q) :=
  mkC (hint := hint) (ann := annOf []) (args := [.agg #[a_0.v, a_1.v, a_2.v]]) (rs := [.agg [.sl, .sl, .sl]]) Try.func11 (by kernel_rfl) (by kernel_rfl) h

def V_l_toIntSS (Q : Sl → World → Prop) (a : Sl) (w : World) : Prop :=
  RUN Try.prog (.at .sl) (Instr.makeSlice T.t_sl_sl_int (.int .i64 a.len) (.int .i64 a.len)) w fun (x7 : Sl) w1 =>
  ∃ (I3 : Int → World → Prop) (m3 : Int → World → Nat), I3 0 w1 ∧ ∀ (i : Int) w2, I3 i w2 → ∀ _ _ _ _ _ _ _ _ _ _ _ _ _ _ : Value,
  cond (decide ((i : Int) < a.len)) (
  IX a i 1 fun (px18 : Addr) =>
  LD [.sl] px18 w2 fun (x19 : Sl) =>
  Calls Try.prog F.l_toIntS #[x19.v] w2 (Ret [.at .sl] fun (x20 : Sl) w3 =>
  IX x7 i 1 fun (px21 : Addr) =>
  ST px21 0 [x20.v] w3 fun w4 =>
  I3 (IntKind.i64.wrap (i + 1)) w4 ∧ m3 (IntKind.i64.wrap (i + 1)) w4 < m3 i w2)) (
  Q x7 w2)

theorem C_l_toIntSS {Q : Sl → World → Prop} {a : Sl} {w : World} (h : V_l_toIntSS Q a w) : Calls Try.prog F.l_toIntSS #[a.v] w (Ret [.at .sl] Q) :=
  mkC (hint := hint) (ann := annOf [(3, ⟨[(4, .int .i64)], [8, 9, 10, 11, 12, 13, 14, 15, 16, 17, 18, 19, 20, 21]⟩)]) (args := [a.v]) (rs := [.at .sl]) Try.func12 (by kernel_rfl) (by kernel_rfl) h

def V_i_FirstFaultOfLabeling (Q : Int → Int → Bool → World → Prop) (p_0 : Int) (p_1 : Int) (p_2 : Sl) (p_3 : Sl) (n_0 : Sl) (n_1 : Sl) (n_2 : Sl) (l : Sl) (w : World) : Prop :=
  NEW T.t_i_Problem #[.int .i64 p_0, .int .i64 p_1, p_2.v, p_3.v] w fun (p_p : Addr) w1 =>
  NEW T.t_i_Network #[n_0.v, n_1.v, n_2.v] w1 fun (p_n : Addr) w2 =>
  LD [.int .i64, .int .i64, .sl, .sl] p_p w2 fun (x9_0 : Int) (x9_1 : Int) (x9_2 : Sl) (x9_3 : Sl) =>
  Calls Try.prog F.i_IsProblem #[.agg #[.int .i64 x9_0, .int .i64 x9_1, x9_2.v, x9_3.v]] w2 (Ret [.at .bool] fun (x10 : Bool) w3 =>
  cond (!x10) (
  Q 0 0 false w3) (
  LD [.sl, .sl, .sl] p_n w3 fun (x13_0 : Sl) (x13_1 : Sl) (x13_2 : Sl) =>
  Calls Try.prog F.i_IsNetwork #[.agg #[x13_0.v, x13_1.v, x13_2.v]] w3 (Ret [.at .bool] fun (x14 : Bool) w4 =>
  cond (!x14) (
  Q 0 0 false w4) (
  LD [.int .i64, .int .i64, .sl, .sl] p_p w4 fun (x18_0 : Int) (x18_1 : Int) (x18_2 : Sl) (x18_3 : Sl) =>
  LD [.sl, .sl, .sl] p_n w4 fun (x19_0 : Sl) (x19_1 : Sl) (x19_2 : Sl) =>
  Calls Try.prog F.i_isLabeling #[.agg #[.int .i64 x18_0, .int .i64 x18_1, x18_2.v, x18_3.v], .agg #[x19_0.v, x19_1.v, x19_2.v], l.v] w4 (Ret [.at .bool] fun (x21 : Bool) w5 =>
  cond (!x21) (
  Q 0 0 false w5) (
  LD [.int .i64, .int .i64, .sl, .sl] p_p w5 fun (x24_0_2 : Int) (x24_1_2 : Int) (x24_2_2 : Sl) (x24_3_2 : Sl) =>
  LD [.sl, .sl, .sl] p_n w5 fun (x25_0_2 : Sl) (x25_1_2 : Sl) (x25_2_2 : Sl) =>
  Calls Try.prog F.i_labelFault #[.agg #[.int .i64 x24_0_2, .int .i64 x24_1_2, x24_2_2.v, x24_3_2.v], .agg #[x25_0_2.v, x25_1_2.v, x25_2_2.v], l.v] w5 (Ret [.at (.int .i64), .at (.int .i64), .at .bool] fun (x27_0_2 : Int) (x27_1_2 : Int) (x27_2_2 : Bool) w7 =>
  Q x27_0_2 x27_1_2 x27_2_2 w7)))))))

theorem C_i_FirstFaultOfLabeling {Q : Int → Int → Bool → World → Prop} {p_0 : Int} {p_1 : Int} {p_2 : Sl} {p_3 : Sl} {n_0 : Sl} {n_1 : Sl} {n_2 : Sl} {l : Sl} {w : World} (h : V_i_FirstFaultOfLabeling Q p_0 p_1 p_2 p_3 n_0 n_1 n_2 l w) : Calls Try.prog F.i_FirstFaultOfLabeling #[.agg #[.int .i64 p_0, .int .i64 p_1, p_2.v, p_3.v], .agg #[n_0.v, n_1.v, n_2.v], l.v] w (Ret [.at (.int .i64), .at (.int .i64), .at .bool] Q) :=
  mkC (hint := hint) (ann := annOf []) (args := [.agg #[.int .i64 p_0, .int .i64 p_1, p_2.v, p_3.v], .agg #[n_0.v, n_1.v, n_2.v], l.v]) (rs := [.at (.int .i64), .at (.int .i64), .at .bool]) Try.func13 (by kernel_rfl) (by kernel_rfl) h

def V_l_eqProblem (Q : Bool → World → Prop) (a_0 : Int) (a_1 : Int) (a_2 : Sl) (a_3 : Sl) (b_0 : Int) (b_1 : Int) (b_2 : Sl) (b_3 : Sl) (w : World) : Prop :=
  NEW T.t_i_Problem #[.int .i64 a_0, .int .i64 a_1, a_2.v, a_3.v] w fun (p_a : Addr) w1 =>
  NEW T.t_i_Problem #[.int .i64 b_0, .int .i64 b_1, b_2.v, b_3.v] w1 fun (p_b : Addr) w2 =>
  LD [.int .i64] (p_a.add 0) w2 fun (x6 : Int) =>
  LD [.int .i64] (p_b.add 0) w2 fun (x8 : Int) =>
  cond ((x6 : Int) != x8) (
  Q false w2) (
  LD [.int .i64] (p_a.add 1) w2 fun (x11 : Int) =>
  LD [.int .i64] (p_b.add 1) w2 fun (x13 : Int) =>
  cond ((x11 : Int) != x13) (
  Q false w2) (
  LD [.sl] (p_a.add 2) w2 fun (x16 : Sl) =>
  LD [.sl] (p_b.add 2) w2 fun (x18 : Sl) =>
  Calls Try.prog F.l_eqIntSS #[x16.v, x18.v] w2 (Ret [.at .bool] fun (x19 : Bool) w3 =>
  cond (!x19) (
  Q false w3) (
  LD [.sl] (p_a.add 3) w3 fun (x22 : Sl) =>
  LD [.sl] (p_b.add 3) w3 fun (x24 : Sl) =>
  Calls Try.prog F.l_eqIntSS #[x22.v, x24.v] w3 (Ret [.at .bool] fun (x25 : Bool) w4 =>
  cond (!x25) (
  Q false w4) (
  Q true w4))))))

theorem C_l_eqProblem {Q : Bool → World → Prop} {a_0 : Int} {a_1 : Int} {a_2 : Sl} {a_3 : Sl} {b_0 : Int} {b_1 : Int} {b_2 : Sl} {b_3 : Sl} {w : World} (h : V_l_eqProblem Q a_0 a_1 a_2 a_3 b_0 b_1 b_2 b_3 w) : Calls Try.prog F.l_eqProblem #[.agg #[.int .i64 a_0, .int .i64 a_1, a_2.v, a_3.v], .agg #[.int .i64 b_0, .int .i64 b_1, b_2.v, b_3.v]] w (Ret [.at .bool] Q) :=
  mkC (hint := hint) (ann := annOf []) (args := [.agg #[.int .i64 a_0, .int .i64 a_1, a_2.v, a_3.v], .agg #[.int .i64 b_0, .int .i64 b_1, b_2.v, b_3.v]]) (rs := [.at .bool]) Try.func14 (by kernel_rfl) (by kernel_rfl) h

def V_l_eqNetwork (Q : Bool → World → Prop) (a_0 : Sl) (a_1 : Sl) (a_2 : Sl) (b_0 : Sl) (b_1 : Sl) (b_2 : Sl) (w : World) : Prop :=
  NEW T.t_i_Network #[a_0.v, a_1.v, a_2.v] w fun (p_a : Addr) w1 =>
  NEW T.t_i_Network #[b_0.v, b_1.v, b_2.v] w1 fun (p_b : Addr) w2 =>
  LD [.sl] (p_a.add 0) w2 fun (x6 : Sl) =>
  LD [.sl] (p_b.add 0) w2 fun (x8 : Sl) =>
  Calls Try.prog F.l_eqEndSS #[x6.v, x8.v] w2 (Ret [.at .bool] fun (x9 : Bool) w3 =>
  cond (!x9) (
  Q false w3) (
  LD [.sl] (p_a.add 1) w3 fun (x12 : Sl) =>
  LD [.sl] (p_b.add 1) w3 fun (x14 : Sl) =>
  Calls Try.prog F.l_eqIntS #[x12.v, x14.v] w3 (Ret [.at .bool] fun (x15 : Bool) w4 =>
  cond (!x15) (
  Q false w4) (
  LD [.sl] (p_a.add 2) w4 fun (x18 : Sl) =>
  LD [.sl] (p_b.add 2) w4 fun (x20 : Sl) =>
  Calls Try.prog F.l_eqIntS #[x18.v, x20.v] w4 (Ret [.at .bool] fun (x21 : Bool) w5 =>
  cond (!x21) (
  Q false w5) (
  Q true w5))))))

theorem C_l_eqNetwork {Q : Bool → World → Prop} {a_0 : Sl} {a_1 : Sl} {a_2 : Sl} {b_0 : Sl} {b_1 : Sl} {b_2 : Sl} {w : World} (h : V_l_eqNetwork Q a_0 a_1 a_2 b_0 b_1 b_2 w) : Calls Try.prog F.l_eqNetwork #[.agg #[a_0.v, a_1.v, a_2.v], .agg #[b_0.v, b_1.v, b_2.v]] w (Ret [.at .bool] Q) :=
  mkC (hint := hint) (ann := annOf []) (args := [.agg #[a_0.v, a_1.v, a_2.v], .agg #[b_0.v, b_1.v, b_2.v]]) (rs := [.at .bool]) Try.func15 (by kernel_rfl) (by kernel_rfl) h

def V_l_eqIntSS (Q : Bool → World → Prop) (a : Sl) (b : Sl) (w : World) : Prop :=
  cond ((a.len : Int) != b.len) (
  Q false w) (
  ∃ (I4 : Int → World → Prop) (m4 : Int → World → Nat), I4 0 w ∧ ∀ (i : Int) w1, I4 i w1 → ∀ _ _ _ _ _ _ _ _ _ _ _ _ _ _ _ _ _ : Value,
  cond (decide ((i : Int) < a.len)) (
  IX a i 1 fun (px19 : Addr) =>
  LD [.sl] px19 w1 fun (x20 : Sl) =>
  IX b i 1 fun (px23 : Addr) =>
  LD [.sl] px23 w1 fun (x24 : Sl) =>
  QCALL Try.prog F.l_eqIntS #[x20.v, x24.v] w1 [.at .bool] fun (x25 : Bool) =>
  ∀ w2, Ext w1 w2 →
  cond (!x25) (
  Q false w2) (
  I4 (IntKind.i64.wrap (i + 1)) w2 ∧ m4 (IntKind.i64.wrap (i + 1)) w2 < m4 i w1)) (
  Q true w1))

theorem C_l_eqIntSS {Q : Bool → World → Prop} {a : Sl} {b : Sl} {w : World} (h : V_l_eqIntSS Q a b w) : Calls Try.prog F.l_eqIntSS #[a.v, b.v] w (Ret [.at .bool] Q) :=
  mkC (hint := hint) (ann := annOf [(4, ⟨[(5, .int .i64)], [4, 11, 12, 13, 14, 15, 16, 17, 18, 19, 20, 21, 22, 23, 24, 25, 26]⟩)]) (args := [a.v, b.v]) (rs := [.at .bool]) Try.func16 (by kernel_rfl) (by kernel_rfl) h

def V_s_IsSolution (Q : Bool → Bool → World → Prop) (p_0 : Int) (p_1 : Int) (p_2 : Sl) (p_3 : Sl) (n_0 : Sl) (n_1 : Sl) (n_2 : Sl) (l : Sl) (w : World) : Prop :=
  NEW T.t_i_Problem #[.int .i64 p_0, .int .i64 p_1, p_2.v, p_3.v] w fun (p_p : Addr) w1 =>
  NEW T.t_i_Network #[n_0.v, n_1.v, n_2.v] w1 fun (p_n : Addr) w2 =>
  LD [.int .i64, .int .i64, .sl, .sl] p_p w2 fun (x8_0 : Int) (x8_1 : Int) (x8_2 : Sl) (x8_3 : Sl) =>
  LD [.sl, .sl, .sl] p_n w2 fun (x9_0 : Sl) (x9_1 : Sl) (x9_2 : Sl) =>
  Calls Try.prog F.s_prAsked #[.agg #[.int .i64 x8_0, .int .i64 x8_1, x8_2.v, x8_3.v], .agg #[x9_0.v, x9_1.v, x9_2.v], l.v] w2 (Ret [.at .bool] fun (x11 : Bool) w3 =>
  cond (!x11) (
  Q false false w3) (
  LD [.int .i64, .int .i64, .sl, .sl] p_p w3 fun (x13_0 : Int) (x13_1 : Int) (x13_2 : Sl) (x13_3 : Sl) =>
  LD [.sl, .sl, .sl] p_n w3 fun (x14_0 : Sl) (x14_1 : Sl) (x14_2 : Sl) =>
  Calls Try.prog F.s_prIs #[.agg #[.int .i64 x13_0, .int .i64 x13_1, x13_2.v, x13_3.v], .agg #[x14_0.v, x14_1.v, x14_2.v], l.v] w3 (Ret [.at .bool] fun (x16 : Bool) w4 =>
  Q x16 true w4)))

theorem C_s_IsSolution {Q : Bool → Bool → World → Prop} {p_0 : Int} {p_1 : Int} {p_2 : Sl} {p_3 : Sl} {n_0 : Sl} {n_1 : Sl} {n_2 : Sl} {l : Sl} {w : World} (h : V_s_IsSolution Q p_0 p_1 p_2 p_3 n_0 n_1 n_2 l w) : Calls Try.prog F.s_IsSolution #[.agg #[.int .i64 p_0, .int .i64 p_1, p_2.v, p_3.v], .agg #[n_0.v, n_1.v, n_2.v], l.v] w (Ret [.at .bool, .at .bool] Q) :=
  mkC (hint := hint) (ann := annOf []) (args := [.agg #[.int .i64 p_0, .int .i64 p_1, p_2.v, p_3.v], .agg #[n_0.v, n_1.v, n_2.v], l.v]) (rs := [.at .bool, .at .bool]) Try.func17 (by kernel_rfl) (by kernel_rfl) h

def V_i_IsSolution (Q : Bool → Bool → World → Prop) (p_0 : Int) (p_1 : Int) (p_2 : Sl) (p_3 : Sl) (n_0 : Sl) (n_1 : Sl) (n_2 : Sl) (l : Sl) (w : World) : Prop :=
  NEW T.t_i_Problem #[.int .i64 p_0, .int .i64 p_1, p_2.v, p_3.v] w fun (p_p : Addr) w1 =>
  NEW T.t_i_Network #[n_0.v, n_1.v, n_2.v] w1 fun (p_n : Addr) w2 =>
  LD [.int .i64, .int .i64, .sl, .sl] p_p w2 fun (x11_0 : Int) (x11_1 : Int) (x11_2 : Sl) (x11_3 : Sl) =>
  Calls Try.prog F.i_IsProblem #[.agg #[.int .i64 x11_0, .int .i64 x11_1, x11_2.v, x11_3.v]] w2 (Ret [.at .bool] fun (x12 : Bool) w3 =>
  cond (!x12) (
  Q false false w3) (
  LD [.sl, .sl, .sl] p_n w3 fun (x15_0 : Sl) (x15_1 : Sl) (x15_2 : Sl) =>
  Calls Try.prog F.i_IsNetwork #[.agg #[x15_0.v, x15_1.v, x15_2.v]] w3 (Ret [.at .bool] fun (x16 : Bool) w4 =>
  cond (!x16) (
  Q false false w4) (
  LD [.int .i64, .int .i64, .sl, .sl] p_p w4 fun (x20_0 : Int) (x20_1 : Int) (x20_2 : Sl) (x20_3 : Sl) =>
  LD [.sl, .sl, .sl] p_n w4 fun (x21_0 : Sl) (x21_1 : Sl) (x21_2 : Sl) =>
  Calls Try.prog F.i_isLabeling #[.agg #[.int .i64 x20_0, .int .i64 x20_1, x20_2.v, x20_3.v], .agg #[x21_0.v, x21_1.v, x21_2.v], l.v] w4 (Ret [.at .bool] fun (x23 : Bool) w5 =>
  cond (!x23) (
  Q false false w5) (
  LD [.int .i64, .int .i64, .sl, .sl] p_p w5 fun (x27_0_2 : Int) (x27_1_2 : Int) (x27_2_2 : Sl) (x27_3_2 : Sl) =>
  LD [.sl, .sl, .sl] p_n w5 fun (x28_0_2 : Sl) (x28_1_2 : Sl) (x28_2_2 : Sl) =>
  Calls Try.prog F.i_labelFault #[.agg #[.int .i64 x27_0_2, .int .i64 x27_1_2, x27_2_2.v, x27_3_2.v], .agg #[x28_0_2.v, x28_1_2.v, x28_2_2.v], l.v] w5 (Ret [.at (.int .i64), .at (.int .i64), .at .bool] fun (x30_0_2 : Int) (x30_1_2 : Int) (x30_2_2 : Bool) w7 =>
  Q (!x30_2_2) true w7)))))))

theorem C_i_IsSolution {Q : Bool → Bool → World → Prop} {p_0 : Int} {p_1 : Int} {p_2 : Sl} {p_3 : Sl} {n_0 : Sl} {n_1 : Sl} {n_2 : Sl} {l : Sl} {w : World} (h : V_i_IsSolution Q p_0 p_1 p_2 p_3 n_0 n_1 n_2 l w) : Calls Try.prog F.i_IsSolution #[.agg #[.int .i64 p_0, .int .i64 p_1, p_2.v, p_3.v], .agg #[n_0.v, n_1.v, n_2.v], l.v] w (Ret [.at .bool, .at .bool] Q) :=
  mkC (hint := hint) (ann := annOf []) (args := [.agg #[.int .i64 p_0, .int .i64 p_1, p_2.v, p_3.v], .agg #[n_0.v, n_1.v, n_2.v], l.v]) (rs := [.at .bool, .at .bool]) Try.func18 (by kernel_rfl) (by kernel_rfl) h

def V_s_MergeLabels_k1 (a : Int) (b : Int) (Q : Int → Int → Sl → Sl → Bool → World → Prop) (p_p : Addr) (px6 : Addr) (w9 : World) : Prop :=
  LD [.int .i64] (p_p.add 0) w9 fun (x29 : Int) =>
  Calls Try.prog F.s_reMerge #[.int .i64 x29, .int .i64 a, .int .i64 b] w9 (Ret [.at .sl] fun (x32 : Sl) w10 =>
  ∀ w11, Ext w10 w11 → w11.heap = w10.heap → ∃ (D11 : Nat → Prop),
  ¬ D11 (p_p.add 0).block ∧ (
  LD [.int .i64] (p_p.add 0) w11 fun (x34 : Int) =>
  ¬ D11 (p_p.add 1).block ∧ (
  LD [.int .i64] (p_p.add 1) w11 fun (x37 : Int) =>
  ¬ D11 (p_p.add 2).block ∧ (
  LD [.sl] (p_p.add 2) w11 fun (x39 : Sl) =>
  ¬ D11 (p_p.add 3).block ∧ (
  LD [.sl] (p_p.add 3) w11 fun (x43 : Sl) =>
  Calls Try.prog F.s_prMap #[x39.v, x32.v] w11 (Ret [.at .sl] fun (x41 : Sl) w12 =>
  Chg w11 w12 D11 ∧ (
  Calls Try.prog F.s_prMap #[x43.v, x32.v] w12 (Ret [.at .sl] fun (x45 : Sl) w13 =>
  Chg w11 w13 D11 ∧ (
  Chg w11 w13 D11 ∧ (
  ST px6 0 [.int .i64 (IntKind.i64.wrap (x34 - 1)), .int .i64 x37, x41.v, x45.v] w13 fun w14 =>
  LD [.int .i64, .int .i64, .sl, .sl] px6 w14 fun (r0_0_4 : Int) (r0_1_4 : Int) (r0_2_4 : Sl) (r0_3_4 : Sl) =>
  Q r0_0_4 r0_1_4 r0_2_4 r0_3_4 true w14))))))))))

def V_s_MergeLabels (Q : Int → Int → Sl → Sl → Bool → World → Prop) (p_0 : Int) (p_1 : Int) (p_2 : Sl) (p_3 : Sl) (a : Int) (b : Int) (w : World) : Prop :=
  NEW T.t_i_Problem #[.int .i64 p_0, .int .i64 p_1, p_2.v, p_3.v] w fun (p_p : Addr) w1 =>
  NEW T.t_i_Problem #[.int .i64 0, .int .i64 0, .slice none 0 0, .slice none 0 0] w1 fun (px6 : Addr) w2 =>
  LD [.int .i64, .int .i64, .sl, .sl] p_p w2 fun (x9_0 : Int) (x9_1 : Int) (x9_2 : Sl) (x9_3 : Sl) =>
  Calls Try.prog F.s_prGood #[.agg #[.int .i64 x9_0, .int .i64 x9_1, x9_2.v, x9_3.v]] w2 (Ret [.at .bool] fun (x10 : Bool) w3 =>
  cond (!x10) (
  ST px6 0 [.int .i64 0, .int .i64 0, .slice none 0 0, .slice none 0 0] w3 fun w6 =>
  LD [.int .i64, .int .i64, .sl, .sl] px6 w6 fun (r0_0 : Int) (r0_1 : Int) (r0_2 : Sl) (r0_3 : Sl) =>
  Q r0_0 r0_1 r0_2 r0_3 false w6) (
  RUN Try.prog (.at .sl) (Instr.buildSlice T.t_sl_int 2 #[(0, .int .i64 a), (1, .int .i64 b)]) w3 fun (x15 : Sl) w4 =>
  LD [.int .i64] (p_p.add 0) w4 fun (x17 : Int) =>
  Calls Try.prog F.s_l1All #[x15.v, .int .i64 0, .int .i64 (IntKind.i64.wrap (x17 - 1))] w4 (Ret [.at .bool] fun (x19 : Bool) w5 =>
  cond (!x19) (
  ST px6 0 [.int .i64 0, .int .i64 0, .slice none 0 0, .slice none 0 0] w5 fun w7 =>
  LD [.int .i64, .int .i64, .sl, .sl] px6 w7 fun (r0_0_2 : Int) (r0_1_2 : Int) (r0_2_2 : Sl) (r0_3_2 : Sl) =>
  Q r0_0_2 r0_1_2 r0_2_2 r0_3_2 false w7) (
  cond ((a : Int) == b) (
  ST px6 0 [.int .i64 0, .int .i64 0, .slice none 0 0, .slice none 0 0] w5 fun w8 =>
  LD [.int .i64, .int .i64, .sl, .sl] px6 w8 fun (r0_0_3 : Int) (r0_1_3 : Int) (r0_2_3 : Sl) (r0_3_3 : Sl) =>
  Q r0_0_3 r0_1_3 r0_2_3 r0_3_3 false w8) (
  V_s_MergeLabels_k1 a b Q p_p px6 w5)))))

theorem C_s_MergeLabels {Q : Int → Int → Sl → Sl → Bool → World → Prop} {p_0 : Int} {p_1 : Int} {p_2 : Sl} {p_3 : Sl} {a : Int} {b : Int} {w : World} (h : V_s_MergeLabels Q p_0 p_1 p_2 p_3 a b w) : Calls Try.prog F.s_MergeLabels #[.agg #[.int .i64 p_0, .int .i64 p_1, p_2.v, p_3.v], .int .i64 a, .int .i64 b] w (Ret [.agg [.int .i64, .int .i64, .sl, .sl], .at .bool] Q) :=
  mkC (hint := hint) (ann := annOf []) (args := [.agg #[.int .i64 p_0, .int .i64 p_1, p_2.v, p_3.v], .int .i64 a, .int .i64 b]) (rs := [.agg [.int .i64, .int .i64, .sl, .sl], .at .bool]) Try.func19 (by kernel_rfl) (by kernel_rfl) h

def V_i_MergeLabels_k1 (x1 : Int) (x2 : Int) (Q : Int → Int → Sl → Sl → Bool → World → Prop) (px3 : Addr) (px6 : Addr) (w9 : World) : Prop :=
  LD [.int .i64] (px3.add 0) w9 fun (x28 : Int) =>
  Calls Try.prog F.i_numbersTo #[.int .i64 x28] w9 (Ret [.at .sl] fun (x29 : Sl) w10 =>
  IX x29 x2 1 fun (px33 : Addr) =>
  ST px33 0 [.int .i64 x1] w10 fun w11 =>
  ∃ (I6 : Int → World → Prop) (m6 : Int → World → Nat), I6 0 w11 ∧ ∀ (x36 : Int) w12, I6 x36 w12 → ∀ _ _ _ _ _ _ _ _ _ _ _ _ _ _ _ _ : Value,
  cond (decide ((x36 : Int) < x29.len)) (
  IX x29 x36 1 fun (px41 : Addr) =>
  LD [.int .i64] px41 w12 fun (x42 : Int) =>
  cond (decide ((x42 : Int) > x2)) (
  IX x29 x36 1 fun (px47 : Addr) =>
  LD [.int .i64] px47 w12 fun (x48 : Int) =>
  IX x29 x36 1 fun (px50 : Addr) =>
  ST px50 0 [.int .i64 (IntKind.i64.wrap (x48 - 1))] w12 fun w13 =>
  I6 (IntKind.i64.wrap (x36 + 1)) w13 ∧ m6 (IntKind.i64.wrap (x36 + 1)) w13 < m6 x36 w12) (
  I6 (IntKind.i64.wrap (x36 + 1)) w12 ∧ m6 (IntKind.i64.wrap (x36 + 1)) w12 < m6 x36 w12)) (
  ∀ w14, Ext w12 w14 → w14.heap = w12.heap → ∃ (D14 : Nat → Prop),
  ¬ D14 (px3.add 0).block ∧ (
  LD [.int .i64] (px3.add 0) w14 fun (x53 : Int) =>
  ¬ D14 (px3.add 1).block ∧ (
  LD [.int .i64] (px3.add 1) w14 fun (x56 : Int) =>
  ¬ D14 (px3.add 2).block ∧ (
  LD [.sl] (px3.add 2) w14 fun (x58 : Sl) =>
  ¬ D14 (px3.add 3).block ∧ (
  LD [.sl] (px3.add 3) w14 fun (x62 : Sl) =>
  Calls Try.prog F.i_renamed #[x58.v, x29.v] w14 (Ret [.at .sl] fun (x60 : Sl) w15 =>
  Chg w14 w15 D14 ∧ (
  Calls Try.prog F.i_renamed #[x62.v, x29.v] w15 (Ret [.at .sl] fun (x64 : Sl) w16 =>
  Chg w14 w16 D14 ∧ (
  Chg w14 w16 D14 ∧ (
  ST px6 0 [.int .i64 (IntKind.i64.wrap (x53 - 1)), .int .i64 x56, x60.v, x64.v] w16 fun w17 =>
  LD [.int .i64, .int .i64, .sl, .sl] px6 w17 fun (r0_0_4 : Int) (r0_1_4 : Int) (r0_2_4 : Sl) (r0_3_4 : Sl) =>
  Q r0_0_4 r0_1_4 r0_2_4 r0_3_4 true w17)))))))))))

def V_i_MergeLabels (Q : Int → Int → Sl → Sl → Bool → World → Prop) (x0_0 : Int) (x0_1 : Int) (x0_2 : Sl) (x0_3 : Sl) (x1 : Int) (x2 : Int) (w : World) : Prop :=
  NEW T.t_i_Problem #[.int .i64 x0_0, .int .i64 x0_1, x0_2.v, x0_3.v] w fun (px3 : Addr) w1 =>
  NEW T.t_i_Problem #[.int .i64 0, .int .i64 0, .slice none 0 0, .slice none 0 0] w1 fun (px6 : Addr) w2 =>
  LD [.int .i64, .int .i64, .sl, .sl] px3 w2 fun (x10_0 : Int) (x10_1 : Int) (x10_2 : Sl) (x10_3 : Sl) =>
  Calls Try.prog F.i_IsProblem #[.agg #[.int .i64 x10_0, .int .i64 x10_1, x10_2.v, x10_3.v]] w2 (Ret [.at .bool] fun (x11 : Bool) w3 =>
  cond (!x11) (
  ST px6 0 [.int .i64 0, .int .i64 0, .slice none 0 0, .slice none 0 0] w3 fun w6 =>
  LD [.int .i64, .int .i64, .sl, .sl] px6 w6 fun (r0_0 : Int) (r0_1 : Int) (r0_2 : Sl) (r0_3 : Sl) =>
  Q r0_0 r0_1 r0_2 r0_3 false w6) (
  LD [.int .i64, .int .i64, .sl, .sl] px3 w3 fun (x14_0 : Int) (x14_1 : Int) (x14_2 : Sl) (x14_3 : Sl) =>
  RUN Try.prog (.at .sl) (Instr.buildSlice T.t_sl_int 2 #[(0, .int .i64 x1), (1, .int .i64 x2)]) w3 fun (x17 : Sl) w4 =>
  Calls Try.prog F.i_Problem_hasLabels #[.agg #[.int .i64 x14_0, .int .i64 x14_1, x14_2.v, x14_3.v], x17.v] w4 (Ret [.at .bool] fun (x18 : Bool) w5 =>
  cond (!x18) (
  ST px6 0 [.int .i64 0, .int .i64 0, .slice none 0 0, .slice none 0 0] w5 fun w7 =>
  LD [.int .i64, .int .i64, .sl, .sl] px6 w7 fun (r0_0_2 : Int) (r0_1_2 : Int) (r0_2_2 : Sl) (r0_3_2 : Sl) =>
  Q r0_0_2 r0_1_2 r0_2_2 r0_3_2 false w7) (
  cond ((x1 : Int) == x2) (
  ST px6 0 [.int .i64 0, .int .i64 0, .slice none 0 0, .slice none 0 0] w5 fun w8 =>
  LD [.int .i64, .int .i64, .sl, .sl] px6 w8 fun (r0_0_3 : Int) (r0_1_3 : Int) (r0_2_3 : Sl) (r0_3_3 : Sl) =>
  Q r0_0_3 r0_1_3 r0_2_3 r0_3_3 false w8) (
  V_i_MergeLabels_k1 x1 x2 Q px3 px6 w5)))))

theorem C_i_MergeLabels {Q : Int → Int → Sl → Sl → Bool → World → Prop} {x0_0 : Int} {x0_1 : Int} {x0_2 : Sl} {x0_3 : Sl} {x1 : Int} {x2 : Int} {w : World} (h : V_i_MergeLabels Q x0_0 x0_1 x0_2 x0_3 x1 x2 w) : Calls Try.prog F.i_MergeLabels #[.agg #[.int .i64 x0_0, .int .i64 x0_1, x0_2.v, x0_3.v], .int .i64 x1, .int .i64 x2] w (Ret [.agg [.int .i64, .int .i64, .sl, .sl], .at .bool] Q) :=
  mkC (hint := hint) (ann := annOf [(6, ⟨[(36, .int .i64)], [9, 37, 38, 39, 40, 41, 42, 43, 44, 45, 46, 47, 48, 49, 50, 51]⟩)]) (args := [.agg #[.int .i64 x0_0, .int .i64 x0_1, x0_2.v, x0_3.v], .int .i64 x1, .int .i64 x2]) (rs := [.agg [.int .i64, .int .i64, .sl, .sl], .at .bool]) Try.func20 (by kernel_rfl) (by kernel_rfl) h

def V_l_markProblem (Q : Int → World → Prop) (a_0 : Int) (a_1 : Int) (a_2 : Sl) (a_3 : Sl) (k : Int) (w : World) : Prop :=
  NEW T.t_i_Problem #[.int .i64 a_0, .int .i64 a_1, a_2.v, a_3.v] w fun (p_a : Addr) w1 =>
  LD [.sl] (p_a.add 2) w1 fun (x6 : Sl) =>
  Calls Try.prog F.l_markIntSS #[x6.v, .int .i64 k] w1 (Ret [.at (.int .i64)] fun (x8 : Int) w2 =>
  LD [.sl] (p_a.add 3) w2 fun (x10 : Sl) =>
  Calls Try.prog F.l_markIntSS #[x10.v, .int .i64 x8] w2 (Ret [.at (.int .i64)] fun (x12 : Int) w3 =>
  Q x12 w3))

theorem C_l_markProblem {Q : Int → World → Prop} {a_0 : Int} {a_1 : Int} {a_2 : Sl} {a_3 : Sl} {k : Int} {w : World} (h : V_l_markProblem Q a_0 a_1 a_2 a_3 k w) : Calls Try.prog F.l_markProblem #[.agg #[.int .i64 a_0, .int .i64 a_1, a_2.v, a_3.v], .int .i64 k] w (Ret [.at (.int .i64)] Q) :=
  mkC (hint := hint) (ann := annOf []) (args := [.agg #[.int .i64 a_0, .int .i64 a_1, a_2.v, a_3.v], .int .i64 k]) (rs := [.at (.int .i64)]) Try.func21 (by kernel_rfl) (by kernel_rfl) h

def V_l_heldProblem (Q : Int → World → Prop) (a_0 : Int) (a_1 : Int) (a_2 : Sl) (a_3 : Sl) (k : Int) (w : World) : Prop :=
  NEW T.t_i_Problem #[.int .i64 a_0, .int .i64 a_1, a_2.v, a_3.v] w fun (p_a : Addr) w1 =>
  LD [.sl] (p_a.add 2) w1 fun (x6 : Sl) =>
  Calls Try.prog F.l_heldIntSS #[x6.v, .int .i64 k] w1 (Ret [.at (.int .i64)] fun (x8 : Int) w2 =>
  cond (decide ((x8 : Int) < 0)) (
  Q (-1) w2) (
  LD [.sl] (p_a.add 3) w2 fun (x12 : Sl) =>
  Calls Try.prog F.l_heldIntSS #[x12.v, .int .i64 x8] w2 (Ret [.at (.int .i64)] fun (x14 : Int) w3 =>
  cond (decide ((x14 : Int) < 0)) (
  Q (-1) w3) (
  Q x14 w3))))

theorem C_l_heldProblem {Q : Int → World → Prop} {a_0 : Int} {a_1 : Int} {a_2 : Sl} {a_3 : Sl} {k : Int} {w : World} (h : V_l_heldProblem Q a_0 a_1 a_2 a_3 k w) : Calls Try.prog F.l_heldProblem #[.agg #[.int .i64 a_0, .int .i64 a_1, a_2.v, a_3.v], .int .i64 k] w (Ret [.at (.int .i64)] Q) :=
  mkC (hint := hint) (ann := annOf []) (args := [.agg #[.int .i64 a_0, .int .i64 a_1, a_2.v, a_3.v], .int .i64 k]) (rs := [.at (.int .i64)]) Try.func22 (by kernel_rfl) (by kernel_rfl) h

def V_l_szEndSS (Q : Int → World → Prop) (a : Sl) (left : Int) (w : World) : Prop :=
  cond (decide (((IntKind.i64.wrap (left - a.len)) : Int) < 0)) (
  Q (-1) w) (
  ∃ (I5 : Int → Int → World → Prop) (m5 : Int → Int → World → Nat), I5 (IntKind.i64.wrap (left - a.len)) 0 w ∧ ∀ (left_2 : Int) (i : Int) w1, I5 left_2 i w1 → ∀ _ _ _ _ _ _ _ _ _ _ _ _ _ _ _ : Value,
  cond (decide ((i : Int) < a.len)) (
  IX a i 1 fun (px20 : Addr) =>
  LD [.sl] px20 w1 fun (x21 : Sl) =>
  Calls Try.prog F.l_szEndS #[x21.v, .int .i64 left_2] w1 (Ret [.at (.int .i64)] fun (x23 : Int) w2 =>
  cond (decide ((x23 : Int) < 0)) (
  Q (-1) w2) (
  I5 x23 (IntKind.i64.wrap (i + 1)) w2 ∧ m5 x23 (IntKind.i64.wrap (i + 1)) w2 < m5 left_2 i w1))) (
  Q left_2 w1))

theorem C_l_szEndSS {Q : Int → World → Prop} {a : Sl} {left : Int} {w : World} (h : V_l_szEndSS Q a left w) : Calls Try.prog F.l_szEndSS #[a.v, .int .i64 left] w (Ret [.at (.int .i64)] Q) :=
  mkC (hint := hint) (ann := annOf [(5, ⟨[(1, .int .i64), (5, .int .i64)], [4, 12, 13, 14, 15, 16, 17, 18, 19, 20, 21, 22, 23, 24, 25]⟩)]) (args := [a.v, .int .i64 left]) (rs := [.at (.int .i64)]) Try.func23 (by kernel_rfl) (by kernel_rfl) h

def V_l_szIntS (Q : Int → World → Prop) (a : Sl) (left : Int) (w : World) : Prop :=
  cond (decide (((IntKind.i64.wrap (left - a.len)) : Int) < 0)) (
  Q (-1) w) (
  Q (IntKind.i64.wrap (left - a.len)) w)

theorem C_l_szIntS {Q : Int → World → Prop} {a : Sl} {left : Int} {w : World} (h : V_l_szIntS Q a left w) : Calls Try.prog F.l_szIntS #[a.v, .int .i64 left] w (Ret [.at (.int .i64)] Q) :=
  mkC (hint := hint) (ann := annOf []) (args := [a.v, .int .i64 left]) (rs := [.at (.int .i64)]) Try.func24 (by kernel_rfl) (by kernel_rfl) h

def V_s_prAsked (Q : Bool → World → Prop) (p_0 : Int) (p_1 : Int) (p_2 : Sl) (p_3 : Sl) (n_0 : Sl) (n_1 : Sl) (n_2 : Sl) (l : Sl) (w : World) : Prop :=
  NEW T.t_i_Problem #[.int .i64 p_0, .int .i64 p_1, p_2.v, p_3.v] w fun (p_p : Addr) w1 =>
  NEW T.t_i_Network #[n_0.v, n_1.v, n_2.v] w1 fun (p_n : Addr) w2 =>
  LD [.int .i64, .int .i64, .sl, .sl] p_p w2 fun (x7_0 : Int) (x7_1 : Int) (x7_2 : Sl) (x7_3 : Sl) =>
  Calls Try.prog F.s_prGood #[.agg #[.int .i64 x7_0, .int .i64 x7_1, x7_2.v, x7_3.v]] w2 (Ret [.at .bool] fun (x8 : Bool) w3 =>
  cond x8 (
  LD [.sl, .sl, .sl] p_n w3 fun (x10_0 : Sl) (x10_1 : Sl) (x10_2 : Sl) =>
  Calls Try.prog F.s_neGood #[.agg #[x10_0.v, x10_1.v, x10_2.v]] w3 (Ret [.at .bool] fun (x11 : Bool) w4 =>
  cond x11 (
  LD [.int .i64, .int .i64, .sl, .sl] p_p w4 fun (x14_0 : Int) (x14_1 : Int) (x14_2 : Sl) (x14_3 : Sl) =>
  LD [.sl, .sl, .sl] p_n w4 fun (x15_0 : Sl) (x15_1 : Sl) (x15_2 : Sl) =>
  Calls Try.prog F.s_prShape #[.agg #[.int .i64 x14_0, .int .i64 x14_1, x14_2.v, x14_3.v], .agg #[x15_0.v, x15_1.v, x15_2.v], l.v] w4 (Ret [.at .bool] fun (x17 : Bool) w5 =>
  Q x17 w5)) (
  Q false w4))) (
  Q false w3))

theorem C_s_prAsked {Q : Bool → World → Prop} {p_0 : Int} {p_1 : Int} {p_2 : Sl} {p_3 : Sl} {n_0 : Sl} {n_1 : Sl} {n_2 : Sl} {l : Sl} {w : World} (h : V_s_prAsked Q p_0 p_1 p_2 p_3 n_0 n_1 n_2 l w) : Calls Try.prog F.s_prAsked #[.agg #[.int .i64 p_0, .int .i64 p_1, p_2.v, p_3.v], .agg #[n_0.v, n_1.v, n_2.v], l.v] w (Ret [.at .bool] Q) :=
  mkC (hint := hint) (ann := annOf []) (args := [.agg #[.int .i64 p_0, .int .i64 p_1, p_2.v, p_3.v], .agg #[n_0.v, n_1.v, n_2.v], l.v]) (rs := [.at .bool]) Try.func25 (by kernel_rfl) (by kernel_rfl) h

def V_s_prIs (Q : Bool → World → Prop) (p_0 : Int) (p_1 : Int) (p_2 : Sl) (p_3 : Sl) (n_0 : Sl) (n_1 : Sl) (n_2 : Sl) (l : Sl) (w : World) : Prop :=
  NEW T.t_i_Problem #[.int .i64 p_0, .int .i64 p_1, p_2.v, p_3.v] w fun (p_p : Addr) w1 =>
  NEW T.t_i_Network #[n_0.v, n_1.v, n_2.v] w1 fun (p_n : Addr) w2 =>
  LD [.int .i64, .int .i64, .sl, .sl] p_p w2 fun (x10_0 : Int) (x10_1 : Int) (x10_2 : Sl) (x10_3 : Sl) =>
  LD [.sl, .sl, .sl] p_n w2 fun (x11_0 : Sl) (x11_1 : Sl) (x11_2 : Sl) =>
  Calls Try.prog F.s_prFault #[.agg #[.int .i64 x10_0, .int .i64 x10_1, x10_2.v, x10_3.v], .agg #[x11_0.v, x11_1.v, x11_2.v], l.v] w2 (Ret [.at (.int .i64), .at (.int .i64)] fun (x13_0 : Int) (x13_1 : Int) w3 =>
  Q (decide ((x13_0 : Int) < 0)) w3)

theorem C_s_prIs {Q : Bool → World → Prop} {p_0 : Int} {p_1 : Int} {p_2 : Sl} {p_3 : Sl} {n_0 : Sl} {n_1 : Sl} {n_2 : Sl} {l : Sl} {w : World} (h : V_s_prIs Q p_0 p_1 p_2 p_3 n_0 n_1 n_2 l w) : Calls Try.prog F.s_prIs #[.agg #[.int .i64 p_0, .int .i64 p_1, p_2.v, p_3.v], .agg #[n_0.v, n_1.v, n_2.v], l.v] w (Ret [.at .bool] Q) :=
  mkC (hint := hint) (ann := annOf []) (args := [.agg #[.int .i64 p_0, .int .i64 p_1, p_2.v, p_3.v], .agg #[n_0.v, n_1.v, n_2.v], l.v]) (rs := [.at .bool]) Try.func26 (by kernel_rfl) (by kernel_rfl) h

def V_s_prFault_k4 (I2 : Int → World → Prop) (m2 : Int → World → Nat) (w3 : World) (x2 : Sl) (Q : Int → Int → World → Prop) (px3 : Addr) (px4 : Addr) (x15 : Int) (x19 : Sl) (w6 : World) : Prop :=
  ∃ (I7 : Int → World → Prop) (m7 : Int → World → Nat), I7 0 w6 ∧ ∀ (x37 : Int) w7, I7 x37 w7 → ∀ _ _ _ _ _ _ _ _ _ _ _ _ _ _ _ _ _ _ _ _ _ _ _ _ _ _ _ _ _ _ _ _ _ _ _ _ : Value,
  cond (decide ((x37 : Int) < x19.len)) (
  IX x19 x37 2 fun (px40 : Addr) =>
  LD [.int .i64, .int .i64] px40 w7 fun (x41_0 : Int) (x41_1 : Int) =>
  NEW T.t_i_End #[.int .i64 0, .int .i64 0] w7 fun (px11 : Addr) w8 =>
  ST px11 0 [.int .i64 x41_0, .int .i64 x41_1] w8 fun w9 =>
  LD [.sl, .sl, .sl] px4 w9 fun (x42_0 : Sl) (x42_1 : Sl) (x42_2 : Sl) =>
  QCALL Try.prog F.s_neFirst #[.agg #[x42_0.v, x42_1.v, x42_2.v], .int .i64 x15, .int .i64 x37] w9 [.at .bool] fun (x45 : Bool) =>
  cond x45 (
  LD [.int .i64, .int .i64, .sl, .sl] px3 w9 fun (x47_0 : Int) (x47_1 : Int) (x47_2 : Sl) (x47_3 : Sl) =>
  IX x2 x15 1 fun (px50 : Addr) =>
  LD [.sl] px50 w9 fun (x51 : Sl) =>
  IX x51 x37 1 fun (px53 : Addr) =>
  LD [.int .i64] px53 w9 fun (x54 : Int) =>
  LD [.int .i64] (px11.add 0) w9 fun (x57 : Int) =>
  IX x2 x57 1 fun (px58 : Addr) =>
  LD [.sl] px58 w9 fun (x59 : Sl) =>
  LD [.int .i64] (px11.add 1) w9 fun (x61 : Int) =>
  IX x59 x61 1 fun (px62 : Addr) =>
  LD [.int .i64] px62 w9 fun (x63 : Int) =>
  QCALL Try.prog F.s_prEdge #[.agg #[.int .i64 x47_0, .int .i64 x47_1, x47_2.v, x47_3.v], .int .i64 x54, .int .i64 x63] w9 [.at .bool] fun (x64 : Bool) =>
  ∀ w10, Ext w9 w10 →
  cond (!x64) (
  Q x15 x37 w10) (
  I7 (IntKind.i64.wrap (x37 + 1)) w10 ∧ m7 (IntKind.i64.wrap (x37 + 1)) w10 < m7 x37 w7)) (
  ∀ w11, Ext w9 w11 →
  I7 (IntKind.i64.wrap (x37 + 1)) w11 ∧ m7 (IntKind.i64.wrap (x37 + 1)) w11 < m7 x37 w7)) (
  I2 (IntKind.i64.wrap (x15 + 1)) w7 ∧ m2 (IntKind.i64.wrap (x15 + 1)) w7 < m2 x15 w3)

def V_s_prFault (Q : Int → Int → World → Prop) (x0_0 : Int) (x0_1 : Int) (x0_2 : Sl) (x0_3 : Sl) (x1_0 : Sl) (x1_1 : Sl) (x1_2 : Sl) (x2 : Sl) (w : World) : Prop :=
  NEW T.t_i_Problem #[.int .i64 x0_0, .int .i64 x0_1, x0_2.v, x0_3.v] w fun (px3 : Addr) w1 =>
  NEW T.t_i_Network #[x1_0.v, x1_1.v, x1_2.v] w1 fun (px4 : Addr) w2 =>
  LD [.sl] (px4.add 0) w2 fun (x13 : Sl) =>
  ∃ (I2 : Int → World → Prop) (m2 : Int → World → Nat), I2 0 w2 ∧ ∀ (x15 : Int) w3, I2 x15 w3 → ∀ _ _ _ _ _ _ _ _ _ _ _ _ _ _ _ _ _ _ _ _ _ _ _ _ _ _ _ _ _ _ _ _ _ _ _ _ _ _ _ _ _ _ _ _ _ _ _ _ _ _ _ _ _ _ _ _ _ _ _ _ _ : Value,
  cond (decide ((x15 : Int) < x13.len)) (
  IX x13 x15 1 fun (px18 : Addr) =>
  LD [.sl] px18 w3 fun (x19 : Sl) =>
  LD [.int .i64] (px3.add 1) w3 fun (x23 : Int) =>
  cond ((x19.len : Int) == x23) (
  LD [.int .i64, .int .i64, .sl, .sl] px3 w3 fun (x26_0 : Int) (x26_1 : Int) (x26_2 : Sl) (x26_3 : Sl) =>
  IX x2 x15 1 fun (px29 : Addr) =>
  LD [.sl] px29 w3 fun (x30 : Sl) =>
  QCALL Try.prog F.s_prNode #[.agg #[.int .i64 x26_0, .int .i64 x26_1, x26_2.v, x26_3.v], x30.v] w3 [.at .bool] fun (x31 : Bool) =>
  ∀ w4, Ext w3 w4 →
  cond (!x31) (
  Q x15 (-1) w4) (
  V_s_prFault_k4 I2 m2 w3 x2 Q px3 px4 x15 x19 w4)) (
  ∀ w5, Ext w3 w5 →
  V_s_prFault_k4 I2 m2 w3 x2 Q px3 px4 x15 x19 w5)) (
  Q (-1) (-1) w3)

theorem C_s_prFault {Q : Int → Int → World → Prop} {x0_0 : Int} {x0_1 : Int} {x0_2 : Sl} {x0_3 : Sl} {x1_0 : Sl} {x1_1 : Sl} {x1_2 : Sl} {x2 : Sl} {w : World} (h : V_s_prFault Q x0_0 x0_1 x0_2 x0_3 x1_0 x1_1 x1_2 x2 w) : Calls Try.prog F.s_prFault #[.agg #[.int .i64 x0_0, .int .i64 x0_1, x0_2.v, x0_3.v], .agg #[x1_0.v, x1_1.v, x1_2.v], x2.v] w (Ret [.at (.int .i64), .at (.int .i64)] Q) :=
  mkC (hint := hint) (ann := annOf [(2, ⟨[(15, .int .i64)], [6, 7, 8, 9, 10, 11, 16, 17, 18, 19, 20, 21, 22, 23, 24, 25, 26, 27, 28, 29, 30, 31, 32, 33, 34, 35, 36, 37, 38, 39, 40, 41, 42, 43, 44, 45, 46, 47, 48, 49, 50, 51, 52, 53, 54, 55, 56, 57, 58, 59, 60, 61, 62, 63, 64, 65, 66, 67, 68, 69, 70]⟩), (7, ⟨[(37, .int .i64)], [6, 7, 10, 11, 38, 39, 40, 41, 42, 43, 44, 45, 46, 47, 48, 49, 50, 51, 52, 53, 54, 55, 56, 57, 58, 59, 60, 61, 62, 63, 64, 65, 66, 67, 68, 69]⟩)]) (args := [.agg #[.int .i64 x0_0, .int .i64 x0_1, x0_2.v, x0_3.v], .agg #[x1_0.v, x1_1.v, x1_2.v], x2.v]) (rs := [.at (.int .i64), .at (.int .i64)]) Try.func27 (by kernel_rfl) (by kernel_rfl) h

end Go.Proofs.Ytjfodknpphhajaa
