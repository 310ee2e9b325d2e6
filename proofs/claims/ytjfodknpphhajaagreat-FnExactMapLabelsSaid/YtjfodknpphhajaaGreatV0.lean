/- What each function's code computes to. Printed by a program. -/
import Derived.Test.YtjfodknpphhajaaGreatNames
namespace Go.Proofs.YtjfodknpphhajaaGreat
open Go.GX Go.RowKit
set_option linter.unusedVariables false
set_option maxRecDepth 100000

def V_l_FnExactMapLabels_k13 (x2 : Sl) (x4 : Sl) (Q : Bool → World → Prop) (px5 : Addr) (px6 : Addr) (px8 : Addr) (x60_0 : Sl) (x60_1 : Bool) (x79_0 : Sl) (w48 : World) : Prop :=
  Calls Tryz.prog F.l_markIntSS #[x79_0.v, .int .i64 1] w48 (Ret [.at (.int .i64)] fun (x146 : Int) w49 =>
  Calls Tryz.prog F.l_heldIntSS #[x79_0.v, .int .i64 1] w49 (Ret [.at (.int .i64)] fun (x149 : Int) w50 =>
  cond (decide ((x149 : Int) < 0)) (
  Q false w50) (
  cond ((x149 : Int) != x146) (
  Q false w50) (
  ∀ w51, Ext w50 w51 → w51.heap = w50.heap →
  LD [.int .i64, .int .i64, .sl, .sl] px5 w51 fun (x156_0 : Int) (x156_1 : Int) (x156_2 : Sl) (x156_3 : Sl) =>
  LD [.int .i64, .int .i64, .sl, .sl] px6 w51 fun (x158_0 : Int) (x158_1 : Int) (x158_2 : Sl) (x158_3 : Sl) =>
  LD [.sl, .sl, .sl] px8 w51 fun (x162_0 : Sl) (x162_1 : Sl) (x162_2 : Sl) =>
  Calls Tryz.prog F.l_toProblem #[.agg #[.int .i64 x156_0, .int .i64 x156_1, x156_2.v, x156_3.v]] w51 (Ret [.agg [.int .i64, .int .i64, .sl, .sl]] fun (x157_0 : Int) (x157_1 : Int) (x157_2 : Sl) (x157_3 : Sl) w52 =>
  Ext w51 w52 ∧ (
  Calls Tryz.prog F.l_toProblem #[.agg #[.int .i64 x158_0, .int .i64 x158_1, x158_2.v, x158_3.v]] w52 (Ret [.agg [.int .i64, .int .i64, .sl, .sl]] fun (x159_0 : Int) (x159_1 : Int) (x159_2 : Sl) (x159_3 : Sl) w53 =>
  Ext w51 w53 ∧ (
  Calls Tryz.prog F.l_toIntS #[x2.v] w53 (Ret [.at .sl] fun (x161 : Sl) w54 =>
  Ext w51 w54 ∧ (
  Calls Tryz.prog F.l_toNetwork #[.agg #[x162_0.v, x162_1.v, x162_2.v]] w54 (Ret [.agg [.sl, .sl, .sl]] fun (x163_0 : Sl) (x163_1 : Sl) (x163_2 : Sl) w55 =>
  Ext w51 w55 ∧ (
  Calls Tryz.prog F.l_toIntSS #[x4.v] w55 (Ret [.at .sl] fun (x165 : Sl) w56 =>
  Ext w51 w56 ∧ (
  Calls Tryz.prog F.i_MapLabels #[.agg #[.int .i64 x157_0, .int .i64 x157_1, x157_2.v, x157_3.v], .agg #[.int .i64 x159_0, .int .i64 x159_1, x159_2.v, x159_3.v], x161.v, .agg #[x163_0.v, x163_1.v, x163_2.v], x165.v] w56 (Ret [.at .sl, .at .bool] fun (x166_0 : Sl) (x166_1 : Bool) w57 =>
  Ext w51 w57 ∧ (
  Ext w51 w57 ∧ (
  Ext w51 w57 ∧ (
  Calls Tryz.prog F.l_eqIntSS #[x166_0.v, x60_0.v] w57 (Ret [.at .bool] fun (x171 : Bool) w58 =>
  cond (!x171) (
  Q false w58) (
  cond (!(x166_1 == x60_1)) (
  Q false w58) (
  Calls Tryz.prog F.l_heldIntSS #[x79_0.v, .int .i64 1] w58 (Ret [.at (.int .i64)] fun (x180_2 : Int) w60 =>
  cond (decide ((x180_2 : Int) < 0)) (
  Q false w60) (
  cond ((x180_2 : Int) != x146) (
  Q false w60) (
  Q true w60))))))))))))))))))))))))

def V_l_FnExactMapLabels_k6 (x2 : Sl) (x4 : Sl) (Q : Bool → World → Prop) (px5 : Addr) (px6 : Addr) (px8 : Addr) (x60_0 : Sl) (x60_1 : Bool) (px14 : Addr) (px15 : Addr) (x68 : Sl) (px17 : Addr) (x72 : Sl) (x79_0 : Sl) (x79_1 : Bool) (w28 : World) : Prop :=
  ∀ w29, Ext w28 w29 → w29.heap = w28.heap →
  LD [.int .i64, .int .i64, .sl, .sl] px14 w29 fun (x91_0 : Int) (x91_1 : Int) (x91_2 : Sl) (x91_3 : Sl) =>
  LD [.int .i64, .int .i64, .sl, .sl] px5 w29 fun (x92_0 : Int) (x92_1 : Int) (x92_2 : Sl) (x92_3 : Sl) =>
  Ext w29 w29 ∧ (
  Calls Tryz.prog F.l_toProblem #[.agg #[.int .i64 x92_0, .int .i64 x92_1, x92_2.v, x92_3.v]] w29 (Ret [.agg [.int .i64, .int .i64, .sl, .sl]] fun (x93_0 : Int) (x93_1 : Int) (x93_2 : Sl) (x93_3 : Sl) w30 =>
  Ext w29 w30 ∧ (
  Calls Tryz.prog F.l_eqProblem #[.agg #[.int .i64 x91_0, .int .i64 x91_1, x91_2.v, x91_3.v], .agg #[.int .i64 x93_0, .int .i64 x93_1, x93_2.v, x93_3.v]] w30 (Ret [.at .bool] fun (x94 : Bool) w31 =>
  Ext w29 w31 ∧ (
  cond (!x94) (
  Q false w31) (
  ∀ w32, Ext w31 w32 → w32.heap = w31.heap →
  LD [.int .i64, .int .i64, .sl, .sl] px15 w32 fun (x96_0 : Int) (x96_1 : Int) (x96_2 : Sl) (x96_3 : Sl) =>
  LD [.int .i64, .int .i64, .sl, .sl] px6 w32 fun (x97_0 : Int) (x97_1 : Int) (x97_2 : Sl) (x97_3 : Sl) =>
  Ext w32 w32 ∧ (
  Calls Tryz.prog F.l_toProblem #[.agg #[.int .i64 x97_0, .int .i64 x97_1, x97_2.v, x97_3.v]] w32 (Ret [.agg [.int .i64, .int .i64, .sl, .sl]] fun (x98_0 : Int) (x98_1 : Int) (x98_2 : Sl) (x98_3 : Sl) w33 =>
  Ext w32 w33 ∧ (
  Calls Tryz.prog F.l_eqProblem #[.agg #[.int .i64 x96_0, .int .i64 x96_1, x96_2.v, x96_3.v], .agg #[.int .i64 x98_0, .int .i64 x98_1, x98_2.v, x98_3.v]] w33 (Ret [.at .bool] fun (x99 : Bool) w34 =>
  Ext w32 w34 ∧ (
  cond (!x99) (
  Q false w34) (
  Calls Tryz.prog F.l_toIntS #[x2.v] w34 (Ret [.at .sl] fun (x103 : Sl) w35 =>
  Calls Tryz.prog F.l_eqIntS #[x68.v, x103.v] w35 (Ret [.at .bool] fun (x104 : Bool) w36 =>
  cond (!x104) (
  Q false w36) (
  ∀ w37, Ext w36 w37 → w37.heap = w36.heap →
  LD [.sl, .sl, .sl] px17 w37 fun (x106_0 : Sl) (x106_1 : Sl) (x106_2 : Sl) =>
  LD [.sl, .sl, .sl] px8 w37 fun (x107_0 : Sl) (x107_1 : Sl) (x107_2 : Sl) =>
  Ext w37 w37 ∧ (
  Calls Tryz.prog F.l_toNetwork #[.agg #[x107_0.v, x107_1.v, x107_2.v]] w37 (Ret [.agg [.sl, .sl, .sl]] fun (x108_0 : Sl) (x108_1 : Sl) (x108_2 : Sl) w38 =>
  Ext w37 w38 ∧ (
  Calls Tryz.prog F.l_eqNetwork #[.agg #[x106_0.v, x106_1.v, x106_2.v], .agg #[x108_0.v, x108_1.v, x108_2.v]] w38 (Ret [.at .bool] fun (x109 : Bool) w39 =>
  Ext w37 w39 ∧ (
  cond (!x109) (
  Q false w39) (
  Calls Tryz.prog F.l_toIntSS #[x4.v] w39 (Ret [.at .sl] fun (x113 : Sl) w40 =>
  Calls Tryz.prog F.l_eqIntSS #[x72.v, x113.v] w40 (Ret [.at .bool] fun (x114 : Bool) w41 =>
  cond (!x114) (
  Q false w41) (
  LD [.int .i64, .int .i64, .sl, .sl] px14 w41 fun (x116_0 : Int) (x116_1 : Int) (x116_2 : Sl) (x116_3 : Sl) =>
  Calls Tryz.prog F.l_markProblem #[.agg #[.int .i64 x116_0, .int .i64 x116_1, x116_2.v, x116_3.v], .int .i64 1] w41 (Ret [.at (.int .i64)] fun (x118 : Int) w42 =>
  LD [.int .i64, .int .i64, .sl, .sl] px15 w42 fun (x119_0 : Int) (x119_1 : Int) (x119_2 : Sl) (x119_3 : Sl) =>
  Calls Tryz.prog F.l_markProblem #[.agg #[.int .i64 x119_0, .int .i64 x119_1, x119_2.v, x119_3.v], .int .i64 x118] w42 (Ret [.at (.int .i64)] fun (x121 : Int) w43 =>
  Calls Tryz.prog F.l_markIntS #[x68.v, .int .i64 x121] w43 (Ret [.at (.int .i64)] fun (x124 : Int) w44 =>
  LD [.sl, .sl, .sl] px17 w44 fun (x125_0 : Sl) (x125_1 : Sl) (x125_2 : Sl) =>
  Calls Tryz.prog F.l_markNetwork #[.agg #[x125_0.v, x125_1.v, x125_2.v], .int .i64 x124] w44 (Ret [.at (.int .i64)] fun (x127 : Int) w45 =>
  Calls Tryz.prog F.l_markIntSS #[x72.v, .int .i64 x127] w45 (Ret [.at (.int .i64)] fun (x130 : Int) w46 =>
  cond (decide ((x130 : Int) < 0)) (
  Q false w46) (
  Calls Tryz.prog F.l_eqIntSS #[x79_0.v, x60_0.v] w46 (Ret [.at .bool] fun (x136 : Bool) w47 =>
  cond (!x136) (
  Q false w47) (
  cond (!(x79_1 == x60_1)) (
  Q false w47) (
  V_l_FnExactMapLabels_k13 x2 x4 Q px5 px6 px8 x60_0 x60_1 x79_0 w47)))))))))))))))))))))))))))))))))

def V_l_FnExactMapLabels (Q : Bool → World → Prop) (x0_0 : Int) (x0_1 : Int) (x0_2 : Sl) (x0_3 : Sl) (x1_0 : Int) (x1_1 : Int) (x1_2 : Sl) (x1_3 : Sl) (x2 : Sl) (x3_0 : Sl) (x3_1 : Sl) (x3_2 : Sl) (x4 : Sl) (w : World) : Prop :=
  NEW T.t_l_Problem #[.int .i64 x0_0, .int .i64 x0_1, x0_2.v, x0_3.v] w fun (px5 : Addr) w1 =>
  NEW T.t_l_Problem #[.int .i64 x1_0, .int .i64 x1_1, x1_2.v, x1_3.v] w1 fun (px6 : Addr) w2 =>
  NEW T.t_l_Network #[x3_0.v, x3_1.v, x3_2.v] w2 fun (px8 : Addr) w3 =>
  cond (decide ((x2.len : Int) > 1048576)) (
  Q true w3) (
  LD [.int .i64, .int .i64, .sl, .sl] px5 w3 fun (x29_0 : Int) (x29_1 : Int) (x29_2 : Sl) (x29_3 : Sl) =>
  Calls Tryz.prog F.l_szProblem #[.agg #[.int .i64 x29_0, .int .i64 x29_1, x29_2.v, x29_3.v], .int .i64 1048576] w3 (Ret [.at (.int .i64)] fun (x31 : Int) w4 =>
  cond (decide ((x31 : Int) < 0)) (
  Q true w4) (
  LD [.int .i64, .int .i64, .sl, .sl] px6 w4 fun (x34_0 : Int) (x34_1 : Int) (x34_2 : Sl) (x34_3 : Sl) =>
  Calls Tryz.prog F.l_szProblem #[.agg #[.int .i64 x34_0, .int .i64 x34_1, x34_2.v, x34_3.v], .int .i64 x31] w4 (Ret [.at (.int .i64)] fun (x36 : Int) w5 =>
  cond (decide ((x36 : Int) < 0)) (
  Q true w5) (
  LD [.sl, .sl, .sl] px8 w5 fun (x39_0 : Sl) (x39_1 : Sl) (x39_2 : Sl) =>
  Calls Tryz.prog F.l_szNetwork #[.agg #[x39_0.v, x39_1.v, x39_2.v], .int .i64 x36] w5 (Ret [.at (.int .i64)] fun (x41 : Int) w6 =>
  cond (decide ((x41 : Int) < 0)) (
  Q true w6) (
  Calls Tryz.prog F.l_szIntSS #[x4.v, .int .i64 x41] w6 (Ret [.at (.int .i64)] fun (x46 : Int) w7 =>
  cond (decide ((x46 : Int) < 0)) (
  Q true w7) (
  ∀ w8, Ext w7 w8 → w8.heap = w7.heap →
  LD [.int .i64, .int .i64, .sl, .sl] px5 w8 fun (x50_0 : Int) (x50_1 : Int) (x50_2 : Sl) (x50_3 : Sl) =>
  LD [.int .i64, .int .i64, .sl, .sl] px6 w8 fun (x52_0 : Int) (x52_1 : Int) (x52_2 : Sl) (x52_3 : Sl) =>
  LD [.sl, .sl, .sl] px8 w8 fun (x56_0 : Sl) (x56_1 : Sl) (x56_2 : Sl) =>
  Calls Tryz.prog F.l_toProblem #[.agg #[.int .i64 x50_0, .int .i64 x50_1, x50_2.v, x50_3.v]] w8 (Ret [.agg [.int .i64, .int .i64, .sl, .sl]] fun (x51_0 : Int) (x51_1 : Int) (x51_2 : Sl) (x51_3 : Sl) w9 =>
  Ext w8 w9 ∧ (
  Calls Tryz.prog F.l_toProblem #[.agg #[.int .i64 x52_0, .int .i64 x52_1, x52_2.v, x52_3.v]] w9 (Ret [.agg [.int .i64, .int .i64, .sl, .sl]] fun (x53_0 : Int) (x53_1 : Int) (x53_2 : Sl) (x53_3 : Sl) w10 =>
  Ext w8 w10 ∧ (
  Calls Tryz.prog F.l_toIntS #[x2.v] w10 (Ret [.at .sl] fun (x55 : Sl) w11 =>
  Ext w8 w11 ∧ (
  Calls Tryz.prog F.l_toNetwork #[.agg #[x56_0.v, x56_1.v, x56_2.v]] w11 (Ret [.agg [.sl, .sl, .sl]] fun (x57_0 : Sl) (x57_1 : Sl) (x57_2 : Sl) w12 =>
  Ext w8 w12 ∧ (
  Calls Tryz.prog F.l_toIntSS #[x4.v] w12 (Ret [.at .sl] fun (x59 : Sl) w13 =>
  Ext w8 w13 ∧ (
  Calls Tryz.prog F.s_MapLabels #[.agg #[.int .i64 x51_0, .int .i64 x51_1, x51_2.v, x51_3.v], .agg #[.int .i64 x53_0, .int .i64 x53_1, x53_2.v, x53_3.v], x55.v, .agg #[x57_0.v, x57_1.v, x57_2.v], x59.v] w13 (Ret [.at .sl, .at .bool] fun (x60_0 : Sl) (x60_1 : Bool) w14 =>
  Ext w8 w14 ∧ (
  Ext w8 w14 ∧ (
  Ext w8 w14 ∧ (
  LD [.int .i64, .int .i64, .sl, .sl] px5 w14 fun (x63_0 : Int) (x63_1 : Int) (x63_2 : Sl) (x63_3 : Sl) =>
  Calls Tryz.prog F.l_toProblem #[.agg #[.int .i64 x63_0, .int .i64 x63_1, x63_2.v, x63_3.v]] w14 (Ret [.agg [.int .i64, .int .i64, .sl, .sl]] fun (x64_0 : Int) (x64_1 : Int) (x64_2 : Sl) (x64_3 : Sl) w15 =>
  NEW T.t_i_Problem #[.int .i64 0, .int .i64 0, .slice none 0 0, .slice none 0 0] w15 fun (px14 : Addr) w16 =>
  ST px14 0 [.int .i64 x64_0, .int .i64 x64_1, x64_2.v, x64_3.v] w16 fun w17 =>
  LD [.int .i64, .int .i64, .sl, .sl] px6 w17 fun (x65_0 : Int) (x65_1 : Int) (x65_2 : Sl) (x65_3 : Sl) =>
  Calls Tryz.prog F.l_toProblem #[.agg #[.int .i64 x65_0, .int .i64 x65_1, x65_2.v, x65_3.v]] w17 (Ret [.agg [.int .i64, .int .i64, .sl, .sl]] fun (x66_0 : Int) (x66_1 : Int) (x66_2 : Sl) (x66_3 : Sl) w18 =>
  NEW T.t_i_Problem #[.int .i64 0, .int .i64 0, .slice none 0 0, .slice none 0 0] w18 fun (px15 : Addr) w19 =>
  ST px15 0 [.int .i64 x66_0, .int .i64 x66_1, x66_2.v, x66_3.v] w19 fun w20 =>
  Calls Tryz.prog F.l_toIntS #[x2.v] w20 (Ret [.at .sl] fun (x68 : Sl) w21 =>
  LD [.sl, .sl, .sl] px8 w21 fun (x69_0 : Sl) (x69_1 : Sl) (x69_2 : Sl) =>
  Calls Tryz.prog F.l_toNetwork #[.agg #[x69_0.v, x69_1.v, x69_2.v]] w21 (Ret [.agg [.sl, .sl, .sl]] fun (x70_0 : Sl) (x70_1 : Sl) (x70_2 : Sl) w22 =>
  NEW T.t_i_Network #[.slice none 0 0, .slice none 0 0, .slice none 0 0] w22 fun (px17 : Addr) w23 =>
  ST px17 0 [x70_0.v, x70_1.v, x70_2.v] w23 fun w24 =>
  Calls Tryz.prog F.l_toIntSS #[x4.v] w24 (Ret [.at .sl] fun (x72 : Sl) w25 =>
  LD [.int .i64, .int .i64, .sl, .sl] px14 w25 fun (x74_0 : Int) (x74_1 : Int) (x74_2 : Sl) (x74_3 : Sl) =>
  LD [.int .i64, .int .i64, .sl, .sl] px15 w25 fun (x75_0 : Int) (x75_1 : Int) (x75_2 : Sl) (x75_3 : Sl) =>
  LD [.sl, .sl, .sl] px17 w25 fun (x77_0 : Sl) (x77_1 : Sl) (x77_2 : Sl) =>
  Calls Tryz.prog F.i_MapLabels #[.agg #[.int .i64 x74_0, .int .i64 x74_1, x74_2.v, x74_3.v], .agg #[.int .i64 x75_0, .int .i64 x75_1, x75_2.v, x75_3.v], x68.v, .agg #[x77_0.v, x77_1.v, x77_2.v], x72.v] w25 (Ret [.at .sl, .at .bool] fun (x79_0 : Sl) (x79_1 : Bool) w26 =>
  Calls Tryz.prog F.l_eqIntSS #[x79_0.v, x60_0.v] w26 (Ret [.at .bool] fun (x84 : Bool) w27 =>
  cond (!x84) (
  Q false w27) (
  cond (!(x79_1 == x60_1)) (
  Q false w27) (
  V_l_FnExactMapLabels_k6 x2 x4 Q px5 px6 px8 x60_0 x60_1 px14 px15 x68 px17 x72 x79_0 x79_1 w27))))))))))))))))))))))))))))))))

theorem C_l_FnExactMapLabels {Q : Bool → World → Prop} {x0_0 : Int} {x0_1 : Int} {x0_2 : Sl} {x0_3 : Sl} {x1_0 : Int} {x1_1 : Int} {x1_2 : Sl} {x1_3 : Sl} {x2 : Sl} {x3_0 : Sl} {x3_1 : Sl} {x3_2 : Sl} {x4 : Sl} {w : World} (h : V_l_FnExactMapLabels Q x0_0 x0_1 x0_2 x0_3 x1_0 x1_1 x1_2 x1_3 x2 x3_0 x3_1 x3_2 x4 w) : Calls Tryz.prog F.l_FnExactMapLabels #[.agg #[.int .i64 x0_0, .int .i64 x0_1, x0_2.v, x0_3.v], .agg #[.int .i64 x1_0, .int .i64 x1_1, x1_2.v, x1_3.v], x2.v, .agg #[x3_0.v, x3_1.v, x3_2.v], x4.v] w (Ret [.at .bool] Q) :=
  mkC (hint := hint) (ann := annOf []) (args := [.agg #[.int .i64 x0_0, .int .i64 x0_1, x0_2.v, x0_3.v], .agg #[.int .i64 x1_0, .int .i64 x1_1, x1_2.v, x1_3.v], x2.v, .agg #[x3_0.v, x3_1.v, x3_2.v], x4.v]) (rs := [.at .bool]) Tryz.func3 (by kernel_rfl) (by kernel_rfl) h

def V_l_szProblem (Q : Int → World → Prop) (a_0 : Int) (a_1 : Int) (a_2 : Sl) (a_3 : Sl) (left : Int) (w : World) : Prop :=
  NEW T.t_l_Problem #[.int .i64 a_0, .int .i64 a_1, a_2.v, a_3.v] w fun (p_a : Addr) w1 =>
  LD [.sl] (p_a.add 2) w1 fun (x6 : Sl) =>
  Calls Tryz.prog F.l_szIntSS #[x6.v, .int .i64 left] w1 (Ret [.at (.int .i64)] fun (x8 : Int) w2 =>
  cond (decide ((x8 : Int) < 0)) (
  Q (-1) w2) (
  LD [.sl] (p_a.add 3) w2 fun (x12 : Sl) =>
  Calls Tryz.prog F.l_szIntSS #[x12.v, .int .i64 x8] w2 (Ret [.at (.int .i64)] fun (x14 : Int) w3 =>
  cond (decide ((x14 : Int) < 0)) (
  Q (-1) w3) (
  Q x14 w3))))

theorem C_l_szProblem {Q : Int → World → Prop} {a_0 : Int} {a_1 : Int} {a_2 : Sl} {a_3 : Sl} {left : Int} {w : World} (h : V_l_szProblem Q a_0 a_1 a_2 a_3 left w) : Calls Tryz.prog F.l_szProblem #[.agg #[.int .i64 a_0, .int .i64 a_1, a_2.v, a_3.v], .int .i64 left] w (Ret [.at (.int .i64)] Q) :=
  mkC (hint := hint) (ann := annOf []) (args := [.agg #[.int .i64 a_0, .int .i64 a_1, a_2.v, a_3.v], .int .i64 left]) (rs := [.at (.int .i64)]) Tryz.func4 (by kernel_rfl) (by kernel_rfl) h

def V_l_szNetwork (Q : Int → World → Prop) (a_0 : Sl) (a_1 : Sl) (a_2 : Sl) (left : Int) (w : World) : Prop :=
  NEW T.t_l_Network #[a_0.v, a_1.v, a_2.v] w fun (p_a : Addr) w1 =>
  LD [.sl] (p_a.add 0) w1 fun (x6 : Sl) =>
  Calls Tryz.prog F.l_szEndSS #[x6.v, .int .i64 left] w1 (Ret [.at (.int .i64)] fun (x8 : Int) w2 =>
  cond (decide ((x8 : Int) < 0)) (
  Q (-1) w2) (
  LD [.sl] (p_a.add 1) w2 fun (x12 : Sl) =>
  Calls Tryz.prog F.l_szIntS #[x12.v, .int .i64 x8] w2 (Ret [.at (.int .i64)] fun (x14 : Int) w3 =>
  cond (decide ((x14 : Int) < 0)) (
  Q (-1) w3) (
  LD [.sl] (p_a.add 2) w3 fun (x18 : Sl) =>
  Calls Tryz.prog F.l_szIntS #[x18.v, .int .i64 x14] w3 (Ret [.at (.int .i64)] fun (x20 : Int) w4 =>
  cond (decide ((x20 : Int) < 0)) (
  Q (-1) w4) (
  Q x20 w4))))))

theorem C_l_szNetwork {Q : Int → World → Prop} {a_0 : Sl} {a_1 : Sl} {a_2 : Sl} {left : Int} {w : World} (h : V_l_szNetwork Q a_0 a_1 a_2 left w) : Calls Tryz.prog F.l_szNetwork #[.agg #[a_0.v, a_1.v, a_2.v], .int .i64 left] w (Ret [.at (.int .i64)] Q) :=
  mkC (hint := hint) (ann := annOf []) (args := [.agg #[a_0.v, a_1.v, a_2.v], .int .i64 left]) (rs := [.at (.int .i64)]) Tryz.func5 (by kernel_rfl) (by kernel_rfl) h

def V_l_szIntSS (Q : Int → World → Prop) (a : Sl) (left : Int) (w : World) : Prop :=
  cond (decide (((IntKind.i64.wrap (left - a.len)) : Int) < 0)) (
  Q (-1) w) (
  ∃ (I5 : Int → Int → World → Prop) (m5 : Int → Int → World → Nat), I5 (IntKind.i64.wrap (left - a.len)) 0 w ∧ ∀ (left_2 : Int) (i : Int) w1, I5 left_2 i w1 → ∀ _ _ _ _ _ _ _ _ _ _ _ _ _ _ _ : Value,
  cond (decide ((i : Int) < a.len)) (
  IX a i 1 fun (px20 : Addr) =>
  LD [.sl] px20 w1 fun (x21 : Sl) =>
  Calls Tryz.prog F.l_szIntS #[x21.v, .int .i64 left_2] w1 (Ret [.at (.int .i64)] fun (x23 : Int) w2 =>
  cond (decide ((x23 : Int) < 0)) (
  Q (-1) w2) (
  I5 x23 (IntKind.i64.wrap (i + 1)) w2 ∧ m5 x23 (IntKind.i64.wrap (i + 1)) w2 < m5 left_2 i w1))) (
  Q left_2 w1))

theorem C_l_szIntSS {Q : Int → World → Prop} {a : Sl} {left : Int} {w : World} (h : V_l_szIntSS Q a left w) : Calls Tryz.prog F.l_szIntSS #[a.v, .int .i64 left] w (Ret [.at (.int .i64)] Q) :=
  mkC (hint := hint) (ann := annOf [(5, ⟨[(1, .int .i64), (5, .int .i64)], [4, 12, 13, 14, 15, 16, 17, 18, 19, 20, 21, 22, 23, 24, 25]⟩)]) (args := [a.v, .int .i64 left]) (rs := [.at (.int .i64)]) Tryz.func6 (by kernel_rfl) (by kernel_rfl) h

def V_s_MapLabels (Q : Sl → Bool → World → Prop) (p_0 : Int) (p_1 : Int) (p_2 : Sl) (p_3 : Sl) (q_0 : Int) (q_1 : Int) (q_2 : Sl) (q_3 : Sl) (f : Sl) (n_0 : Sl) (n_1 : Sl) (n_2 : Sl) (l : Sl) (w : World) : Prop :=
  NEW T.t_i_Problem #[.int .i64 p_0, .int .i64 p_1, p_2.v, p_3.v] w fun (p_p : Addr) w1 =>
  NEW T.t_i_Problem #[.int .i64 q_0, .int .i64 q_1, q_2.v, q_3.v] w1 fun (p_q : Addr) w2 =>
  NEW T.t_i_Network #[n_0.v, n_1.v, n_2.v] w2 fun (p_n : Addr) w3 =>
  LD [.int .i64, .int .i64, .sl, .sl] p_p w3 fun (x12_0 : Int) (x12_1 : Int) (x12_2 : Sl) (x12_3 : Sl) =>
  LD [.int .i64, .int .i64, .sl, .sl] p_q w3 fun (x13_0 : Int) (x13_1 : Int) (x13_2 : Sl) (x13_3 : Sl) =>
  Calls Tryz.prog F.s_reTwo #[.agg #[.int .i64 x12_0, .int .i64 x12_1, x12_2.v, x12_3.v], .agg #[.int .i64 x13_0, .int .i64 x13_1, x13_2.v, x13_3.v]] w3 (Ret [.at .bool] fun (x14 : Bool) w4 =>
  cond (!x14) (
  Q (⟨none, 0, 0⟩) false w4) (
  LD [.int .i64, .int .i64, .sl, .sl] p_p w4 fun (x17_0 : Int) (x17_1 : Int) (x17_2 : Sl) (x17_3 : Sl) =>
  LD [.int .i64, .int .i64, .sl, .sl] p_q w4 fun (x18_0 : Int) (x18_1 : Int) (x18_2 : Sl) (x18_3 : Sl) =>
  Calls Tryz.prog F.s_reMap #[.agg #[.int .i64 x17_0, .int .i64 x17_1, x17_2.v, x17_3.v], .agg #[.int .i64 x18_0, .int .i64 x18_1, x18_2.v, x18_3.v], f.v] w4 (Ret [.at .bool] fun (x20 : Bool) w5 =>
  cond (!x20) (
  Q (⟨none, 0, 0⟩) false w5) (
  LD [.int .i64, .int .i64, .sl, .sl] p_p w5 fun (x24_0 : Int) (x24_1 : Int) (x24_2 : Sl) (x24_3 : Sl) =>
  LD [.sl, .sl, .sl] p_n w5 fun (x25_0 : Sl) (x25_1 : Sl) (x25_2 : Sl) =>
  Calls Tryz.prog F.s_prAsked #[.agg #[.int .i64 x24_0, .int .i64 x24_1, x24_2.v, x24_3.v], .agg #[x25_0.v, x25_1.v, x25_2.v], l.v] w5 (Ret [.at .bool] fun (x27 : Bool) w6 =>
  cond (!x27) (
  Q (⟨none, 0, 0⟩) false w6) (
  Calls Tryz.prog F.s_reApply #[f.v, l.v] w6 (Ret [.at .sl] fun (x32_2 : Sl) w8 =>
  Q x32_2 true w8)))))))

theorem C_s_MapLabels {Q : Sl → Bool → World → Prop} {p_0 : Int} {p_1 : Int} {p_2 : Sl} {p_3 : Sl} {q_0 : Int} {q_1 : Int} {q_2 : Sl} {q_3 : Sl} {f : Sl} {n_0 : Sl} {n_1 : Sl} {n_2 : Sl} {l : Sl} {w : World} (h : V_s_MapLabels Q p_0 p_1 p_2 p_3 q_0 q_1 q_2 q_3 f n_0 n_1 n_2 l w) : Calls Tryz.prog F.s_MapLabels #[.agg #[.int .i64 p_0, .int .i64 p_1, p_2.v, p_3.v], .agg #[.int .i64 q_0, .int .i64 q_1, q_2.v, q_3.v], f.v, .agg #[n_0.v, n_1.v, n_2.v], l.v] w (Ret [.at .sl, .at .bool] Q) :=
  mkC (hint := hint) (ann := annOf []) (args := [.agg #[.int .i64 p_0, .int .i64 p_1, p_2.v, p_3.v], .agg #[.int .i64 q_0, .int .i64 q_1, q_2.v, q_3.v], f.v, .agg #[n_0.v, n_1.v, n_2.v], l.v]) (rs := [.at .sl, .at .bool]) Tryz.func7 (by kernel_rfl) (by kernel_rfl) h

def V_l_toProblem (Q : Int → Int → Sl → Sl → World → Prop) (a_0 : Int) (a_1 : Int) (a_2 : Sl) (a_3 : Sl) (w : World) : Prop :=
  NEW T.t_l_Problem #[.int .i64 a_0, .int .i64 a_1, a_2.v, a_3.v] w fun (p_a : Addr) w1 =>
  NEW T.t_i_Problem #[.int .i64 0, .int .i64 0, .slice none 0 0, .slice none 0 0] w1 fun (px2 : Addr) w2 =>
  NEW T.t_i_Problem #[.int .i64 0, .int .i64 0, .slice none 0 0, .slice none 0 0] w2 fun (p_out : Addr) w3 =>
  LD [.int .i64] (p_a.add 0) w3 fun (x5 : Int) =>
  ST (p_out.add 0) 0 [.int .i64 x5] w3 fun w4 =>
  LD [.int .i64] (p_a.add 1) w4 fun (x8 : Int) =>
  ST (p_out.add 1) 0 [.int .i64 x8] w4 fun w5 =>
  LD [.sl] (p_a.add 2) w5 fun (x11 : Sl) =>
  Calls Tryz.prog F.l_toIntSS #[x11.v] w5 (Ret [.at .sl] fun (x12 : Sl) w6 =>
  ST (p_out.add 2) 0 [x12.v] w6 fun w7 =>
  LD [.sl] (p_a.add 3) w7 fun (x15 : Sl) =>
  Calls Tryz.prog F.l_toIntSS #[x15.v] w7 (Ret [.at .sl] fun (x16 : Sl) w8 =>
  ST (p_out.add 3) 0 [x16.v] w8 fun w9 =>
  LD [.int .i64, .int .i64, .sl, .sl] p_out w9 fun (x18_0 : Int) (x18_1 : Int) (x18_2 : Sl) (x18_3 : Sl) =>
  ST px2 0 [.int .i64 x18_0, .int .i64 x18_1, x18_2.v, x18_3.v] w9 fun w10 =>
  LD [.int .i64, .int .i64, .sl, .sl] px2 w10 fun (r0_0 : Int) (r0_1 : Int) (r0_2 : Sl) (r0_3 : Sl) =>
  Q r0_0 r0_1 r0_2 r0_3 w10))

theorem C_l_toProblem {Q : Int → Int → Sl → Sl → World → Prop} {a_0 : Int} {a_1 : Int} {a_2 : Sl} {a_3 : Sl} {w : World} (h : V_l_toProblem Q a_0 a_1 a_2 a_3 w) : Calls Tryz.prog F.l_toProblem #[.agg #[.int .i64 a_0, .int .i64 a_1, a_2.v, a_3.v]] w (Ret [.agg [.int .i64, .int .i64, .sl, .sl]] Q) :=
  mkC (hint := hint) (ann := annOf []) (args := [.agg #[.int .i64 a_0, .int .i64 a_1, a_2.v, a_3.v]]) (rs := [.agg [.int .i64, .int .i64, .sl, .sl]]) Tryz.func8 (by kernel_rfl) (by kernel_rfl) h

def V_l_toIntS (Q : Sl → World → Prop) (a : Sl) (w : World) : Prop :=
  RUN Tryz.prog (.at .sl) (Instr.makeSlice T.t_sl_int (.int .i64 a.len) (.int .i64 a.len)) w fun (x7 : Sl) w1 =>
  ∃ (I3 : Int → World → Prop) (m3 : Int → World → Nat), I3 0 w1 ∧ ∀ (i : Int) w2, I3 i w2 → ∀ _ _ _ _ _ _ _ _ _ _ _ _ _ : Value,
  cond (decide ((i : Int) < a.len)) (
  IX a i 1 fun (px18 : Addr) =>
  LD [.int .i64] px18 w2 fun (x19 : Int) =>
  IX x7 i 1 fun (px20 : Addr) =>
  ST px20 0 [.int .i64 x19] w2 fun w3 =>
  I3 (IntKind.i64.wrap (i + 1)) w3 ∧ m3 (IntKind.i64.wrap (i + 1)) w3 < m3 i w2) (
  Q x7 w2)

theorem C_l_toIntS {Q : Sl → World → Prop} {a : Sl} {w : World} (h : V_l_toIntS Q a w) : Calls Tryz.prog F.l_toIntS #[a.v] w (Ret [.at .sl] Q) :=
  mkC (hint := hint) (ann := annOf [(3, ⟨[(4, .int .i64)], [8, 9, 10, 11, 12, 13, 14, 15, 16, 17, 18, 19, 20]⟩)]) (args := [a.v]) (rs := [.at .sl]) Tryz.func9 (by kernel_rfl) (by kernel_rfl) h

def V_l_toNetwork (Q : Sl → Sl → Sl → World → Prop) (a_0 : Sl) (a_1 : Sl) (a_2 : Sl) (w : World) : Prop :=
  NEW T.t_l_Network #[a_0.v, a_1.v, a_2.v] w fun (p_a : Addr) w1 =>
  NEW T.t_i_Network #[.slice none 0 0, .slice none 0 0, .slice none 0 0] w1 fun (px2 : Addr) w2 =>
  NEW T.t_i_Network #[.slice none 0 0, .slice none 0 0, .slice none 0 0] w2 fun (p_out : Addr) w3 =>
  LD [.sl] (p_a.add 0) w3 fun (x5 : Sl) =>
  Calls Tryz.prog F.l_toEndSS #[x5.v] w3 (Ret [.at .sl] fun (x6 : Sl) w4 =>
  ST (p_out.add 0) 0 [x6.v] w4 fun w5 =>
  LD [.sl] (p_a.add 1) w5 fun (x9 : Sl) =>
  Calls Tryz.prog F.l_toIntS #[x9.v] w5 (Ret [.at .sl] fun (x10 : Sl) w6 =>
  ST (p_out.add 1) 0 [x10.v] w6 fun w7 =>
  LD [.sl] (p_a.add 2) w7 fun (x13 : Sl) =>
  Calls Tryz.prog F.l_toIntS #[x13.v] w7 (Ret [.at .sl] fun (x14 : Sl) w8 =>
  ST (p_out.add 2) 0 [x14.v] w8 fun w9 =>
  LD [.sl, .sl, .sl] p_out w9 fun (x16_0 : Sl) (x16_1 : Sl) (x16_2 : Sl) =>
  ST px2 0 [x16_0.v, x16_1.v, x16_2.v] w9 fun w10 =>
  LD [.sl, .sl, .sl] px2 w10 fun (r0_0 : Sl) (r0_1 : Sl) (r0_2 : Sl) =>
  Q r0_0 r0_1 r0_2 w10)))

theorem C_l_toNetwork {Q : Sl → Sl → Sl → World → Prop} {a_0 : Sl} {a_1 : Sl} {a_2 : Sl} {w : World} (h : V_l_toNetwork Q a_0 a_1 a_2 w) : Calls Tryz.prog F.l_toNetwork #[.agg #[a_0.v, a_1.v, a_2.v]] w (Ret [.agg [.sl, .sl, .sl]] Q) :=
  mkC (hint := hint) (ann := annOf []) (args := [.agg #[a_0.v, a_1.v, a_2.v]]) (rs := [.agg [.sl, .sl, .sl]]) Tryz.func10 (by kernel_rfl) (by kernel_rfl) h

def V_l_toIntSS (Q : Sl → World → Prop) (a : Sl) (w : World) : Prop :=
  RUN Tryz.prog (.at .sl) (Instr.makeSlice T.t_sl_sl_int (.int .i64 a.len) (.int .i64 a.len)) w fun (x7 : Sl) w1 =>
  ∃ (I3 : Int → World → Prop) (m3 : Int → World → Nat), I3 0 w1 ∧ ∀ (i : Int) w2, I3 i w2 → ∀ _ _ _ _ _ _ _ _ _ _ _ _ _ _ : Value,
  cond (decide ((i : Int) < a.len)) (
  IX a i 1 fun (px18 : Addr) =>
  LD [.sl] px18 w2 fun (x19 : Sl) =>
  Calls Tryz.prog F.l_toIntS #[x19.v] w2 (Ret [.at .sl] fun (x20 : Sl) w3 =>
  IX x7 i 1 fun (px21 : Addr) =>
  ST px21 0 [x20.v] w3 fun w4 =>
  I3 (IntKind.i64.wrap (i + 1)) w4 ∧ m3 (IntKind.i64.wrap (i + 1)) w4 < m3 i w2)) (
  Q x7 w2)

theorem C_l_toIntSS {Q : Sl → World → Prop} {a : Sl} {w : World} (h : V_l_toIntSS Q a w) : Calls Tryz.prog F.l_toIntSS #[a.v] w (Ret [.at .sl] Q) :=
  mkC (hint := hint) (ann := annOf [(3, ⟨[(4, .int .i64)], [8, 9, 10, 11, 12, 13, 14, 15, 16, 17, 18, 19, 20, 21]⟩)]) (args := [a.v]) (rs := [.at .sl]) Tryz.func11 (by kernel_rfl) (by kernel_rfl) h

def V_i_MapLabels_k1 (f : Sl) (l : Sl) (Q : Sl → Bool → World → Prop) (w8 : World) : Prop :=
  ∃ (I5 : Sl → Int → World → Prop) (m5 : Sl → Int → World → Nat), I5 (⟨none, 0, 0⟩) 0 w8 ∧ ∀ (out : Sl) (x40 : Int) w9, I5 out x40 w9 → ∀ _ _ _ _ _ _ _ _ _ _ _ : Value,
  cond (decide ((x40 : Int) < l.len)) (
  IX l x40 1 fun (px42 : Addr) =>
  LD [.sl] px42 w9 fun (x43 : Sl) =>
  Calls Tryz.prog F.i_images #[x43.v, f.v] w9 (Ret [.at .sl] fun (x47 : Sl) w10 =>
  RUN Tryz.prog (.at .sl) (Instr.buildSlice T.t_sl_sl_int 1 #[(0, x47.v)]) w10 fun (x48 : Sl) w11 =>
  RUN Tryz.prog (.at .sl) (bsem .append #[T.t_sl_sl_int, T.t_sl_sl_int] T.t_sl_sl_int #[out.v, x48.v]) w11 fun (x49 : Sl) w12 =>
  I5 x49 (IntKind.i64.wrap (x40 + 1)) w12 ∧ m5 x49 (IntKind.i64.wrap (x40 + 1)) w12 < m5 out x40 w9)) (
  Q out true w9)

def V_i_MapLabels (Q : Sl → Bool → World → Prop) (p_0 : Int) (p_1 : Int) (p_2 : Sl) (p_3 : Sl) (q_0 : Int) (q_1 : Int) (q_2 : Sl) (q_3 : Sl) (f : Sl) (n_0 : Sl) (n_1 : Sl) (n_2 : Sl) (l : Sl) (w : World) : Prop :=
  NEW T.t_i_Problem #[.int .i64 p_0, .int .i64 p_1, p_2.v, p_3.v] w fun (p_p : Addr) w1 =>
  NEW T.t_i_Problem #[.int .i64 q_0, .int .i64 q_1, q_2.v, q_3.v] w1 fun (p_q : Addr) w2 =>
  NEW T.t_i_Network #[n_0.v, n_1.v, n_2.v] w2 fun (p_n : Addr) w3 =>
  LD [.int .i64, .int .i64, .sl, .sl] p_p w3 fun (x15_0 : Int) (x15_1 : Int) (x15_2 : Sl) (x15_3 : Sl) =>
  LD [.int .i64, .int .i64, .sl, .sl] p_q w3 fun (x16_0 : Int) (x16_1 : Int) (x16_2 : Sl) (x16_3 : Sl) =>
  Calls Tryz.prog F.i_areProblems #[.agg #[.int .i64 x15_0, .int .i64 x15_1, x15_2.v, x15_3.v], .agg #[.int .i64 x16_0, .int .i64 x16_1, x16_2.v, x16_3.v]] w3 (Ret [.at .bool] fun (x17 : Bool) w4 =>
  cond (!x17) (
  Q (⟨none, 0, 0⟩) false w4) (
  LD [.int .i64, .int .i64, .sl, .sl] p_p w4 fun (x20_0 : Int) (x20_1 : Int) (x20_2 : Sl) (x20_3 : Sl) =>
  LD [.int .i64, .int .i64, .sl, .sl] p_q w4 fun (x21_0 : Int) (x21_1 : Int) (x21_2 : Sl) (x21_3 : Sl) =>
  Calls Tryz.prog F.i_isLabelMap #[.agg #[.int .i64 x20_0, .int .i64 x20_1, x20_2.v, x20_3.v], .agg #[.int .i64 x21_0, .int .i64 x21_1, x21_2.v, x21_3.v], f.v] w4 (Ret [.at .bool] fun (x23 : Bool) w5 =>
  cond (!x23) (
  Q (⟨none, 0, 0⟩) false w5) (
  LD [.sl, .sl, .sl] p_n w5 fun (x27_0 : Sl) (x27_1 : Sl) (x27_2 : Sl) =>
  Calls Tryz.prog F.i_IsNetwork #[.agg #[x27_0.v, x27_1.v, x27_2.v]] w5 (Ret [.at .bool] fun (x28 : Bool) w6 =>
  cond (!x28) (
  Q (⟨none, 0, 0⟩) false w6) (
  LD [.int .i64, .int .i64, .sl, .sl] p_p w6 fun (x32_0 : Int) (x32_1 : Int) (x32_2 : Sl) (x32_3 : Sl) =>
  LD [.sl, .sl, .sl] p_n w6 fun (x33_0 : Sl) (x33_1 : Sl) (x33_2 : Sl) =>
  Calls Tryz.prog F.i_isLabeling #[.agg #[.int .i64 x32_0, .int .i64 x32_1, x32_2.v, x32_3.v], .agg #[x33_0.v, x33_1.v, x33_2.v], l.v] w6 (Ret [.at .bool] fun (x35 : Bool) w7 =>
  cond (!x35) (
  Q (⟨none, 0, 0⟩) false w7) (
  V_i_MapLabels_k1 f l Q w7))))))))

theorem C_i_MapLabels {Q : Sl → Bool → World → Prop} {p_0 : Int} {p_1 : Int} {p_2 : Sl} {p_3 : Sl} {q_0 : Int} {q_1 : Int} {q_2 : Sl} {q_3 : Sl} {f : Sl} {n_0 : Sl} {n_1 : Sl} {n_2 : Sl} {l : Sl} {w : World} (h : V_i_MapLabels Q p_0 p_1 p_2 p_3 q_0 q_1 q_2 q_3 f n_0 n_1 n_2 l w) : Calls Tryz.prog F.i_MapLabels #[.agg #[.int .i64 p_0, .int .i64 p_1, p_2.v, p_3.v], .agg #[.int .i64 q_0, .int .i64 q_1, q_2.v, q_3.v], f.v, .agg #[n_0.v, n_1.v, n_2.v], l.v] w (Ret [.at .sl, .at .bool] Q) :=
  mkC (hint := hint) (ann := annOf [(5, ⟨[(12, .sl), (40, .int .i64)], [14, 41, 42, 43, 44, 45, 46, 47, 48, 49, 50]⟩)]) (args := [.agg #[.int .i64 p_0, .int .i64 p_1, p_2.v, p_3.v], .agg #[.int .i64 q_0, .int .i64 q_1, q_2.v, q_3.v], f.v, .agg #[n_0.v, n_1.v, n_2.v], l.v]) (rs := [.at .sl, .at .bool]) Tryz.func12 (by kernel_rfl) (by kernel_rfl) h

def V_l_eqIntSS (Q : Bool → World → Prop) (a : Sl) (b : Sl) (w : World) : Prop :=
  cond ((a.len : Int) != b.len) (
  Q false w) (
  ∃ (I4 : Int → World → Prop) (m4 : Int → World → Nat), I4 0 w ∧ ∀ (i : Int) w1, I4 i w1 → ∀ _ _ _ _ _ _ _ _ _ _ _ _ _ _ _ _ _ : Value,
  cond (decide ((i : Int) < a.len)) (
  IX a i 1 fun (px19 : Addr) =>
  LD [.sl] px19 w1 fun (x20 : Sl) =>
  IX b i 1 fun (px23 : Addr) =>
  LD [.sl] px23 w1 fun (x24 : Sl) =>
  QCALL Tryz.prog F.l_eqIntS #[x20.v, x24.v] w1 [.at .bool] fun (x25 : Bool) =>
  ∀ w2, Ext w1 w2 →
  cond (!x25) (
  Q false w2) (
  I4 (IntKind.i64.wrap (i + 1)) w2 ∧ m4 (IntKind.i64.wrap (i + 1)) w2 < m4 i w1)) (
  Q true w1))

theorem C_l_eqIntSS {Q : Bool → World → Prop} {a : Sl} {b : Sl} {w : World} (h : V_l_eqIntSS Q a b w) : Calls Tryz.prog F.l_eqIntSS #[a.v, b.v] w (Ret [.at .bool] Q) :=
  mkC (hint := hint) (ann := annOf [(4, ⟨[(5, .int .i64)], [4, 11, 12, 13, 14, 15, 16, 17, 18, 19, 20, 21, 22, 23, 24, 25, 26]⟩)]) (args := [a.v, b.v]) (rs := [.at .bool]) Tryz.func13 (by kernel_rfl) (by kernel_rfl) h

def V_l_eqProblem (Q : Bool → World → Prop) (a_0 : Int) (a_1 : Int) (a_2 : Sl) (a_3 : Sl) (b_0 : Int) (b_1 : Int) (b_2 : Sl) (b_3 : Sl) (w : World) : Prop :=
  NEW T.t_i_Problem #[.int .i64 a_0, .int .i64 a_1, a_2.v, a_3.v] w fun (p_a : Addr) w1 =>
  NEW T.t_i_Problem #[.int .i64 b_0, .int .i64 b_1, b_2.v, b_3.v] w1 fun (p_b : Addr) w2 =>
  LD [.int .i64] (p_a.add 0) w2 fun (x6 : Int) =>
  LD [.int .i64] (p_b.add 0) w2 fun (x8 : Int) =>
  cond ((x6 : Int) != x8) (
  Q false w2) (
  LD [.int .i64] (p_a.add 1) w2 fun (x11 : Int) =>
  LD [.int .i64] (p_b.add 1) w2 fun (x13 : Int) =>
  cond ((x11 : Int) != x13) (
  Q false w2) (
  LD [.sl] (p_a.add 2) w2 fun (x16 : Sl) =>
  LD [.sl] (p_b.add 2) w2 fun (x18 : Sl) =>
  Calls Tryz.prog F.l_eqIntSS #[x16.v, x18.v] w2 (Ret [.at .bool] fun (x19 : Bool) w3 =>
  cond (!x19) (
  Q false w3) (
  LD [.sl] (p_a.add 3) w3 fun (x22 : Sl) =>
  LD [.sl] (p_b.add 3) w3 fun (x24 : Sl) =>
  Calls Tryz.prog F.l_eqIntSS #[x22.v, x24.v] w3 (Ret [.at .bool] fun (x25 : Bool) w4 =>
  cond (!x25) (
  Q false w4) (
  Q true w4))))))

theorem C_l_eqProblem {Q : Bool → World → Prop} {a_0 : Int} {a_1 : Int} {a_2 : Sl} {a_3 : Sl} {b_0 : Int} {b_1 : Int} {b_2 : Sl} {b_3 : Sl} {w : World} (h : V_l_eqProblem Q a_0 a_1 a_2 a_3 b_0 b_1 b_2 b_3 w) : Calls Tryz.prog F.l_eqProblem #[.agg #[.int .i64 a_0, .int .i64 a_1, a_2.v, a_3.v], .agg #[.int .i64 b_0, .int .i64 b_1, b_2.v, b_3.v]] w (Ret [.at .bool] Q) :=
  mkC (hint := hint) (ann := annOf []) (args := [.agg #[.int .i64 a_0, .int .i64 a_1, a_2.v, a_3.v], .agg #[.int .i64 b_0, .int .i64 b_1, b_2.v, b_3.v]]) (rs := [.at .bool]) Tryz.func14 (by kernel_rfl) (by kernel_rfl) h

def V_l_eqIntS (Q : Bool → World → Prop) (a : Sl) (b : Sl) (w : World) : Prop :=
  cond ((a.len : Int) != b.len) (
  Q false w) (
  ∃ (I4 : Int → World → Prop) (m4 : Int → World → Nat), I4 0 w ∧ ∀ (i : Int) w1, I4 i w1 → ∀ _ _ _ _ _ _ _ _ _ _ _ _ _ _ _ _ : Value,
  cond (decide ((i : Int) < a.len)) (
  IX a i 1 fun (px19 : Addr) =>
  LD [.int .i64] px19 w1 fun (x20 : Int) =>
  IX b i 1 fun (px23 : Addr) =>
  LD [.int .i64] px23 w1 fun (x24 : Int) =>
  ∀ w2, Ext w1 w2 →
  cond ((x20 : Int) != x24) (
  Q false w2) (
  I4 (IntKind.i64.wrap (i + 1)) w2 ∧ m4 (IntKind.i64.wrap (i + 1)) w2 < m4 i w1)) (
  Q true w1))

theorem C_l_eqIntS {Q : Bool → World → Prop} {a : Sl} {b : Sl} {w : World} (h : V_l_eqIntS Q a b w) : Calls Tryz.prog F.l_eqIntS #[a.v, b.v] w (Ret [.at .bool] Q) :=
  mkC (hint := hint) (ann := annOf [(4, ⟨[(5, .int .i64)], [4, 11, 12, 13, 14, 15, 16, 17, 18, 19, 20, 21, 22, 23, 24, 25]⟩)]) (args := [a.v, b.v]) (rs := [.at .bool]) Tryz.func15 (by kernel_rfl) (by kernel_rfl) h

def V_l_eqNetwork (Q : Bool → World → Prop) (a_0 : Sl) (a_1 : Sl) (a_2 : Sl) (b_0 : Sl) (b_1 : Sl) (b_2 : Sl) (w : World) : Prop :=
  NEW T.t_i_Network #[a_0.v, a_1.v, a_2.v] w fun (p_a : Addr) w1 =>
  NEW T.t_i_Network #[b_0.v, b_1.v, b_2.v] w1 fun (p_b : Addr) w2 =>
  LD [.sl] (p_a.add 0) w2 fun (x6 : Sl) =>
  LD [.sl] (p_b.add 0) w2 fun (x8 : Sl) =>
  Calls Tryz.prog F.l_eqEndSS #[x6.v, x8.v] w2 (Ret [.at .bool] fun (x9 : Bool) w3 =>
  cond (!x9) (
  Q false w3) (
  LD [.sl] (p_a.add 1) w3 fun (x12 : Sl) =>
  LD [.sl] (p_b.add 1) w3 fun (x14 : Sl) =>
  Calls Tryz.prog F.l_eqIntS #[x12.v, x14.v] w3 (Ret [.at .bool] fun (x15 : Bool) w4 =>
  cond (!x15) (
  Q false w4) (
  LD [.sl] (p_a.add 2) w4 fun (x18 : Sl) =>
  LD [.sl] (p_b.add 2) w4 fun (x20 : Sl) =>
  Calls Tryz.prog F.l_eqIntS #[x18.v, x20.v] w4 (Ret [.at .bool] fun (x21 : Bool) w5 =>
  cond (!x21) (
  Q false w5) (
  Q true w5))))))

theorem C_l_eqNetwork {Q : Bool → World → Prop} {a_0 : Sl} {a_1 : Sl} {a_2 : Sl} {b_0 : Sl} {b_1 : Sl} {b_2 : Sl} {w : World} (h : V_l_eqNetwork Q a_0 a_1 a_2 b_0 b_1 b_2 w) : Calls Tryz.prog F.l_eqNetwork #[.agg #[a_0.v, a_1.v, a_2.v], .agg #[b_0.v, b_1.v, b_2.v]] w (Ret [.at .bool] Q) :=
  mkC (hint := hint) (ann := annOf []) (args := [.agg #[a_0.v, a_1.v, a_2.v], .agg #[b_0.v, b_1.v, b_2.v]]) (rs := [.at .bool]) Tryz.func16 (by kernel_rfl) (by kernel_rfl) h

def V_l_markProblem (Q : Int → World → Prop) (a_0 : Int) (a_1 : Int) (a_2 : Sl) (a_3 : Sl) (k : Int) (w : World) : Prop :=
  NEW T.t_i_Problem #[.int .i64 a_0, .int .i64 a_1, a_2.v, a_3.v] w fun (p_a : Addr) w1 =>
  LD [.sl] (p_a.add 2) w1 fun (x6 : Sl) =>
  Calls Tryz.prog F.l_markIntSS #[x6.v, .int .i64 k] w1 (Ret [.at (.int .i64)] fun (x8 : Int) w2 =>
  LD [.sl] (p_a.add 3) w2 fun (x10 : Sl) =>
  Calls Tryz.prog F.l_markIntSS #[x10.v, .int .i64 x8] w2 (Ret [.at (.int .i64)] fun (x12 : Int) w3 =>
  Q x12 w3))

theorem C_l_markProblem {Q : Int → World → Prop} {a_0 : Int} {a_1 : Int} {a_2 : Sl} {a_3 : Sl} {k : Int} {w : World} (h : V_l_markProblem Q a_0 a_1 a_2 a_3 k w) : Calls Tryz.prog F.l_markProblem #[.agg #[.int .i64 a_0, .int .i64 a_1, a_2.v, a_3.v], .int .i64 k] w (Ret [.at (.int .i64)] Q) :=
  mkC (hint := hint) (ann := annOf []) (args := [.agg #[.int .i64 a_0, .int .i64 a_1, a_2.v, a_3.v], .int .i64 k]) (rs := [.at (.int .i64)]) Tryz.func17 (by kernel_rfl) (by kernel_rfl) h

def V_l_markIntS (Q : Int → World → Prop) (a : Sl) (k : Int) (w : World) : Prop :=
  ∃ (I2 : Int → Int → World → Prop) (m2 : Int → Int → World → Nat), I2 k 0 w ∧ ∀ (k_2 : Int) (i : Int) w1, I2 k_2 i w1 → ∀ _ _ _ _ _ _ _ _ _ _ _ _ : Value,
  cond (decide ((i : Int) < a.len)) (
  IX a i 1 fun (px15 : Addr) =>
  ST px15 0 [.int .i64 k_2] w1 fun w2 =>
  I2 (IntKind.i64.wrap (k_2 + 1)) (IntKind.i64.wrap (i + 1)) w2 ∧ m2 (IntKind.i64.wrap (k_2 + 1)) (IntKind.i64.wrap (i + 1)) w2 < m2 k_2 i w1) (
  Q k_2 w1)

theorem C_l_markIntS {Q : Int → World → Prop} {a : Sl} {k : Int} {w : World} (h : V_l_markIntS Q a k w) : Calls Tryz.prog F.l_markIntS #[a.v, .int .i64 k] w (Ret [.at (.int .i64)] Q) :=
  mkC (hint := hint) (ann := annOf [(2, ⟨[(1, .int .i64), (5, .int .i64)], [6, 7, 8, 9, 10, 11, 12, 13, 14, 15, 16, 17]⟩)]) (args := [a.v, .int .i64 k]) (rs := [.at (.int .i64)]) Tryz.func18 (by kernel_rfl) (by kernel_rfl) h

def V_l_markNetwork (Q : Int → World → Prop) (a_0 : Sl) (a_1 : Sl) (a_2 : Sl) (k : Int) (w : World) : Prop :=
  NEW T.t_i_Network #[a_0.v, a_1.v, a_2.v] w fun (p_a : Addr) w1 =>
  LD [.sl] (p_a.add 0) w1 fun (x6 : Sl) =>
  Calls Tryz.prog F.l_markEndSS #[x6.v, .int .i64 k] w1 (Ret [.at (.int .i64)] fun (x8 : Int) w2 =>
  LD [.sl] (p_a.add 1) w2 fun (x10 : Sl) =>
  Calls Tryz.prog F.l_markIntS #[x10.v, .int .i64 x8] w2 (Ret [.at (.int .i64)] fun (x12 : Int) w3 =>
  LD [.sl] (p_a.add 2) w3 fun (x14 : Sl) =>
  Calls Tryz.prog F.l_markIntS #[x14.v, .int .i64 x12] w3 (Ret [.at (.int .i64)] fun (x16 : Int) w4 =>
  Q x16 w4)))

theorem C_l_markNetwork {Q : Int → World → Prop} {a_0 : Sl} {a_1 : Sl} {a_2 : Sl} {k : Int} {w : World} (h : V_l_markNetwork Q a_0 a_1 a_2 k w) : Calls Tryz.prog F.l_markNetwork #[.agg #[a_0.v, a_1.v, a_2.v], .int .i64 k] w (Ret [.at (.int .i64)] Q) :=
  mkC (hint := hint) (ann := annOf []) (args := [.agg #[a_0.v, a_1.v, a_2.v], .int .i64 k]) (rs := [.at (.int .i64)]) Tryz.func19 (by kernel_rfl) (by kernel_rfl) h

def V_l_markIntSS (Q : Int → World → Prop) (a : Sl) (k : Int) (w : World) : Prop :=
  ∃ (I2 : Int → Int → World → Prop) (m2 : Int → Int → World → Nat), I2 k 0 w ∧ ∀ (k_2 : Int) (i : Int) w1, I2 k_2 i w1 → ∀ _ _ _ _ _ _ _ _ _ _ _ _ : Value,
  cond (decide ((i : Int) < a.len)) (
  IX a i 1 fun (px14 : Addr) =>
  LD [.sl] px14 w1 fun (x15 : Sl) =>
  Calls Tryz.prog F.l_markIntS #[x15.v, .int .i64 k_2] w1 (Ret [.at (.int .i64)] fun (x17 : Int) w2 =>
  I2 x17 (IntKind.i64.wrap (i + 1)) w2 ∧ m2 x17 (IntKind.i64.wrap (i + 1)) w2 < m2 k_2 i w1)) (
  Q k_2 w1)

theorem C_l_markIntSS {Q : Int → World → Prop} {a : Sl} {k : Int} {w : World} (h : V_l_markIntSS Q a k w) : Calls Tryz.prog F.l_markIntSS #[a.v, .int .i64 k] w (Ret [.at (.int .i64)] Q) :=
  mkC (hint := hint) (ann := annOf [(2, ⟨[(1, .int .i64), (5, .int .i64)], [6, 7, 8, 9, 10, 11, 12, 13, 14, 15, 16, 17]⟩)]) (args := [a.v, .int .i64 k]) (rs := [.at (.int .i64)]) Tryz.func20 (by kernel_rfl) (by kernel_rfl) h

def V_l_heldIntSS (Q : Int → World → Prop) (a : Sl) (k : Int) (w : World) : Prop :=
  ∃ (I2 : Int → Int → World → Prop) (m2 : Int → Int → World → Nat), I2 k 0 w ∧ ∀ (k_2 : Int) (i : Int) w1, I2 k_2 i w1 → ∀ _ _ _ _ _ _ _ _ _ _ _ _ _ _ _ : Value,
  cond (decide ((i : Int) < a.len)) (
  IX a i 1 fun (px14 : Addr) =>
  LD [.sl] px14 w1 fun (x15 : Sl) =>
  Calls Tryz.prog F.l_heldIntS #[x15.v, .int .i64 k_2] w1 (Ret [.at (.int .i64)] fun (x17 : Int) w2 =>
  cond (decide ((x17 : Int) < 0)) (
  Q (-1) w2) (
  I2 x17 (IntKind.i64.wrap (i + 1)) w2 ∧ m2 x17 (IntKind.i64.wrap (i + 1)) w2 < m2 k_2 i w1))) (
  Q k_2 w1)

theorem C_l_heldIntSS {Q : Int → World → Prop} {a : Sl} {k : Int} {w : World} (h : V_l_heldIntSS Q a k w) : Calls Tryz.prog F.l_heldIntSS #[a.v, .int .i64 k] w (Ret [.at (.int .i64)] Q) :=
  mkC (hint := hint) (ann := annOf [(2, ⟨[(1, .int .i64), (5, .int .i64)], [4, 6, 7, 8, 9, 10, 11, 12, 13, 14, 15, 16, 17, 18, 19]⟩)]) (args := [a.v, .int .i64 k]) (rs := [.at (.int .i64)]) Tryz.func21 (by kernel_rfl) (by kernel_rfl) h

def V_l_szEndSS (Q : Int → World → Prop) (a : Sl) (left : Int) (w : World) : Prop :=
  cond (decide (((IntKind.i64.wrap (left - a.len)) : Int) < 0)) (
  Q (-1) w) (
  ∃ (I5 : Int → Int → World → Prop) (m5 : Int → Int → World → Nat), I5 (IntKind.i64.wrap (left - a.len)) 0 w ∧ ∀ (left_2 : Int) (i : Int) w1, I5 left_2 i w1 → ∀ _ _ _ _ _ _ _ _ _ _ _ _ _ _ _ : Value,
  cond (decide ((i : Int) < a.len)) (
  IX a i 1 fun (px20 : Addr) =>
  LD [.sl] px20 w1 fun (x21 : Sl) =>
  Calls Tryz.prog F.l_szEndS #[x21.v, .int .i64 left_2] w1 (Ret [.at (.int .i64)] fun (x23 : Int) w2 =>
  cond (decide ((x23 : Int) < 0)) (
  Q (-1) w2) (
  I5 x23 (IntKind.i64.wrap (i + 1)) w2 ∧ m5 x23 (IntKind.i64.wrap (i + 1)) w2 < m5 left_2 i w1))) (
  Q left_2 w1))

theorem C_l_szEndSS {Q : Int → World → Prop} {a : Sl} {left : Int} {w : World} (h : V_l_szEndSS Q a left w) : Calls Tryz.prog F.l_szEndSS #[a.v, .int .i64 left] w (Ret [.at (.int .i64)] Q) :=
  mkC (hint := hint) (ann := annOf [(5, ⟨[(1, .int .i64), (5, .int .i64)], [4, 12, 13, 14, 15, 16, 17, 18, 19, 20, 21, 22, 23, 24, 25]⟩)]) (args := [a.v, .int .i64 left]) (rs := [.at (.int .i64)]) Tryz.func22 (by kernel_rfl) (by kernel_rfl) h

def V_l_szIntS (Q : Int → World → Prop) (a : Sl) (left : Int) (w : World) : Prop :=
  cond (decide (((IntKind.i64.wrap (left - a.len)) : Int) < 0)) (
  Q (-1) w) (
  Q (IntKind.i64.wrap (left - a.len)) w)

theorem C_l_szIntS {Q : Int → World → Prop} {a : Sl} {left : Int} {w : World} (h : V_l_szIntS Q a left w) : Calls Tryz.prog F.l_szIntS #[a.v, .int .i64 left] w (Ret [.at (.int .i64)] Q) :=
  mkC (hint := hint) (ann := annOf []) (args := [a.v, .int .i64 left]) (rs := [.at (.int .i64)]) Tryz.func23 (by kernel_rfl) (by kernel_rfl) h

def V_s_reTwo (Q : Bool → World → Prop) (p_0 : Int) (p_1 : Int) (p_2 : Sl) (p_3 : Sl) (q_0 : Int) (q_1 : Int) (q_2 : Sl) (q_3 : Sl) (w : World) : Prop :=
  NEW T.t_i_Problem #[.int .i64 p_0, .int .i64 p_1, p_2.v, p_3.v] w fun (p_p : Addr) w1 =>
  NEW T.t_i_Problem #[.int .i64 q_0, .int .i64 q_1, q_2.v, q_3.v] w1 fun (p_q : Addr) w2 =>
  LD [.int .i64, .int .i64, .sl, .sl] p_p w2 fun (x5_0 : Int) (x5_1 : Int) (x5_2 : Sl) (x5_3 : Sl) =>
  Calls Tryz.prog F.s_prGood #[.agg #[.int .i64 x5_0, .int .i64 x5_1, x5_2.v, x5_3.v]] w2 (Ret [.at .bool] fun (x6 : Bool) w3 =>
  cond x6 (
  LD [.int .i64, .int .i64, .sl, .sl] p_q w3 fun (x8_0 : Int) (x8_1 : Int) (x8_2 : Sl) (x8_3 : Sl) =>
  Calls Tryz.prog F.s_prGood #[.agg #[.int .i64 x8_0, .int .i64 x8_1, x8_2.v, x8_3.v]] w3 (Ret [.at .bool] fun (x9 : Bool) w4 =>
  cond x9 (
  LD [.int .i64] (p_p.add 1) w4 fun (x13 : Int) =>
  LD [.int .i64] (p_q.add 1) w4 fun (x15 : Int) =>
  Q ((x13 : Int) == x15) w4) (
  Q false w4))) (
  Q false w3))

theorem C_s_reTwo {Q : Bool → World → Prop} {p_0 : Int} {p_1 : Int} {p_2 : Sl} {p_3 : Sl} {q_0 : Int} {q_1 : Int} {q_2 : Sl} {q_3 : Sl} {w : World} (h : V_s_reTwo Q p_0 p_1 p_2 p_3 q_0 q_1 q_2 q_3 w) : Calls Tryz.prog F.s_reTwo #[.agg #[.int .i64 p_0, .int .i64 p_1, p_2.v, p_3.v], .agg #[.int .i64 q_0, .int .i64 q_1, q_2.v, q_3.v]] w (Ret [.at .bool] Q) :=
  mkC (hint := hint) (ann := annOf []) (args := [.agg #[.int .i64 p_0, .int .i64 p_1, p_2.v, p_3.v], .agg #[.int .i64 q_0, .int .i64 q_1, q_2.v, q_3.v]]) (rs := [.at .bool]) Tryz.func24 (by kernel_rfl) (by kernel_rfl) h

def V_s_reMap (Q : Bool → World → Prop) (p_0 : Int) (p_1 : Int) (p_2 : Sl) (p_3 : Sl) (q_0 : Int) (q_1 : Int) (q_2 : Sl) (q_3 : Sl) (f : Sl) (w : World) : Prop :=
  NEW T.t_i_Problem #[.int .i64 p_0, .int .i64 p_1, p_2.v, p_3.v] w fun (p_p : Addr) w1 =>
  NEW T.t_i_Problem #[.int .i64 q_0, .int .i64 q_1, q_2.v, q_3.v] w1 fun (p_q : Addr) w2 =>
  LD [.int .i64] (p_p.add 0) w2 fun (x10 : Int) =>
  cond ((f.len : Int) == x10) (
  LD [.int .i64] (p_q.add 0) w2 fun (x15 : Int) =>
  Calls Tryz.prog F.s_l1All #[f.v, .int .i64 0, .int .i64 (IntKind.i64.wrap (x15 - 1))] w2 (Ret [.at .bool] fun (x17 : Bool) w3 =>
  cond x17 (
  LD [.sl] (p_p.add 2) w3 fun (x21 : Sl) =>
  LD [.sl] (p_q.add 2) w3 fun (x23 : Sl) =>
  Calls Tryz.prog F.s_reInto #[x21.v, x23.v, f.v] w3 (Ret [.at .bool] fun (x25 : Bool) w4 =>
  cond x25 (
  LD [.sl] (p_p.add 3) w4 fun (x29 : Sl) =>
  LD [.sl] (p_q.add 3) w4 fun (x31 : Sl) =>
  Calls Tryz.prog F.s_reInto #[x29.v, x31.v, f.v] w4 (Ret [.at .bool] fun (x33 : Bool) w5 =>
  Q x33 w5)) (
  Q false w4))) (
  Q false w3))) (
  Q false w2)

theorem C_s_reMap {Q : Bool → World → Prop} {p_0 : Int} {p_1 : Int} {p_2 : Sl} {p_3 : Sl} {q_0 : Int} {q_1 : Int} {q_2 : Sl} {q_3 : Sl} {f : Sl} {w : World} (h : V_s_reMap Q p_0 p_1 p_2 p_3 q_0 q_1 q_2 q_3 f w) : Calls Tryz.prog F.s_reMap #[.agg #[.int .i64 p_0, .int .i64 p_1, p_2.v, p_3.v], .agg #[.int .i64 q_0, .int .i64 q_1, q_2.v, q_3.v], f.v] w (Ret [.at .bool] Q) :=
  mkC (hint := hint) (ann := annOf []) (args := [.agg #[.int .i64 p_0, .int .i64 p_1, p_2.v, p_3.v], .agg #[.int .i64 q_0, .int .i64 q_1, q_2.v, q_3.v], f.v]) (rs := [.at .bool]) Tryz.func25 (by kernel_rfl) (by kernel_rfl) h

def V_s_prAsked (Q : Bool → World → Prop) (p_0 : Int) (p_1 : Int) (p_2 : Sl) (p_3 : Sl) (n_0 : Sl) (n_1 : Sl) (n_2 : Sl) (l : Sl) (w : World) : Prop :=
  NEW T.t_i_Problem #[.int .i64 p_0, .int .i64 p_1, p_2.v, p_3.v] w fun (p_p : Addr) w1 =>
  NEW T.t_i_Network #[n_0.v, n_1.v, n_2.v] w1 fun (p_n : Addr) w2 =>
  LD [.int .i64, .int .i64, .sl, .sl] p_p w2 fun (x7_0 : Int) (x7_1 : Int) (x7_2 : Sl) (x7_3 : Sl) =>
  Calls Tryz.prog F.s_prGood #[.agg #[.int .i64 x7_0, .int .i64 x7_1, x7_2.v, x7_3.v]] w2 (Ret [.at .bool] fun (x8 : Bool) w3 =>
  cond x8 (
  LD [.sl, .sl, .sl] p_n w3 fun (x10_0 : Sl) (x10_1 : Sl) (x10_2 : Sl) =>
  Calls Tryz.prog F.s_neGood #[.agg #[x10_0.v, x10_1.v, x10_2.v]] w3 (Ret [.at .bool] fun (x11 : Bool) w4 =>
  cond x11 (
  LD [.int .i64, .int .i64, .sl, .sl] p_p w4 fun (x14_0 : Int) (x14_1 : Int) (x14_2 : Sl) (x14_3 : Sl) =>
  LD [.sl, .sl, .sl] p_n w4 fun (x15_0 : Sl) (x15_1 : Sl) (x15_2 : Sl) =>
  Calls Tryz.prog F.s_prShape #[.agg #[.int .i64 x14_0, .int .i64 x14_1, x14_2.v, x14_3.v], .agg #[x15_0.v, x15_1.v, x15_2.v], l.v] w4 (Ret [.at .bool] fun (x17 : Bool) w5 =>
  Q x17 w5)) (
  Q false w4))) (
  Q false w3))

theorem C_s_prAsked {Q : Bool → World → Prop} {p_0 : Int} {p_1 : Int} {p_2 : Sl} {p_3 : Sl} {n_0 : Sl} {n_1 : Sl} {n_2 : Sl} {l : Sl} {w : World} (h : V_s_prAsked Q p_0 p_1 p_2 p_3 n_0 n_1 n_2 l w) : Calls Tryz.prog F.s_prAsked #[.agg #[.int .i64 p_0, .int .i64 p_1, p_2.v, p_3.v], .agg #[n_0.v, n_1.v, n_2.v], l.v] w (Ret [.at .bool] Q) :=
  mkC (hint := hint) (ann := annOf []) (args := [.agg #[.int .i64 p_0, .int .i64 p_1, p_2.v, p_3.v], .agg #[n_0.v, n_1.v, n_2.v], l.v]) (rs := [.at .bool]) Tryz.func26 (by kernel_rfl) (by kernel_rfl) h

def V_s_reApply (Q : Sl → World → Prop) (f : Sl) (l : Sl) (w : World) : Prop :=
  ∃ (I3 : Sl → Int → World → Prop) (m3 : Sl → Int → World → Nat), I3 (⟨none, 0, 0⟩) 0 w ∧ ∀ (out : Sl) (x10 : Int) w1, I3 out x10 w1 → ∀ _ _ _ _ _ _ _ _ _ _ _ : Value,
  cond (decide ((x10 : Int) < l.len)) (
  IX l x10 1 fun (px12 : Addr) =>
  LD [.sl] px12 w1 fun (x13 : Sl) =>
  Calls Tryz.prog F.s_coThrough #[f.v, x13.v] w1 (Ret [.at .sl] fun (x17 : Sl) w2 =>
  RUN Tryz.prog (.at .sl) (Instr.buildSlice T.t_sl_sl_int 1 #[(0, x17.v)]) w2 fun (x18 : Sl) w3 =>
  RUN Tryz.prog (.at .sl) (bsem .append #[T.t_sl_sl_int, T.t_sl_sl_int] T.t_sl_sl_int #[out.v, x18.v]) w3 fun (x19 : Sl) w4 =>
  I3 x19 (IntKind.i64.wrap (x10 + 1)) w4 ∧ m3 x19 (IntKind.i64.wrap (x10 + 1)) w4 < m3 out x10 w1)) (
  Q out w1)

theorem C_s_reApply {Q : Sl → World → Prop} {f : Sl} {l : Sl} {w : World} (h : V_s_reApply Q f l w) : Calls Tryz.prog F.s_reApply #[f.v, l.v] w (Ret [.at .sl] Q) :=
  mkC (hint := hint) (ann := annOf [(3, ⟨[(5, .sl), (10, .int .i64)], [7, 11, 12, 13, 14, 15, 16, 17, 18, 19, 20]⟩)]) (args := [f.v, l.v]) (rs := [.at .sl]) Tryz.func27 (by kernel_rfl) (by kernel_rfl) h

def V_l_toEndSS (Q : Sl → World → Prop) (a : Sl) (w : World) : Prop :=
  RUN Tryz.prog (.at .sl) (Instr.makeSlice T.t_sl_sl_i_End (.int .i64 a.len) (.int .i64 a.len)) w fun (x7 : Sl) w1 =>
  ∃ (I3 : Int → World → Prop) (m3 : Int → World → Nat), I3 0 w1 ∧ ∀ (i : Int) w2, I3 i w2 → ∀ _ _ _ _ _ _ _ _ _ _ _ _ _ _ : Value,
  cond (decide ((i : Int) < a.len)) (
  IX a i 1 fun (px18 : Addr) =>
  LD [.sl] px18 w2 fun (x19 : Sl) =>
  Calls Tryz.prog F.l_toEndS #[x19.v] w2 (Ret [.at .sl] fun (x20 : Sl) w3 =>
  IX x7 i 1 fun (px21 : Addr) =>
  ST px21 0 [x20.v] w3 fun w4 =>
  I3 (IntKind.i64.wrap (i + 1)) w4 ∧ m3 (IntKind.i64.wrap (i + 1)) w4 < m3 i w2)) (
  Q x7 w2)

theorem C_l_toEndSS {Q : Sl → World → Prop} {a : Sl} {w : World} (h : V_l_toEndSS Q a w) : Calls Tryz.prog F.l_toEndSS #[a.v] w (Ret [.at .sl] Q) :=
  mkC (hint := hint) (ann := annOf [(3, ⟨[(4, .int .i64)], [8, 9, 10, 11, 12, 13, 14, 15, 16, 17, 18, 19, 20, 21]⟩)]) (args := [a.v]) (rs := [.at .sl]) Tryz.func28 (by kernel_rfl) (by kernel_rfl) h

def V_i_areProblems (Q : Bool → World → Prop) (p_0 : Int) (p_1 : Int) (p_2 : Sl) (p_3 : Sl) (q_0 : Int) (q_1 : Int) (q_2 : Sl) (q_3 : Sl) (w : World) : Prop :=
  NEW T.t_i_Problem #[.int .i64 p_0, .int .i64 p_1, p_2.v, p_3.v] w fun (p_p : Addr) w1 =>
  NEW T.t_i_Problem #[.int .i64 q_0, .int .i64 q_1, q_2.v, q_3.v] w1 fun (p_q : Addr) w2 =>
  LD [.int .i64, .int .i64, .sl, .sl] p_p w2 fun (x5_0 : Int) (x5_1 : Int) (x5_2 : Sl) (x5_3 : Sl) =>
  Calls Tryz.prog F.i_IsProblem #[.agg #[.int .i64 x5_0, .int .i64 x5_1, x5_2.v, x5_3.v]] w2 (Ret [.at .bool] fun (x6 : Bool) w3 =>
  cond x6 (
  LD [.int .i64, .int .i64, .sl, .sl] p_q w3 fun (x8_0 : Int) (x8_1 : Int) (x8_2 : Sl) (x8_3 : Sl) =>
  Calls Tryz.prog F.i_IsProblem #[.agg #[.int .i64 x8_0, .int .i64 x8_1, x8_2.v, x8_3.v]] w3 (Ret [.at .bool] fun (x9 : Bool) w4 =>
  cond x9 (
  LD [.int .i64] (p_p.add 1) w4 fun (x13 : Int) =>
  LD [.int .i64] (p_q.add 1) w4 fun (x15 : Int) =>
  Q ((x13 : Int) == x15) w4) (
  Q false w4))) (
  Q false w3))

theorem C_i_areProblems {Q : Bool → World → Prop} {p_0 : Int} {p_1 : Int} {p_2 : Sl} {p_3 : Sl} {q_0 : Int} {q_1 : Int} {q_2 : Sl} {q_3 : Sl} {w : World} (h : V_i_areProblems Q p_0 p_1 p_2 p_3 q_0 q_1 q_2 q_3 w) : Calls Tryz.prog F.i_areProblems #[.agg #[.int .i64 p_0, .int .i64 p_1, p_2.v, p_3.v], .agg #[.int .i64 q_0, .int .i64 q_1, q_2.v, q_3.v]] w (Ret [.at .bool] Q) :=
  mkC (hint := hint) (ann := annOf []) (args := [.agg #[.int .i64 p_0, .int .i64 p_1, p_2.v, p_3.v], .agg #[.int .i64 q_0, .int .i64 q_1, q_2.v, q_3.v]]) (rs := [.at .bool]) Tryz.func29 (by kernel_rfl) (by kernel_rfl) h

def V_i_isLabelMap_k1 (Q : Bool → World → Prop) (p_p : Addr) (p_q : Addr) (p_f : Addr) (w5 : World) : Prop :=
  LD [.sl] (p_p.add 2) w5 fun (x21 : Sl) =>
  ∃ (I4 : Int → World → Prop) (m4 : Int → World → Nat), I4 0 w5 ∧ ∀ (x23 : Int) w6, I4 x23 w6 → ∀ _ _ _ _ _ _ _ _ _ _ _ _ : Value,
  cond (decide ((x23 : Int) < x21.len)) (
  IX x21 x23 1 fun (px25 : Addr) =>
  LD [.sl] px25 w6 fun (x26 : Sl) =>
  ∀ w7, Ext w6 w7 → w7.heap = w6.heap →
  LD [.int .i64, .int .i64, .sl, .sl] p_q w7 fun (x27_0 : Int) (x27_1 : Int) (x27_2 : Sl) (x27_3 : Sl) =>
  LD [.sl] p_f w7 fun (x29 : Sl) =>
  Ext w7 w7 ∧ (
  Calls Tryz.prog F.i_images #[x26.v, x29.v] w7 (Ret [.at .sl] fun (x30 : Sl) w8 =>
  Ext w7 w8 ∧ (
  Calls Tryz.prog F.i_Problem_node #[.agg #[.int .i64 x27_0, .int .i64 x27_1, x27_2.v, x27_3.v], x30.v] w8 (Ret [.at .bool] fun (x31 : Bool) w9 =>
  Ext w7 w9 ∧ (
  Ext w7 w9 ∧ (
  cond (!x31) (
  Q false w9) (
  I4 (IntKind.i64.wrap (x23 + 1)) w9 ∧ m4 (IntKind.i64.wrap (x23 + 1)) w9 < m4 x23 w6)))))))) (
  LD [.sl] (p_p.add 3) w6 fun (x35 : Sl) =>
  Calls Tryz.prog F.slices_ContainsFunc_sl_sl_int_sl_int #[x35.v, .func (.func F.i_isLabelMap_1) #[] #[.pointer (some p_q), .pointer (some p_f)]] w6 (Ret [.at .bool] fun (x37 : Bool) w10 =>
  Q (!x37) w10))

def V_i_isLabelMap (Q : Bool → World → Prop) (p_0 : Int) (p_1 : Int) (p_2 : Sl) (p_3 : Sl) (q_0 : Int) (q_1 : Int) (q_2 : Sl) (q_3 : Sl) (f : Sl) (w : World) : Prop :=
  NEW T.t_i_Problem #[.int .i64 p_0, .int .i64 p_1, p_2.v, p_3.v] w fun (p_p : Addr) w1 =>
  NEW T.t_i_Problem #[.int .i64 q_0, .int .i64 q_1, q_2.v, q_3.v] w1 fun (p_q : Addr) w2 =>
  NEW T.t_sl_int #[f.v] w2 fun (p_f : Addr) w3 =>
  LD [.sl] p_f w3 fun (x9 : Sl) =>
  LD [.int .i64] (p_p.add 0) w3 fun (x12 : Int) =>
  cond ((x9.len : Int) != x12) (
  Q false w3) (
  LD [.int .i64, .int .i64, .sl, .sl] p_q w3 fun (x15_0 : Int) (x15_1 : Int) (x15_2 : Sl) (x15_3 : Sl) =>
  LD [.sl] p_f w3 fun (x16 : Sl) =>
  Calls Tryz.prog F.i_Problem_hasLabels #[.agg #[.int .i64 x15_0, .int .i64 x15_1, x15_2.v, x15_3.v], x16.v] w3 (Ret [.at .bool] fun (x17 : Bool) w4 =>
  cond (!x17) (
  Q false w4) (
  V_i_isLabelMap_k1 Q p_p p_q p_f w4)))

theorem C_i_isLabelMap {Q : Bool → World → Prop} {p_0 : Int} {p_1 : Int} {p_2 : Sl} {p_3 : Sl} {q_0 : Int} {q_1 : Int} {q_2 : Sl} {q_3 : Sl} {f : Sl} {w : World} (h : V_i_isLabelMap Q p_0 p_1 p_2 p_3 q_0 q_1 q_2 q_3 f w) : Calls Tryz.prog F.i_isLabelMap #[.agg #[.int .i64 p_0, .int .i64 p_1, p_2.v, p_3.v], .agg #[.int .i64 q_0, .int .i64 q_1, q_2.v, q_3.v], f.v] w (Ret [.at .bool] Q) :=
  mkC (hint := hint) (ann := annOf [(4, ⟨[(23, .int .i64)], [6, 8, 24, 25, 26, 27, 28, 29, 30, 31, 32, 33]⟩)]) (args := [.agg #[.int .i64 p_0, .int .i64 p_1, p_2.v, p_3.v], .agg #[.int .i64 q_0, .int .i64 q_1, q_2.v, q_3.v], f.v]) (rs := [.at .bool]) Tryz.func30 (by kernel_rfl) (by kernel_rfl) h

def V_i_IsNetwork_k1 (Q : Bool → World → Prop) (px1 : Addr) (w5 : World) : Prop :=
  LD [.sl] (px1.add 0) w5 fun (x31 : Sl) =>
  ∃ (I4 : Int → World → Prop) (m4 : Int → World → Nat), I4 0 w5 ∧ ∀ (x33 : Int) w6, I4 x33 w6 → ∀ _ _ _ _ _ _ _ _ _ _ _ _ _ _ _ _ _ _ _ _ _ _ _ _ _ _ _ _ _ _ _ _ _ _ _ _ _ _ _ _ _ _ _ _ : Value,
  cond (decide ((x33 : Int) < x31.len)) (
  IX x31 x33 1 fun (px36 : Addr) =>
  LD [.sl] px36 w6 fun (x37 : Sl) =>
  cond (decide ((x37.len : Int) > 6)) (
  Q false w6) (
  ∃ (I9 : Int → World → Prop) (m9 : Int → World → Nat), I9 0 w6 ∧ ∀ (x43 : Int) w7, I9 x43 w7 → ∀ _ _ _ _ _ _ _ _ _ _ _ _ _ _ _ _ _ _ _ _ _ _ _ _ _ _ _ _ _ _ _ : Value,
  cond (decide ((x43 : Int) < x37.len)) (
  IX x37 x43 2 fun (px46 : Addr) =>
  LD [.int .i64, .int .i64] px46 w7 fun (x47_0 : Int) (x47_1 : Int) =>
  NEW T.t_i_End #[.int .i64 0, .int .i64 0] w7 fun (px6 : Addr) w8 =>
  ST px6 0 [.int .i64 x47_0, .int .i64 x47_1] w8 fun w9 =>
  LD [.sl, .sl, .sl] px1 w9 fun (x48_0 : Sl) (x48_1 : Sl) (x48_2 : Sl) =>
  LD [.int .i64] (px6.add 0) w9 fun (x50 : Int) =>
  LD [.int .i64] (px6.add 1) w9 fun (x52 : Int) =>
  QCALL Tryz.prog F.i_Network_hasPort #[.agg #[x48_0.v, x48_1.v, x48_2.v], .int .i64 x50, .int .i64 x52] w9 [.at .bool] fun (x53 : Bool) =>
  cond (!x53) (
  ∀ w10, Ext w9 w10 →
  Q false w10) (
  LD [.sl] (px1.add 0) w9 fun (x57 : Sl) =>
  LD [.int .i64] (px6.add 0) w9 fun (x59 : Int) =>
  IX x57 x59 1 fun (px60 : Addr) =>
  LD [.sl] px60 w9 fun (x61 : Sl) =>
  LD [.int .i64] (px6.add 1) w9 fun (x63 : Int) =>
  IX x61 x63 2 fun (px64 : Addr) =>
  LD [.int .i64, .int .i64] px64 w9 fun (x65_0 : Int) (x65_1 : Int) =>
  AEQ Tryz.prog (do eqGuard .neq T.t_i_End (.tmp 65) (.tmp 68) (.agg #[.int .i64 x65_0, .int .i64 x65_1]) (.agg #[.int .i64 x33, .int .i64 x43]); binOp .neq T.t_i_End (.agg #[.int .i64 x65_0, .int .i64 x65_1]) (.agg #[.int .i64 x33, .int .i64 x43])) fun (x69 : Bool) =>
  ∀ w11, Ext w9 w11 →
  cond x69 (
  Q false w11) (
  I9 (IntKind.i64.wrap (x43 + 1)) w11 ∧ m9 (IntKind.i64.wrap (x43 + 1)) w11 < m9 x43 w7))) (
  I4 (IntKind.i64.wrap (x33 + 1)) w7 ∧ m4 (IntKind.i64.wrap (x33 + 1)) w7 < m4 x33 w6))) (
  Q true w6)

def V_i_IsNetwork (Q : Bool → World → Prop) (x0_0 : Sl) (x0_1 : Sl) (x0_2 : Sl) (w : World) : Prop :=
  NEW T.t_i_Network #[x0_0.v, x0_1.v, x0_2.v] w fun (px1 : Addr) w1 =>
  LD [.sl] (px1.add 0) w1 fun (x8 : Sl) =>
  Calls Tryz.prog F.i_within #[.int .i64 x8.len, .int .i64 1, .int .i64 40] w1 (Ret [.at .bool] fun (x10 : Bool) w2 =>
  cond (!x10) (
  Q false w2) (
  LD [.sl] (px1.add 1) w2 fun (x14 : Sl) =>
  LD [.sl] (px1.add 0) w2 fun (x16 : Sl) =>
  Calls Tryz.prog F.i_idsOk #[x14.v, .int .i64 x16.len] w2 (Ret [.at .bool] fun (x18 : Bool) w3 =>
  cond (!x18) (
  Q false w3) (
  LD [.sl] (px1.add 2) w3 fun (x23 : Sl) =>
  LD [.sl] (px1.add 0) w3 fun (x25 : Sl) =>
  Calls Tryz.prog F.i_inputsOk #[x23.v, .int .i64 x25.len] w3 (Ret [.at .bool] fun (x27 : Bool) w4 =>
  cond (!x27) (
  Q false w4) (
  V_i_IsNetwork_k1 Q px1 w4))))))

theorem C_i_IsNetwork {Q : Bool → World → Prop} {x0_0 : Sl} {x0_1 : Sl} {x0_2 : Sl} {w : World} (h : V_i_IsNetwork Q x0_0 x0_1 x0_2 w) : Calls Tryz.prog F.i_IsNetwork #[.agg #[x0_0.v, x0_1.v, x0_2.v]] w (Ret [.at .bool] Q) :=
  mkC (hint := hint) (ann := annOf [(4, ⟨[(33, .int .i64)], [2, 3, 4, 5, 6, 34, 35, 36, 37, 38, 39, 40, 41, 42, 43, 44, 45, 46, 47, 48, 49, 50, 51, 52, 53, 54, 55, 56, 57, 58, 59, 60, 61, 62, 63, 64, 65, 66, 67, 68, 69, 70, 71, 72]⟩), (9, ⟨[(43, .int .i64)], [2, 5, 6, 44, 45, 46, 47, 48, 49, 50, 51, 52, 53, 54, 55, 56, 57, 58, 59, 60, 61, 62, 63, 64, 65, 66, 67, 68, 69, 70, 71]⟩)]) (args := [.agg #[x0_0.v, x0_1.v, x0_2.v]]) (rs := [.at .bool]) Tryz.func31 (by kernel_rfl) (by kernel_rfl) h

def V_i_isLabeling (Q : Bool → World → Prop) (p_0 : Int) (p_1 : Int) (p_2 : Sl) (p_3 : Sl) (n_0 : Sl) (n_1 : Sl) (n_2 : Sl) (l : Sl) (w : World) : Prop :=
  NEW T.t_i_Problem #[.int .i64 p_0, .int .i64 p_1, p_2.v, p_3.v] w fun (p_p : Addr) w1 =>
  NEW T.t_i_Network #[n_0.v, n_1.v, n_2.v] w1 fun (p_n : Addr) w2 =>
  LD [.sl, .sl, .sl] p_n w2 fun (x7_0 : Sl) (x7_1 : Sl) (x7_2 : Sl) =>
  Calls Tryz.prog F.i_portsOk #[.agg #[x7_0.v, x7_1.v, x7_2.v], l.v] w2 (Ret [.at .bool] fun (x9 : Bool) w3 =>
  cond x9 (
  Calls Tryz.prog F.slices_ContainsFunc_sl_sl_int_sl_int #[l.v, .func (.func F.i_isLabeling_1) #[] #[.pointer (some p_p)]] w3 (Ret [.at .bool] fun (x13 : Bool) w4 =>
  Q (!x13) w4)) (
  Q false w3))

theorem C_i_isLabeling {Q : Bool → World → Prop} {p_0 : Int} {p_1 : Int} {p_2 : Sl} {p_3 : Sl} {n_0 : Sl} {n_1 : Sl} {n_2 : Sl} {l : Sl} {w : World} (h : V_i_isLabeling Q p_0 p_1 p_2 p_3 n_0 n_1 n_2 l w) : Calls Tryz.prog F.i_isLabeling #[.agg #[.int .i64 p_0, .int .i64 p_1, p_2.v, p_3.v], .agg #[n_0.v, n_1.v, n_2.v], l.v] w (Ret [.at .bool] Q) :=
  mkC (hint := hint) (ann := annOf []) (args := [.agg #[.int .i64 p_0, .int .i64 p_1, p_2.v, p_3.v], .agg #[n_0.v, n_1.v, n_2.v], l.v]) (rs := [.at .bool]) Tryz.func32 (by kernel_rfl) (by kernel_rfl) h

def V_i_images (Q : Sl → World → Prop) (labels : Sl) (f : Sl) (w : World) : Prop :=
  ∃ (I3 : Sl → Int → World → Prop) (m3 : Sl → Int → World → Nat), I3 (⟨none, 0, 0⟩) 0 w ∧ ∀ (out : Sl) (x10 : Int) w1, I3 out x10 w1 → ∀ _ _ _ _ _ _ _ _ _ _ _ _ : Value,
  cond (decide ((x10 : Int) < labels.len)) (
  IX labels x10 1 fun (px12 : Addr) =>
  LD [.int .i64] px12 w1 fun (x13 : Int) =>
  IX f x13 1 fun (px17 : Addr) =>
  LD [.int .i64] px17 w1 fun (x18 : Int) =>
  RUN Tryz.prog (.at .sl) (Instr.buildSlice T.t_sl_int 1 #[(0, .int .i64 x18)]) w1 fun (x19 : Sl) w2 =>
  RUN Tryz.prog (.at .sl) (bsem .append #[T.t_sl_int, T.t_sl_int] T.t_sl_int #[out.v, x19.v]) w2 fun (x20 : Sl) w3 =>
  I3 x20 (IntKind.i64.wrap (x10 + 1)) w3 ∧ m3 x20 (IntKind.i64.wrap (x10 + 1)) w3 < m3 out x10 w1) (
  Q out w1)

theorem C_i_images {Q : Sl → World → Prop} {labels : Sl} {f : Sl} {w : World} (h : V_i_images Q labels f w) : Calls Tryz.prog F.i_images #[labels.v, f.v] w (Ret [.at .sl] Q) :=
  mkC (hint := hint) (ann := annOf [(3, ⟨[(5, .sl), (10, .int .i64)], [7, 11, 12, 13, 14, 15, 16, 17, 18, 19, 20, 21]⟩)]) (args := [labels.v, f.v]) (rs := [.at .sl]) Tryz.func33 (by kernel_rfl) (by kernel_rfl) h

def V_l_eqEndSS (Q : Bool → World → Prop) (a : Sl) (b : Sl) (w : World) : Prop :=
  cond ((a.len : Int) != b.len) (
  Q false w) (
  ∃ (I4 : Int → World → Prop) (m4 : Int → World → Nat), I4 0 w ∧ ∀ (i : Int) w1, I4 i w1 → ∀ _ _ _ _ _ _ _ _ _ _ _ _ _ _ _ _ _ : Value,
  cond (decide ((i : Int) < a.len)) (
  IX a i 1 fun (px19 : Addr) =>
  LD [.sl] px19 w1 fun (x20 : Sl) =>
  IX b i 1 fun (px23 : Addr) =>
  LD [.sl] px23 w1 fun (x24 : Sl) =>
  QCALL Tryz.prog F.l_eqEndS #[x20.v, x24.v] w1 [.at .bool] fun (x25 : Bool) =>
  ∀ w2, Ext w1 w2 →
  cond (!x25) (
  Q false w2) (
  I4 (IntKind.i64.wrap (i + 1)) w2 ∧ m4 (IntKind.i64.wrap (i + 1)) w2 < m4 i w1)) (
  Q true w1))

theorem C_l_eqEndSS {Q : Bool → World → Prop} {a : Sl} {b : Sl} {w : World} (h : V_l_eqEndSS Q a b w) : Calls Tryz.prog F.l_eqEndSS #[a.v, b.v] w (Ret [.at .bool] Q) :=
  mkC (hint := hint) (ann := annOf [(4, ⟨[(5, .int .i64)], [4, 11, 12, 13, 14, 15, 16, 17, 18, 19, 20, 21, 22, 23, 24, 25, 26]⟩)]) (args := [a.v, b.v]) (rs := [.at .bool]) Tryz.func34 (by kernel_rfl) (by kernel_rfl) h

end Go.Proofs.YtjfodknpphhajaaGreat
