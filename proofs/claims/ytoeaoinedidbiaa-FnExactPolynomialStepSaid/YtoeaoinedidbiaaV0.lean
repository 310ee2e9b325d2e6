/- What each function's code computes to. Printed by a program. -/
import Derived.Test.YtoeaoinedidbiaaNames
namespace Go.Proofs.Ytoeaoinedidbiaa
open Go.GX Go.RowKit
set_option linter.unusedVariables false
set_option maxRecDepth 100000

def V_l_FnExactIsEdgeColouring_k3 (aL : Sl) (Q : Bool → World → Prop) (p_aN : Addr) (px0 : Addr) (x33 : Sl) (w12 : World) : Prop :=
  ∀ w13, Ext w12 w13 → w13.heap = w12.heap →
  LD [.sl, .sl, .sl] px0 w13 fun (x48_0 : Sl) (x48_1 : Sl) (x48_2 : Sl) =>
  LD [.sl, .sl, .sl] p_aN w13 fun (x49_0 : Sl) (x49_1 : Sl) (x49_2 : Sl) =>
  Ext w13 w13 ∧ (
  Calls Try.prog F.l_toNetwork #[.agg #[x49_0.v, x49_1.v, x49_2.v]] w13 (Ret [.agg [.sl, .sl, .sl]] fun (x50_0 : Sl) (x50_1 : Sl) (x50_2 : Sl) w14 =>
  Ext w13 w14 ∧ (
  Calls Try.prog F.l_eqNetwork #[.agg #[x48_0.v, x48_1.v, x48_2.v], .agg #[x50_0.v, x50_1.v, x50_2.v]] w14 (Ret [.at .bool] fun (x51 : Bool) w15 =>
  Ext w13 w15 ∧ (
  cond (!x51) (
  Q false w15) (
  Calls Try.prog F.l_toIntSS #[aL.v] w15 (Ret [.at .sl] fun (x55 : Sl) w16 =>
  Calls Try.prog F.l_eqIntSS #[x33.v, x55.v] w16 (Ret [.at .bool] fun (x56 : Bool) w17 =>
  cond (!x56) (
  Q false w17) (
  Q true w17)))))))))

def V_l_FnExactIsEdgeColouring (Q : Bool → World → Prop) (aN_0 : Sl) (aN_1 : Sl) (aN_2 : Sl) (aL : Sl) (w : World) : Prop :=
  NEW T.t_l_Network #[aN_0.v, aN_1.v, aN_2.v] w fun (p_aN : Addr) w1 =>
  LD [.sl, .sl, .sl] p_aN w1 fun (x12_0 : Sl) (x12_1 : Sl) (x12_2 : Sl) =>
  Calls Try.prog F.l_szNetwork #[.agg #[x12_0.v, x12_1.v, x12_2.v], .int .i64 1048576] w1 (Ret [.at (.int .i64)] fun (x14 : Int) w2 =>
  cond (decide ((x14 : Int) < 0)) (
  Q true w2) (
  Calls Try.prog F.l_szIntSS #[aL.v, .int .i64 x14] w2 (Ret [.at (.int .i64)] fun (x19 : Int) w3 =>
  cond (decide ((x19 : Int) < 0)) (
  Q true w3) (
  LD [.sl, .sl, .sl] p_aN w3 fun (x23_0 : Sl) (x23_1 : Sl) (x23_2 : Sl) =>
  Calls Try.prog F.l_toNetwork #[.agg #[x23_0.v, x23_1.v, x23_2.v]] w3 (Ret [.agg [.sl, .sl, .sl]] fun (x24_0 : Sl) (x24_1 : Sl) (x24_2 : Sl) w4 =>
  Calls Try.prog F.l_toIntSS #[aL.v] w4 (Ret [.at .sl] fun (x26 : Sl) w5 =>
  Calls Try.prog F.s_IsEdgeColouring #[.agg #[x24_0.v, x24_1.v, x24_2.v], x26.v] w5 (Ret [.at .bool, .at .bool] fun (x27_0 : Bool) (x27_1 : Bool) w6 =>
  LD [.sl, .sl, .sl] p_aN w6 fun (x30_0 : Sl) (x30_1 : Sl) (x30_2 : Sl) =>
  Calls Try.prog F.l_toNetwork #[.agg #[x30_0.v, x30_1.v, x30_2.v]] w6 (Ret [.agg [.sl, .sl, .sl]] fun (x31_0 : Sl) (x31_1 : Sl) (x31_2 : Sl) w7 =>
  NEW T.t_i_Network #[.slice none 0 0, .slice none 0 0, .slice none 0 0] w7 fun (px0 : Addr) w8 =>
  ST px0 0 [x31_0.v, x31_1.v, x31_2.v] w8 fun w9 =>
  Calls Try.prog F.l_toIntSS #[aL.v] w9 (Ret [.at .sl] fun (x33 : Sl) w10 =>
  LD [.sl, .sl, .sl] px0 w10 fun (x35_0 : Sl) (x35_1 : Sl) (x35_2 : Sl) =>
  Calls Try.prog F.i_IsEdgeColouring #[.agg #[x35_0.v, x35_1.v, x35_2.v], x33.v] w10 (Ret [.at .bool, .at .bool] fun (x37_0 : Bool) (x37_1 : Bool) w11 =>
  cond (!(x37_0 == x27_0)) (
  Q false w11) (
  cond (!(x37_1 == x27_1)) (
  Q false w11) (
  V_l_FnExactIsEdgeColouring_k3 aL Q p_aN px0 x33 w11))))))))))))

theorem C_l_FnExactIsEdgeColouring {Q : Bool → World → Prop} {aN_0 : Sl} {aN_1 : Sl} {aN_2 : Sl} {aL : Sl} {w : World} (h : V_l_FnExactIsEdgeColouring Q aN_0 aN_1 aN_2 aL w) : Calls Try.prog F.l_FnExactIsEdgeColouring #[.agg #[aN_0.v, aN_1.v, aN_2.v], aL.v] w (Ret [.at .bool] Q) :=
  mkC (hint := hint) (ann := annOf []) (args := [.agg #[aN_0.v, aN_1.v, aN_2.v], aL.v]) (rs := [.at .bool]) Try.func3 (by kernel_rfl) (by kernel_rfl) h

def V_l_FnExactIsDistanceColouring_k3 (aColours : Sl) (Q : Bool → World → Prop) (p_aN : Addr) (px0 : Addr) (x34 : Sl) (w11 : World) : Prop :=
  ∀ w12, Ext w11 w12 → w12.heap = w11.heap →
  LD [.sl, .sl, .sl] px0 w12 fun (x50_0 : Sl) (x50_1 : Sl) (x50_2 : Sl) =>
  LD [.sl, .sl, .sl] p_aN w12 fun (x51_0 : Sl) (x51_1 : Sl) (x51_2 : Sl) =>
  Ext w12 w12 ∧ (
  Calls Try.prog F.l_toNetwork #[.agg #[x51_0.v, x51_1.v, x51_2.v]] w12 (Ret [.agg [.sl, .sl, .sl]] fun (x52_0 : Sl) (x52_1 : Sl) (x52_2 : Sl) w13 =>
  Ext w12 w13 ∧ (
  Calls Try.prog F.l_eqNetwork #[.agg #[x50_0.v, x50_1.v, x50_2.v], .agg #[x52_0.v, x52_1.v, x52_2.v]] w13 (Ret [.at .bool] fun (x53 : Bool) w14 =>
  Ext w12 w14 ∧ (
  cond (!x53) (
  Q false w14) (
  Calls Try.prog F.l_toIntS #[aColours.v] w14 (Ret [.at .sl] fun (x57 : Sl) w15 =>
  Calls Try.prog F.l_eqIntS #[x34.v, x57.v] w15 (Ret [.at .bool] fun (x58 : Bool) w16 =>
  cond (!x58) (
  Q false w16) (
  Q true w16)))))))))

def V_l_FnExactIsDistanceColouring (Q : Bool → World → Prop) (aN_0 : Sl) (aN_1 : Sl) (aN_2 : Sl) (aColours : Sl) (aK : Int) (w : World) : Prop :=
  NEW T.t_l_Network #[aN_0.v, aN_1.v, aN_2.v] w fun (p_aN : Addr) w1 =>
  cond (decide ((aColours.len : Int) > 1048576)) (
  Q true w1) (
  LD [.sl, .sl, .sl] p_aN w1 fun (x17_0 : Sl) (x17_1 : Sl) (x17_2 : Sl) =>
  Calls Try.prog F.l_szNetwork #[.agg #[x17_0.v, x17_1.v, x17_2.v], .int .i64 1048576] w1 (Ret [.at (.int .i64)] fun (x19 : Int) w2 =>
  cond (decide ((x19 : Int) < 0)) (
  Q true w2) (
  LD [.sl, .sl, .sl] p_aN w2 fun (x23_0 : Sl) (x23_1 : Sl) (x23_2 : Sl) =>
  Calls Try.prog F.l_toNetwork #[.agg #[x23_0.v, x23_1.v, x23_2.v]] w2 (Ret [.agg [.sl, .sl, .sl]] fun (x24_0 : Sl) (x24_1 : Sl) (x24_2 : Sl) w3 =>
  Calls Try.prog F.l_toIntS #[aColours.v] w3 (Ret [.at .sl] fun (x26 : Sl) w4 =>
  Calls Try.prog F.s_IsDistanceColouring #[.agg #[x24_0.v, x24_1.v, x24_2.v], x26.v, .int .i64 aK] w4 (Ret [.at .bool, .at .bool] fun (x28_0 : Bool) (x28_1 : Bool) w5 =>
  LD [.sl, .sl, .sl] p_aN w5 fun (x31_0 : Sl) (x31_1 : Sl) (x31_2 : Sl) =>
  Calls Try.prog F.l_toNetwork #[.agg #[x31_0.v, x31_1.v, x31_2.v]] w5 (Ret [.agg [.sl, .sl, .sl]] fun (x32_0 : Sl) (x32_1 : Sl) (x32_2 : Sl) w6 =>
  NEW T.t_i_Network #[.slice none 0 0, .slice none 0 0, .slice none 0 0] w6 fun (px0 : Addr) w7 =>
  ST px0 0 [x32_0.v, x32_1.v, x32_2.v] w7 fun w8 =>
  Calls Try.prog F.l_toIntS #[aColours.v] w8 (Ret [.at .sl] fun (x34 : Sl) w9 =>
  LD [.sl, .sl, .sl] px0 w9 fun (x36_0 : Sl) (x36_1 : Sl) (x36_2 : Sl) =>
  Calls Try.prog F.i_IsDistanceColouring #[.agg #[x36_0.v, x36_1.v, x36_2.v], x34.v, .int .i64 aK] w9 (Ret [.at .bool, .at .bool] fun (x39_0 : Bool) (x39_1 : Bool) w10 =>
  cond (!(x39_0 == x28_0)) (
  Q false w10) (
  cond (!(x39_1 == x28_1)) (
  Q false w10) (
  V_l_FnExactIsDistanceColouring_k3 aColours Q p_aN px0 x34 w10)))))))))))

theorem C_l_FnExactIsDistanceColouring {Q : Bool → World → Prop} {aN_0 : Sl} {aN_1 : Sl} {aN_2 : Sl} {aColours : Sl} {aK : Int} {w : World} (h : V_l_FnExactIsDistanceColouring Q aN_0 aN_1 aN_2 aColours aK w) : Calls Try.prog F.l_FnExactIsDistanceColouring #[.agg #[aN_0.v, aN_1.v, aN_2.v], aColours.v, .int .i64 aK] w (Ret [.at .bool] Q) :=
  mkC (hint := hint) (ann := annOf []) (args := [.agg #[aN_0.v, aN_1.v, aN_2.v], aColours.v, .int .i64 aK]) (rs := [.at .bool]) Try.func4 (by kernel_rfl) (by kernel_rfl) h

def V_l_FnExactLeastCover_k5 (Q : Bool → World → Prop) (px1 : Addr) (x22_0 : Sl) (x22_1 : Bool) (x29_0 : Sl) (w16 : World) : Prop :=
  Calls Try.prog F.l_markIntS #[x29_0.v, .int .i64 1] w16 (Ret [.at (.int .i64)] fun (x64 : Int) w17 =>
  Calls Try.prog F.l_heldIntS #[x29_0.v, .int .i64 1] w17 (Ret [.at (.int .i64)] fun (x67 : Int) w18 =>
  cond (decide ((x67 : Int) < 0)) (
  Q false w18) (
  cond ((x67 : Int) != x64) (
  Q false w18) (
  LD [.sl, .sl, .sl] px1 w18 fun (x74_0 : Sl) (x74_1 : Sl) (x74_2 : Sl) =>
  Calls Try.prog F.l_toNetwork #[.agg #[x74_0.v, x74_1.v, x74_2.v]] w18 (Ret [.agg [.sl, .sl, .sl]] fun (x75_0 : Sl) (x75_1 : Sl) (x75_2 : Sl) w19 =>
  Calls Try.prog F.i_LeastCover #[.agg #[x75_0.v, x75_1.v, x75_2.v]] w19 (Ret [.at .sl, .at .bool] fun (x76_0 : Sl) (x76_1 : Bool) w20 =>
  Calls Try.prog F.l_eqIntS #[x76_0.v, x22_0.v] w20 (Ret [.at .bool] fun (x81 : Bool) w21 =>
  cond (!x81) (
  Q false w21) (
  cond (!(x76_1 == x22_1)) (
  Q false w21) (
  Calls Try.prog F.l_heldIntS #[x29_0.v, .int .i64 1] w21 (Ret [.at (.int .i64)] fun (x90_2 : Int) w23 =>
  cond (decide ((x90_2 : Int) < 0)) (
  Q false w23) (
  cond ((x90_2 : Int) != x64) (
  Q false w23) (
  Q true w23))))))))))))

def V_l_FnExactLeastCover_k2 (Q : Bool → World → Prop) (px1 : Addr) (x22_0 : Sl) (x22_1 : Bool) (px6 : Addr) (x29_0 : Sl) (x29_1 : Bool) (w10 : World) : Prop :=
  ∀ w11, Ext w10 w11 → w11.heap = w10.heap →
  LD [.sl, .sl, .sl] px6 w11 fun (x41_0 : Sl) (x41_1 : Sl) (x41_2 : Sl) =>
  LD [.sl, .sl, .sl] px1 w11 fun (x42_0 : Sl) (x42_1 : Sl) (x42_2 : Sl) =>
  Ext w11 w11 ∧ (
  Calls Try.prog F.l_toNetwork #[.agg #[x42_0.v, x42_1.v, x42_2.v]] w11 (Ret [.agg [.sl, .sl, .sl]] fun (x43_0 : Sl) (x43_1 : Sl) (x43_2 : Sl) w12 =>
  Ext w11 w12 ∧ (
  Calls Try.prog F.l_eqNetwork #[.agg #[x41_0.v, x41_1.v, x41_2.v], .agg #[x43_0.v, x43_1.v, x43_2.v]] w12 (Ret [.at .bool] fun (x44 : Bool) w13 =>
  Ext w11 w13 ∧ (
  cond (!x44) (
  Q false w13) (
  LD [.sl, .sl, .sl] px6 w13 fun (x46_0 : Sl) (x46_1 : Sl) (x46_2 : Sl) =>
  Calls Try.prog F.l_markNetwork #[.agg #[x46_0.v, x46_1.v, x46_2.v], .int .i64 1] w13 (Ret [.at (.int .i64)] fun (x48 : Int) w14 =>
  cond (decide ((x48 : Int) < 0)) (
  Q false w14) (
  Calls Try.prog F.l_eqIntS #[x29_0.v, x22_0.v] w14 (Ret [.at .bool] fun (x54 : Bool) w15 =>
  cond (!x54) (
  Q false w15) (
  cond (!(x29_1 == x22_1)) (
  Q false w15) (
  V_l_FnExactLeastCover_k5 Q px1 x22_0 x22_1 x29_0 w15)))))))))))

def V_l_FnExactLeastCover (Q : Bool → World → Prop) (x0_0 : Sl) (x0_1 : Sl) (x0_2 : Sl) (w : World) : Prop :=
  NEW T.t_l_Network #[x0_0.v, x0_1.v, x0_2.v] w fun (px1 : Addr) w1 =>
  LD [.sl, .sl, .sl] px1 w1 fun (x14_0 : Sl) (x14_1 : Sl) (x14_2 : Sl) =>
  Calls Try.prog F.l_szNetwork #[.agg #[x14_0.v, x14_1.v, x14_2.v], .int .i64 1048576] w1 (Ret [.at (.int .i64)] fun (x16 : Int) w2 =>
  cond (decide ((x16 : Int) < 0)) (
  Q true w2) (
  LD [.sl, .sl, .sl] px1 w2 fun (x20_0 : Sl) (x20_1 : Sl) (x20_2 : Sl) =>
  Calls Try.prog F.l_toNetwork #[.agg #[x20_0.v, x20_1.v, x20_2.v]] w2 (Ret [.agg [.sl, .sl, .sl]] fun (x21_0 : Sl) (x21_1 : Sl) (x21_2 : Sl) w3 =>
  Calls Try.prog F.s_LeastCover #[.agg #[x21_0.v, x21_1.v, x21_2.v]] w3 (Ret [.at .sl, .at .bool] fun (x22_0 : Sl) (x22_1 : Bool) w4 =>
  LD [.sl, .sl, .sl] px1 w4 fun (x25_0 : Sl) (x25_1 : Sl) (x25_2 : Sl) =>
  Calls Try.prog F.l_toNetwork #[.agg #[x25_0.v, x25_1.v, x25_2.v]] w4 (Ret [.agg [.sl, .sl, .sl]] fun (x26_0 : Sl) (x26_1 : Sl) (x26_2 : Sl) w5 =>
  NEW T.t_i_Network #[.slice none 0 0, .slice none 0 0, .slice none 0 0] w5 fun (px6 : Addr) w6 =>
  ST px6 0 [x26_0.v, x26_1.v, x26_2.v] w6 fun w7 =>
  LD [.sl, .sl, .sl] px6 w7 fun (x28_0 : Sl) (x28_1 : Sl) (x28_2 : Sl) =>
  Calls Try.prog F.i_LeastCover #[.agg #[x28_0.v, x28_1.v, x28_2.v]] w7 (Ret [.at .sl, .at .bool] fun (x29_0 : Sl) (x29_1 : Bool) w8 =>
  Calls Try.prog F.l_eqIntS #[x29_0.v, x22_0.v] w8 (Ret [.at .bool] fun (x34 : Bool) w9 =>
  cond (!x34) (
  Q false w9) (
  cond (!(x29_1 == x22_1)) (
  Q false w9) (
  V_l_FnExactLeastCover_k2 Q px1 x22_0 x22_1 px6 x29_0 x29_1 w9)))))))))

theorem C_l_FnExactLeastCover {Q : Bool → World → Prop} {x0_0 : Sl} {x0_1 : Sl} {x0_2 : Sl} {w : World} (h : V_l_FnExactLeastCover Q x0_0 x0_1 x0_2 w) : Calls Try.prog F.l_FnExactLeastCover #[.agg #[x0_0.v, x0_1.v, x0_2.v]] w (Ret [.at .bool] Q) :=
  mkC (hint := hint) (ann := annOf []) (args := [.agg #[x0_0.v, x0_1.v, x0_2.v]]) (rs := [.at .bool]) Try.func5 (by kernel_rfl) (by kernel_rfl) h

def V_l_FnExactGreedyEdgeColouring_k5 (Q : Bool → World → Prop) (px1 : Addr) (x22_0 : Sl) (x22_1 : Bool) (x29_0 : Sl) (w16 : World) : Prop :=
  Calls Try.prog F.l_markIntSS #[x29_0.v, .int .i64 1] w16 (Ret [.at (.int .i64)] fun (x64 : Int) w17 =>
  Calls Try.prog F.l_heldIntSS #[x29_0.v, .int .i64 1] w17 (Ret [.at (.int .i64)] fun (x67 : Int) w18 =>
  cond (decide ((x67 : Int) < 0)) (
  Q false w18) (
  cond ((x67 : Int) != x64) (
  Q false w18) (
  LD [.sl, .sl, .sl] px1 w18 fun (x74_0 : Sl) (x74_1 : Sl) (x74_2 : Sl) =>
  Calls Try.prog F.l_toNetwork #[.agg #[x74_0.v, x74_1.v, x74_2.v]] w18 (Ret [.agg [.sl, .sl, .sl]] fun (x75_0 : Sl) (x75_1 : Sl) (x75_2 : Sl) w19 =>
  Calls Try.prog F.i_GreedyEdgeColouring #[.agg #[x75_0.v, x75_1.v, x75_2.v]] w19 (Ret [.at .sl, .at .bool] fun (x76_0 : Sl) (x76_1 : Bool) w20 =>
  Calls Try.prog F.l_eqIntSS #[x76_0.v, x22_0.v] w20 (Ret [.at .bool] fun (x81 : Bool) w21 =>
  cond (!x81) (
  Q false w21) (
  cond (!(x76_1 == x22_1)) (
  Q false w21) (
  Calls Try.prog F.l_heldIntSS #[x29_0.v, .int .i64 1] w21 (Ret [.at (.int .i64)] fun (x90_2 : Int) w23 =>
  cond (decide ((x90_2 : Int) < 0)) (
  Q false w23) (
  cond ((x90_2 : Int) != x64) (
  Q false w23) (
  Q true w23))))))))))))

def V_l_FnExactGreedyEdgeColouring_k2 (Q : Bool → World → Prop) (px1 : Addr) (x22_0 : Sl) (x22_1 : Bool) (px6 : Addr) (x29_0 : Sl) (x29_1 : Bool) (w10 : World) : Prop :=
  ∀ w11, Ext w10 w11 → w11.heap = w10.heap →
  LD [.sl, .sl, .sl] px6 w11 fun (x41_0 : Sl) (x41_1 : Sl) (x41_2 : Sl) =>
  LD [.sl, .sl, .sl] px1 w11 fun (x42_0 : Sl) (x42_1 : Sl) (x42_2 : Sl) =>
  Ext w11 w11 ∧ (
  Calls Try.prog F.l_toNetwork #[.agg #[x42_0.v, x42_1.v, x42_2.v]] w11 (Ret [.agg [.sl, .sl, .sl]] fun (x43_0 : Sl) (x43_1 : Sl) (x43_2 : Sl) w12 =>
  Ext w11 w12 ∧ (
  Calls Try.prog F.l_eqNetwork #[.agg #[x41_0.v, x41_1.v, x41_2.v], .agg #[x43_0.v, x43_1.v, x43_2.v]] w12 (Ret [.at .bool] fun (x44 : Bool) w13 =>
  Ext w11 w13 ∧ (
  cond (!x44) (
  Q false w13) (
  LD [.sl, .sl, .sl] px6 w13 fun (x46_0 : Sl) (x46_1 : Sl) (x46_2 : Sl) =>
  Calls Try.prog F.l_markNetwork #[.agg #[x46_0.v, x46_1.v, x46_2.v], .int .i64 1] w13 (Ret [.at (.int .i64)] fun (x48 : Int) w14 =>
  cond (decide ((x48 : Int) < 0)) (
  Q false w14) (
  Calls Try.prog F.l_eqIntSS #[x29_0.v, x22_0.v] w14 (Ret [.at .bool] fun (x54 : Bool) w15 =>
  cond (!x54) (
  Q false w15) (
  cond (!(x29_1 == x22_1)) (
  Q false w15) (
  V_l_FnExactGreedyEdgeColouring_k5 Q px1 x22_0 x22_1 x29_0 w15)))))))))))

def V_l_FnExactGreedyEdgeColouring (Q : Bool → World → Prop) (x0_0 : Sl) (x0_1 : Sl) (x0_2 : Sl) (w : World) : Prop :=
  NEW T.t_l_Network #[x0_0.v, x0_1.v, x0_2.v] w fun (px1 : Addr) w1 =>
  LD [.sl, .sl, .sl] px1 w1 fun (x14_0 : Sl) (x14_1 : Sl) (x14_2 : Sl) =>
  Calls Try.prog F.l_szNetwork #[.agg #[x14_0.v, x14_1.v, x14_2.v], .int .i64 1048576] w1 (Ret [.at (.int .i64)] fun (x16 : Int) w2 =>
  cond (decide ((x16 : Int) < 0)) (
  Q true w2) (
  LD [.sl, .sl, .sl] px1 w2 fun (x20_0 : Sl) (x20_1 : Sl) (x20_2 : Sl) =>
  Calls Try.prog F.l_toNetwork #[.agg #[x20_0.v, x20_1.v, x20_2.v]] w2 (Ret [.agg [.sl, .sl, .sl]] fun (x21_0 : Sl) (x21_1 : Sl) (x21_2 : Sl) w3 =>
  Calls Try.prog F.s_GreedyEdgeColouring #[.agg #[x21_0.v, x21_1.v, x21_2.v]] w3 (Ret [.at .sl, .at .bool] fun (x22_0 : Sl) (x22_1 : Bool) w4 =>
  LD [.sl, .sl, .sl] px1 w4 fun (x25_0 : Sl) (x25_1 : Sl) (x25_2 : Sl) =>
  Calls Try.prog F.l_toNetwork #[.agg #[x25_0.v, x25_1.v, x25_2.v]] w4 (Ret [.agg [.sl, .sl, .sl]] fun (x26_0 : Sl) (x26_1 : Sl) (x26_2 : Sl) w5 =>
  NEW T.t_i_Network #[.slice none 0 0, .slice none 0 0, .slice none 0 0] w5 fun (px6 : Addr) w6 =>
  ST px6 0 [x26_0.v, x26_1.v, x26_2.v] w6 fun w7 =>
  LD [.sl, .sl, .sl] px6 w7 fun (x28_0 : Sl) (x28_1 : Sl) (x28_2 : Sl) =>
  Calls Try.prog F.i_GreedyEdgeColouring #[.agg #[x28_0.v, x28_1.v, x28_2.v]] w7 (Ret [.at .sl, .at .bool] fun (x29_0 : Sl) (x29_1 : Bool) w8 =>
  Calls Try.prog F.l_eqIntSS #[x29_0.v, x22_0.v] w8 (Ret [.at .bool] fun (x34 : Bool) w9 =>
  cond (!x34) (
  Q false w9) (
  cond (!(x29_1 == x22_1)) (
  Q false w9) (
  V_l_FnExactGreedyEdgeColouring_k2 Q px1 x22_0 x22_1 px6 x29_0 x29_1 w9)))))))))

theorem C_l_FnExactGreedyEdgeColouring {Q : Bool → World → Prop} {x0_0 : Sl} {x0_1 : Sl} {x0_2 : Sl} {w : World} (h : V_l_FnExactGreedyEdgeColouring Q x0_0 x0_1 x0_2 w) : Calls Try.prog F.l_FnExactGreedyEdgeColouring #[.agg #[x0_0.v, x0_1.v, x0_2.v]] w (Ret [.at .bool] Q) :=
  mkC (hint := hint) (ann := annOf []) (args := [.agg #[x0_0.v, x0_1.v, x0_2.v]]) (rs := [.at .bool]) Try.func6 (by kernel_rfl) (by kernel_rfl) h

def V_l_FnExactCoverByProposals_k5 (Q : Bool → World → Prop) (px1 : Addr) (x22_0 : Sl) (x22_1 : Bool) (x29_0 : Sl) (w16 : World) : Prop :=
  Calls Try.prog F.l_markIntS #[x29_0.v, .int .i64 1] w16 (Ret [.at (.int .i64)] fun (x64 : Int) w17 =>
  Calls Try.prog F.l_heldIntS #[x29_0.v, .int .i64 1] w17 (Ret [.at (.int .i64)] fun (x67 : Int) w18 =>
  cond (decide ((x67 : Int) < 0)) (
  Q false w18) (
  cond ((x67 : Int) != x64) (
  Q false w18) (
  LD [.sl, .sl, .sl] px1 w18 fun (x74_0 : Sl) (x74_1 : Sl) (x74_2 : Sl) =>
  Calls Try.prog F.l_toNetwork #[.agg #[x74_0.v, x74_1.v, x74_2.v]] w18 (Ret [.agg [.sl, .sl, .sl]] fun (x75_0 : Sl) (x75_1 : Sl) (x75_2 : Sl) w19 =>
  Calls Try.prog F.i_CoverByProposals #[.agg #[x75_0.v, x75_1.v, x75_2.v]] w19 (Ret [.at .sl, .at .bool] fun (x76_0 : Sl) (x76_1 : Bool) w20 =>
  Calls Try.prog F.l_eqIntS #[x76_0.v, x22_0.v] w20 (Ret [.at .bool] fun (x81 : Bool) w21 =>
  cond (!x81) (
  Q false w21) (
  cond (!(x76_1 == x22_1)) (
  Q false w21) (
  Calls Try.prog F.l_heldIntS #[x29_0.v, .int .i64 1] w21 (Ret [.at (.int .i64)] fun (x90_2 : Int) w23 =>
  cond (decide ((x90_2 : Int) < 0)) (
  Q false w23) (
  cond ((x90_2 : Int) != x64) (
  Q false w23) (
  Q true w23))))))))))))

def V_l_FnExactCoverByProposals_k2 (Q : Bool → World → Prop) (px1 : Addr) (x22_0 : Sl) (x22_1 : Bool) (px6 : Addr) (x29_0 : Sl) (x29_1 : Bool) (w10 : World) : Prop :=
  ∀ w11, Ext w10 w11 → w11.heap = w10.heap →
  LD [.sl, .sl, .sl] px6 w11 fun (x41_0 : Sl) (x41_1 : Sl) (x41_2 : Sl) =>
  LD [.sl, .sl, .sl] px1 w11 fun (x42_0 : Sl) (x42_1 : Sl) (x42_2 : Sl) =>
  Ext w11 w11 ∧ (
  Calls Try.prog F.l_toNetwork #[.agg #[x42_0.v, x42_1.v, x42_2.v]] w11 (Ret [.agg [.sl, .sl, .sl]] fun (x43_0 : Sl) (x43_1 : Sl) (x43_2 : Sl) w12 =>
  Ext w11 w12 ∧ (
  Calls Try.prog F.l_eqNetwork #[.agg #[x41_0.v, x41_1.v, x41_2.v], .agg #[x43_0.v, x43_1.v, x43_2.v]] w12 (Ret [.at .bool] fun (x44 : Bool) w13 =>
  Ext w11 w13 ∧ (
  cond (!x44) (
  Q false w13) (
  LD [.sl, .sl, .sl] px6 w13 fun (x46_0 : Sl) (x46_1 : Sl) (x46_2 : Sl) =>
  Calls Try.prog F.l_markNetwork #[.agg #[x46_0.v, x46_1.v, x46_2.v], .int .i64 1] w13 (Ret [.at (.int .i64)] fun (x48 : Int) w14 =>
  cond (decide ((x48 : Int) < 0)) (
  Q false w14) (
  Calls Try.prog F.l_eqIntS #[x29_0.v, x22_0.v] w14 (Ret [.at .bool] fun (x54 : Bool) w15 =>
  cond (!x54) (
  Q false w15) (
  cond (!(x29_1 == x22_1)) (
  Q false w15) (
  V_l_FnExactCoverByProposals_k5 Q px1 x22_0 x22_1 x29_0 w15)))))))))))

def V_l_FnExactCoverByProposals (Q : Bool → World → Prop) (x0_0 : Sl) (x0_1 : Sl) (x0_2 : Sl) (w : World) : Prop :=
  NEW T.t_l_Network #[x0_0.v, x0_1.v, x0_2.v] w fun (px1 : Addr) w1 =>
  LD [.sl, .sl, .sl] px1 w1 fun (x14_0 : Sl) (x14_1 : Sl) (x14_2 : Sl) =>
  Calls Try.prog F.l_szNetwork #[.agg #[x14_0.v, x14_1.v, x14_2.v], .int .i64 1048576] w1 (Ret [.at (.int .i64)] fun (x16 : Int) w2 =>
  cond (decide ((x16 : Int) < 0)) (
  Q true w2) (
  LD [.sl, .sl, .sl] px1 w2 fun (x20_0 : Sl) (x20_1 : Sl) (x20_2 : Sl) =>
  Calls Try.prog F.l_toNetwork #[.agg #[x20_0.v, x20_1.v, x20_2.v]] w2 (Ret [.agg [.sl, .sl, .sl]] fun (x21_0 : Sl) (x21_1 : Sl) (x21_2 : Sl) w3 =>
  Calls Try.prog F.s_CoverByProposals #[.agg #[x21_0.v, x21_1.v, x21_2.v]] w3 (Ret [.at .sl, .at .bool] fun (x22_0 : Sl) (x22_1 : Bool) w4 =>
  LD [.sl, .sl, .sl] px1 w4 fun (x25_0 : Sl) (x25_1 : Sl) (x25_2 : Sl) =>
  Calls Try.prog F.l_toNetwork #[.agg #[x25_0.v, x25_1.v, x25_2.v]] w4 (Ret [.agg [.sl, .sl, .sl]] fun (x26_0 : Sl) (x26_1 : Sl) (x26_2 : Sl) w5 =>
  NEW T.t_i_Network #[.slice none 0 0, .slice none 0 0, .slice none 0 0] w5 fun (px6 : Addr) w6 =>
  ST px6 0 [x26_0.v, x26_1.v, x26_2.v] w6 fun w7 =>
  LD [.sl, .sl, .sl] px6 w7 fun (x28_0 : Sl) (x28_1 : Sl) (x28_2 : Sl) =>
  Calls Try.prog F.i_CoverByProposals #[.agg #[x28_0.v, x28_1.v, x28_2.v]] w7 (Ret [.at .sl, .at .bool] fun (x29_0 : Sl) (x29_1 : Bool) w8 =>
  Calls Try.prog F.l_eqIntS #[x29_0.v, x22_0.v] w8 (Ret [.at .bool] fun (x34 : Bool) w9 =>
  cond (!x34) (
  Q false w9) (
  cond (!(x29_1 == x22_1)) (
  Q false w9) (
  V_l_FnExactCoverByProposals_k2 Q px1 x22_0 x22_1 px6 x29_0 x29_1 w9)))))))))

theorem C_l_FnExactCoverByProposals {Q : Bool → World → Prop} {x0_0 : Sl} {x0_1 : Sl} {x0_2 : Sl} {w : World} (h : V_l_FnExactCoverByProposals Q x0_0 x0_1 x0_2 w) : Calls Try.prog F.l_FnExactCoverByProposals #[.agg #[x0_0.v, x0_1.v, x0_2.v]] w (Ret [.at .bool] Q) :=
  mkC (hint := hint) (ann := annOf []) (args := [.agg #[x0_0.v, x0_1.v, x0_2.v]]) (rs := [.at .bool]) Try.func7 (by kernel_rfl) (by kernel_rfl) h

def V_l_FnExactPolynomialStep_k7 (x1 : Sl) (x2 : Int) (x3 : Int) (Q : Bool → World → Prop) (px4 : Addr) (x39_0 : Sl) (x39_1 : Int) (x39_2 : Bool) (x52_0 : Sl) (w21 : World) : Prop :=
  Calls Try.prog F.l_markIntS #[x52_0.v, .int .i64 1] w21 (Ret [.at (.int .i64)] fun (x106 : Int) w22 =>
  Calls Try.prog F.l_heldIntS #[x52_0.v, .int .i64 1] w22 (Ret [.at (.int .i64)] fun (x109 : Int) w23 =>
  cond (decide ((x109 : Int) < 0)) (
  Q false w23) (
  cond ((x109 : Int) != x106) (
  Q false w23) (
  LD [.sl, .sl, .sl] px4 w23 fun (x116_0 : Sl) (x116_1 : Sl) (x116_2 : Sl) =>
  Calls Try.prog F.l_toNetwork #[.agg #[x116_0.v, x116_1.v, x116_2.v]] w23 (Ret [.agg [.sl, .sl, .sl]] fun (x117_0 : Sl) (x117_1 : Sl) (x117_2 : Sl) w24 =>
  Calls Try.prog F.l_toIntS #[x1.v] w24 (Ret [.at .sl] fun (x119 : Sl) w25 =>
  Calls Try.prog F.i_PolynomialStep #[.agg #[x117_0.v, x117_1.v, x117_2.v], x119.v, .int .i64 x2, .int .i64 x3] w25 (Ret [.at .sl, .at (.int .i64), .at .bool] fun (x122_0 : Sl) (x122_1 : Int) (x122_2 : Bool) w26 =>
  Calls Try.prog F.l_eqIntS #[x122_0.v, x39_0.v] w26 (Ret [.at .bool] fun (x128 : Bool) w27 =>
  cond (!x128) (
  Q false w27) (
  cond ((x122_1 : Int) != x39_1) (
  Q false w27) (
  cond (!(x122_2 == x39_2)) (
  Q false w27) (
  Calls Try.prog F.l_heldIntS #[x52_0.v, .int .i64 1] w27 (Ret [.at (.int .i64)] fun (x142_2 : Int) w29 =>
  cond (decide ((x142_2 : Int) < 0)) (
  Q false w29) (
  cond ((x142_2 : Int) != x106) (
  Q false w29) (
  Q true w29))))))))))))))

def V_l_FnExactPolynomialStep_k3 (x1 : Sl) (x2 : Int) (x3 : Int) (Q : Bool → World → Prop) (px4 : Addr) (x39_0 : Sl) (x39_1 : Int) (x39_2 : Bool) (px13 : Addr) (x46 : Sl) (x52_0 : Sl) (x52_1 : Int) (x52_2 : Bool) (w12 : World) : Prop :=
  ∀ w13, Ext w12 w13 → w13.heap = w12.heap →
  LD [.sl, .sl, .sl] px13 w13 fun (x70_0 : Sl) (x70_1 : Sl) (x70_2 : Sl) =>
  LD [.sl, .sl, .sl] px4 w13 fun (x71_0 : Sl) (x71_1 : Sl) (x71_2 : Sl) =>
  Ext w13 w13 ∧ (
  Calls Try.prog F.l_toNetwork #[.agg #[x71_0.v, x71_1.v, x71_2.v]] w13 (Ret [.agg [.sl, .sl, .sl]] fun (x72_0 : Sl) (x72_1 : Sl) (x72_2 : Sl) w14 =>
  Ext w13 w14 ∧ (
  Calls Try.prog F.l_eqNetwork #[.agg #[x70_0.v, x70_1.v, x70_2.v], .agg #[x72_0.v, x72_1.v, x72_2.v]] w14 (Ret [.at .bool] fun (x73 : Bool) w15 =>
  Ext w13 w15 ∧ (
  cond (!x73) (
  Q false w15) (
  Calls Try.prog F.l_toIntS #[x1.v] w15 (Ret [.at .sl] fun (x77 : Sl) w16 =>
  Calls Try.prog F.l_eqIntS #[x46.v, x77.v] w16 (Ret [.at .bool] fun (x78 : Bool) w17 =>
  cond (!x78) (
  Q false w17) (
  LD [.sl, .sl, .sl] px13 w17 fun (x80_0 : Sl) (x80_1 : Sl) (x80_2 : Sl) =>
  Calls Try.prog F.l_markNetwork #[.agg #[x80_0.v, x80_1.v, x80_2.v], .int .i64 1] w17 (Ret [.at (.int .i64)] fun (x82 : Int) w18 =>
  Calls Try.prog F.l_markIntS #[x46.v, .int .i64 x82] w18 (Ret [.at (.int .i64)] fun (x85 : Int) w19 =>
  cond (decide ((x85 : Int) < 0)) (
  Q false w19) (
  Calls Try.prog F.l_eqIntS #[x52_0.v, x39_0.v] w19 (Ret [.at .bool] fun (x91 : Bool) w20 =>
  cond (!x91) (
  Q false w20) (
  cond ((x52_1 : Int) != x39_1) (
  Q false w20) (
  cond (!(x52_2 == x39_2)) (
  Q false w20) (
  V_l_FnExactPolynomialStep_k7 x1 x2 x3 Q px4 x39_0 x39_1 x39_2 x52_0 w20))))))))))))))))

def V_l_FnExactPolynomialStep (Q : Bool → World → Prop) (x0_0 : Sl) (x0_1 : Sl) (x0_2 : Sl) (x1 : Sl) (x2 : Int) (x3 : Int) (w : World) : Prop :=
  NEW T.t_l_Network #[x0_0.v, x0_1.v, x0_2.v] w fun (px4 : Addr) w1 =>
  cond (decide ((x1.len : Int) > 1048576)) (
  Q true w1) (
  LD [.sl, .sl, .sl] px4 w1 fun (x27_0 : Sl) (x27_1 : Sl) (x27_2 : Sl) =>
  Calls Try.prog F.l_szNetwork #[.agg #[x27_0.v, x27_1.v, x27_2.v], .int .i64 1048576] w1 (Ret [.at (.int .i64)] fun (x29 : Int) w2 =>
  cond (decide ((x29 : Int) < 0)) (
  Q true w2) (
  LD [.sl, .sl, .sl] px4 w2 fun (x33_0 : Sl) (x33_1 : Sl) (x33_2 : Sl) =>
  Calls Try.prog F.l_toNetwork #[.agg #[x33_0.v, x33_1.v, x33_2.v]] w2 (Ret [.agg [.sl, .sl, .sl]] fun (x34_0 : Sl) (x34_1 : Sl) (x34_2 : Sl) w3 =>
  Calls Try.prog F.l_toIntS #[x1.v] w3 (Ret [.at .sl] fun (x36 : Sl) w4 =>
  Calls Try.prog F.s_PolynomialStep #[.agg #[x34_0.v, x34_1.v, x34_2.v], x36.v, .int .i64 x2, .int .i64 x3] w4 (Ret [.at .sl, .at (.int .i64), .at .bool] fun (x39_0 : Sl) (x39_1 : Int) (x39_2 : Bool) w5 =>
  LD [.sl, .sl, .sl] px4 w5 fun (x43_0 : Sl) (x43_1 : Sl) (x43_2 : Sl) =>
  Calls Try.prog F.l_toNetwork #[.agg #[x43_0.v, x43_1.v, x43_2.v]] w5 (Ret [.agg [.sl, .sl, .sl]] fun (x44_0 : Sl) (x44_1 : Sl) (x44_2 : Sl) w6 =>
  NEW T.t_i_Network #[.slice none 0 0, .slice none 0 0, .slice none 0 0] w6 fun (px13 : Addr) w7 =>
  ST px13 0 [x44_0.v, x44_1.v, x44_2.v] w7 fun w8 =>
  Calls Try.prog F.l_toIntS #[x1.v] w8 (Ret [.at .sl] fun (x46 : Sl) w9 =>
  LD [.sl, .sl, .sl] px13 w9 fun (x48_0 : Sl) (x48_1 : Sl) (x48_2 : Sl) =>
  Calls Try.prog F.i_PolynomialStep #[.agg #[x48_0.v, x48_1.v, x48_2.v], x46.v, .int .i64 x2, .int .i64 x3] w9 (Ret [.at .sl, .at (.int .i64), .at .bool] fun (x52_0 : Sl) (x52_1 : Int) (x52_2 : Bool) w10 =>
  Calls Try.prog F.l_eqIntS #[x52_0.v, x39_0.v] w10 (Ret [.at .bool] fun (x58 : Bool) w11 =>
  cond (!x58) (
  Q false w11) (
  cond ((x52_1 : Int) != x39_1) (
  Q false w11) (
  cond (!(x52_2 == x39_2)) (
  Q false w11) (
  V_l_FnExactPolynomialStep_k3 x1 x2 x3 Q px4 x39_0 x39_1 x39_2 px13 x46 x52_0 x52_1 x52_2 w11)))))))))))))

theorem C_l_FnExactPolynomialStep {Q : Bool → World → Prop} {x0_0 : Sl} {x0_1 : Sl} {x0_2 : Sl} {x1 : Sl} {x2 : Int} {x3 : Int} {w : World} (h : V_l_FnExactPolynomialStep Q x0_0 x0_1 x0_2 x1 x2 x3 w) : Calls Try.prog F.l_FnExactPolynomialStep #[.agg #[x0_0.v, x0_1.v, x0_2.v], x1.v, .int .i64 x2, .int .i64 x3] w (Ret [.at .bool] Q) :=
  mkC (hint := hint) (ann := annOf []) (args := [.agg #[x0_0.v, x0_1.v, x0_2.v], x1.v, .int .i64 x2, .int .i64 x3]) (rs := [.at .bool]) Try.func8 (by kernel_rfl) (by kernel_rfl) h

def V_l_FnExactLevelsFor (Q : Bool → World → Prop) (aP_0 : Int) (aP_1 : Sl) (w : World) : Prop :=
  NEW T.t_l_WalkProblem #[.int .i64 aP_0, aP_1.v] w fun (p_aP : Addr) w1 =>
  LD [.int .i64, .sl] p_aP w1 fun (x9_0 : Int) (x9_1 : Sl) =>
  Calls Try.prog F.l_szWalkProblem #[.agg #[.int .i64 x9_0, x9_1.v], .int .i64 1048576] w1 (Ret [.at (.int .i64)] fun (x11 : Int) w2 =>
  cond (decide ((x11 : Int) < 0)) (
  Q true w2) (
  LD [.int .i64, .sl] p_aP w2 fun (x15_0 : Int) (x15_1 : Sl) =>
  Calls Try.prog F.l_toWalkProblem #[.agg #[.int .i64 x15_0, x15_1.v]] w2 (Ret [.agg [.int .i64, .sl]] fun (x16_0 : Int) (x16_1 : Sl) w3 =>
  Calls Try.prog F.s_LevelsFor #[.agg #[.int .i64 x16_0, x16_1.v]] w3 (Ret [.at (.int .i64), .at .bool] fun (x17_0 : Int) (x17_1 : Bool) w4 =>
  LD [.int .i64, .sl] p_aP w4 fun (x20_0 : Int) (x20_1 : Sl) =>
  Calls Try.prog F.l_toWalkProblem #[.agg #[.int .i64 x20_0, x20_1.v]] w4 (Ret [.agg [.int .i64, .sl]] fun (x21_0 : Int) (x21_1 : Sl) w5 =>
  NEW T.t_i_WalkProblem #[.int .i64 0, .slice none 0 0] w5 fun (px0 : Addr) w6 =>
  ST px0 0 [.int .i64 x21_0, x21_1.v] w6 fun w7 =>
  LD [.int .i64, .sl] px0 w7 fun (x23_0 : Int) (x23_1 : Sl) =>
  Calls Try.prog F.i_LevelsFor #[.agg #[.int .i64 x23_0, x23_1.v]] w7 (Ret [.at (.int .i64), .at .bool] fun (x24_0 : Int) (x24_1 : Bool) w8 =>
  cond ((x24_0 : Int) != x17_0) (
  Q false w8) (
  cond (!(x24_1 == x17_1)) (
  Q false w8) (
  ∀ w12, Ext w8 w12 → w12.heap = w8.heap →
  LD [.int .i64, .sl] px0 w12 fun (x35_0_2 : Int) (x35_1_2 : Sl) =>
  LD [.int .i64, .sl] p_aP w12 fun (x36_0_2 : Int) (x36_1_2 : Sl) =>
  Ext w12 w12 ∧ (
  Calls Try.prog F.l_toWalkProblem #[.agg #[.int .i64 x36_0_2, x36_1_2.v]] w12 (Ret [.agg [.int .i64, .sl]] fun (x37_0_2 : Int) (x37_1_2 : Sl) w13 =>
  Ext w12 w13 ∧ (
  Calls Try.prog F.l_eqWalkProblem #[.agg #[.int .i64 x35_0_2, x35_1_2.v], .agg #[.int .i64 x37_0_2, x37_1_2.v]] w13 (Ret [.at .bool] fun (x38_2 : Bool) w14 =>
  Ext w12 w14 ∧ (
  cond (!x38_2) (
  Q false w14) (
  Q true w14))))))))))))))

theorem C_l_FnExactLevelsFor {Q : Bool → World → Prop} {aP_0 : Int} {aP_1 : Sl} {w : World} (h : V_l_FnExactLevelsFor Q aP_0 aP_1 w) : Calls Try.prog F.l_FnExactLevelsFor #[.agg #[.int .i64 aP_0, aP_1.v]] w (Ret [.at .bool] Q) :=
  mkC (hint := hint) (ann := annOf []) (args := [.agg #[.int .i64 aP_0, aP_1.v]]) (rs := [.at .bool]) Try.func9 (by kernel_rfl) (by kernel_rfl) h

def V_l_FnExactIndependentByColours_k7 (x1 : Sl) (Q : Bool → World → Prop) (px2 : Addr) (x33_0 : Sl) (x33_1 : Int) (x33_2 : Bool) (x44_0 : Sl) (w21 : World) : Prop :=
  Calls Try.prog F.l_markIntS #[x44_0.v, .int .i64 1] w21 (Ret [.at (.int .i64)] fun (x98 : Int) w22 =>
  Calls Try.prog F.l_heldIntS #[x44_0.v, .int .i64 1] w22 (Ret [.at (.int .i64)] fun (x101 : Int) w23 =>
  cond (decide ((x101 : Int) < 0)) (
  Q false w23) (
  cond ((x101 : Int) != x98) (
  Q false w23) (
  LD [.sl, .sl, .sl] px2 w23 fun (x108_0 : Sl) (x108_1 : Sl) (x108_2 : Sl) =>
  Calls Try.prog F.l_toNetwork #[.agg #[x108_0.v, x108_1.v, x108_2.v]] w23 (Ret [.agg [.sl, .sl, .sl]] fun (x109_0 : Sl) (x109_1 : Sl) (x109_2 : Sl) w24 =>
  Calls Try.prog F.l_toIntS #[x1.v] w24 (Ret [.at .sl] fun (x111 : Sl) w25 =>
  Calls Try.prog F.i_IndependentByColours #[.agg #[x109_0.v, x109_1.v, x109_2.v], x111.v] w25 (Ret [.at .sl, .at (.int .i64), .at .bool] fun (x112_0 : Sl) (x112_1 : Int) (x112_2 : Bool) w26 =>
  Calls Try.prog F.l_eqIntS #[x112_0.v, x33_0.v] w26 (Ret [.at .bool] fun (x118 : Bool) w27 =>
  cond (!x118) (
  Q false w27) (
  cond ((x112_1 : Int) != x33_1) (
  Q false w27) (
  cond (!(x112_2 == x33_2)) (
  Q false w27) (
  Calls Try.prog F.l_heldIntS #[x44_0.v, .int .i64 1] w27 (Ret [.at (.int .i64)] fun (x132_2 : Int) w29 =>
  cond (decide ((x132_2 : Int) < 0)) (
  Q false w29) (
  cond ((x132_2 : Int) != x98) (
  Q false w29) (
  Q true w29))))))))))))))

def V_l_FnExactIndependentByColours_k3 (x1 : Sl) (Q : Bool → World → Prop) (px2 : Addr) (x33_0 : Sl) (x33_1 : Int) (x33_2 : Bool) (px9 : Addr) (x40 : Sl) (x44_0 : Sl) (x44_1 : Int) (x44_2 : Bool) (w12 : World) : Prop :=
  ∀ w13, Ext w12 w13 → w13.heap = w12.heap →
  LD [.sl, .sl, .sl] px9 w13 fun (x62_0 : Sl) (x62_1 : Sl) (x62_2 : Sl) =>
  LD [.sl, .sl, .sl] px2 w13 fun (x63_0 : Sl) (x63_1 : Sl) (x63_2 : Sl) =>
  Ext w13 w13 ∧ (
  Calls Try.prog F.l_toNetwork #[.agg #[x63_0.v, x63_1.v, x63_2.v]] w13 (Ret [.agg [.sl, .sl, .sl]] fun (x64_0 : Sl) (x64_1 : Sl) (x64_2 : Sl) w14 =>
  Ext w13 w14 ∧ (
  Calls Try.prog F.l_eqNetwork #[.agg #[x62_0.v, x62_1.v, x62_2.v], .agg #[x64_0.v, x64_1.v, x64_2.v]] w14 (Ret [.at .bool] fun (x65 : Bool) w15 =>
  Ext w13 w15 ∧ (
  cond (!x65) (
  Q false w15) (
  Calls Try.prog F.l_toIntS #[x1.v] w15 (Ret [.at .sl] fun (x69 : Sl) w16 =>
  Calls Try.prog F.l_eqIntS #[x40.v, x69.v] w16 (Ret [.at .bool] fun (x70 : Bool) w17 =>
  cond (!x70) (
  Q false w17) (
  LD [.sl, .sl, .sl] px9 w17 fun (x72_0 : Sl) (x72_1 : Sl) (x72_2 : Sl) =>
  Calls Try.prog F.l_markNetwork #[.agg #[x72_0.v, x72_1.v, x72_2.v], .int .i64 1] w17 (Ret [.at (.int .i64)] fun (x74 : Int) w18 =>
  Calls Try.prog F.l_markIntS #[x40.v, .int .i64 x74] w18 (Ret [.at (.int .i64)] fun (x77 : Int) w19 =>
  cond (decide ((x77 : Int) < 0)) (
  Q false w19) (
  Calls Try.prog F.l_eqIntS #[x44_0.v, x33_0.v] w19 (Ret [.at .bool] fun (x83 : Bool) w20 =>
  cond (!x83) (
  Q false w20) (
  cond ((x44_1 : Int) != x33_1) (
  Q false w20) (
  cond (!(x44_2 == x33_2)) (
  Q false w20) (
  V_l_FnExactIndependentByColours_k7 x1 Q px2 x33_0 x33_1 x33_2 x44_0 w20))))))))))))))))

def V_l_FnExactIndependentByColours (Q : Bool → World → Prop) (x0_0 : Sl) (x0_1 : Sl) (x0_2 : Sl) (x1 : Sl) (w : World) : Prop :=
  NEW T.t_l_Network #[x0_0.v, x0_1.v, x0_2.v] w fun (px2 : Addr) w1 =>
  cond (decide ((x1.len : Int) > 1048576)) (
  Q true w1) (
  LD [.sl, .sl, .sl] px2 w1 fun (x23_0 : Sl) (x23_1 : Sl) (x23_2 : Sl) =>
  Calls Try.prog F.l_szNetwork #[.agg #[x23_0.v, x23_1.v, x23_2.v], .int .i64 1048576] w1 (Ret [.at (.int .i64)] fun (x25 : Int) w2 =>
  cond (decide ((x25 : Int) < 0)) (
  Q true w2) (
  LD [.sl, .sl, .sl] px2 w2 fun (x29_0 : Sl) (x29_1 : Sl) (x29_2 : Sl) =>
  Calls Try.prog F.l_toNetwork #[.agg #[x29_0.v, x29_1.v, x29_2.v]] w2 (Ret [.agg [.sl, .sl, .sl]] fun (x30_0 : Sl) (x30_1 : Sl) (x30_2 : Sl) w3 =>
  Calls Try.prog F.l_toIntS #[x1.v] w3 (Ret [.at .sl] fun (x32 : Sl) w4 =>
  Calls Try.prog F.s_IndependentByColours #[.agg #[x30_0.v, x30_1.v, x30_2.v], x32.v] w4 (Ret [.at .sl, .at (.int .i64), .at .bool] fun (x33_0 : Sl) (x33_1 : Int) (x33_2 : Bool) w5 =>
  LD [.sl, .sl, .sl] px2 w5 fun (x37_0 : Sl) (x37_1 : Sl) (x37_2 : Sl) =>
  Calls Try.prog F.l_toNetwork #[.agg #[x37_0.v, x37_1.v, x37_2.v]] w5 (Ret [.agg [.sl, .sl, .sl]] fun (x38_0 : Sl) (x38_1 : Sl) (x38_2 : Sl) w6 =>
  NEW T.t_i_Network #[.slice none 0 0, .slice none 0 0, .slice none 0 0] w6 fun (px9 : Addr) w7 =>
  ST px9 0 [x38_0.v, x38_1.v, x38_2.v] w7 fun w8 =>
  Calls Try.prog F.l_toIntS #[x1.v] w8 (Ret [.at .sl] fun (x40 : Sl) w9 =>
  LD [.sl, .sl, .sl] px9 w9 fun (x42_0 : Sl) (x42_1 : Sl) (x42_2 : Sl) =>
  Calls Try.prog F.i_IndependentByColours #[.agg #[x42_0.v, x42_1.v, x42_2.v], x40.v] w9 (Ret [.at .sl, .at (.int .i64), .at .bool] fun (x44_0 : Sl) (x44_1 : Int) (x44_2 : Bool) w10 =>
  Calls Try.prog F.l_eqIntS #[x44_0.v, x33_0.v] w10 (Ret [.at .bool] fun (x50 : Bool) w11 =>
  cond (!x50) (
  Q false w11) (
  cond ((x44_1 : Int) != x33_1) (
  Q false w11) (
  cond (!(x44_2 == x33_2)) (
  Q false w11) (
  V_l_FnExactIndependentByColours_k3 x1 Q px2 x33_0 x33_1 x33_2 px9 x40 x44_0 x44_1 x44_2 w11)))))))))))))

theorem C_l_FnExactIndependentByColours {Q : Bool → World → Prop} {x0_0 : Sl} {x0_1 : Sl} {x0_2 : Sl} {x1 : Sl} {w : World} (h : V_l_FnExactIndependentByColours Q x0_0 x0_1 x0_2 x1 w) : Calls Try.prog F.l_FnExactIndependentByColours #[.agg #[x0_0.v, x0_1.v, x0_2.v], x1.v] w (Ret [.at .bool] Q) :=
  mkC (hint := hint) (ann := annOf []) (args := [.agg #[x0_0.v, x0_1.v, x0_2.v], x1.v]) (rs := [.at .bool]) Try.func10 (by kernel_rfl) (by kernel_rfl) h

def V_l_FnExactColourFromLists_k9 (x1 : Sl) (x2 : Sl) (Q : Bool → World → Prop) (px3 : Addr) (x40_0 : Sl) (x40_1 : Bool) (x53_0 : Sl) (w27 : World) : Prop :=
  Calls Try.prog F.l_markIntS #[x53_0.v, .int .i64 1] w27 (Ret [.at (.int .i64)] fun (x104 : Int) w28 =>
  Calls Try.prog F.l_heldIntS #[x53_0.v, .int .i64 1] w28 (Ret [.at (.int .i64)] fun (x107 : Int) w29 =>
  cond (decide ((x107 : Int) < 0)) (
  Q false w29) (
  cond ((x107 : Int) != x104) (
  Q false w29) (
  LD [.sl, .sl, .sl] px3 w29 fun (x114_0 : Sl) (x114_1 : Sl) (x114_2 : Sl) =>
  Calls Try.prog F.l_toNetwork #[.agg #[x114_0.v, x114_1.v, x114_2.v]] w29 (Ret [.agg [.sl, .sl, .sl]] fun (x115_0 : Sl) (x115_1 : Sl) (x115_2 : Sl) w30 =>
  Calls Try.prog F.l_toIntS #[x1.v] w30 (Ret [.at .sl] fun (x117 : Sl) w31 =>
  Calls Try.prog F.l_toIntSS #[x2.v] w31 (Ret [.at .sl] fun (x119 : Sl) w32 =>
  Calls Try.prog F.i_ColourFromLists #[.agg #[x115_0.v, x115_1.v, x115_2.v], x117.v, x119.v] w32 (Ret [.at .sl, .at .bool] fun (x120_0 : Sl) (x120_1 : Bool) w33 =>
  Calls Try.prog F.l_eqIntS #[x120_0.v, x40_0.v] w33 (Ret [.at .bool] fun (x125 : Bool) w34 =>
  cond (!x125) (
  Q false w34) (
  cond (!(x120_1 == x40_1)) (
  Q false w34) (
  Calls Try.prog F.l_heldIntS #[x53_0.v, .int .i64 1] w34 (Ret [.at (.int .i64)] fun (x134_2 : Int) w36 =>
  cond (decide ((x134_2 : Int) < 0)) (
  Q false w36) (
  cond ((x134_2 : Int) != x104) (
  Q false w36) (
  Q true w36))))))))))))))

def V_l_FnExactColourFromLists_k4 (x1 : Sl) (x2 : Sl) (Q : Bool → World → Prop) (px3 : Addr) (x40_0 : Sl) (x40_1 : Bool) (px10 : Addr) (x46 : Sl) (x48 : Sl) (x53_0 : Sl) (x53_1 : Bool) (w15 : World) : Prop :=
  ∀ w16, Ext w15 w16 → w16.heap = w15.heap →
  LD [.sl, .sl, .sl] px10 w16 fun (x65_0 : Sl) (x65_1 : Sl) (x65_2 : Sl) =>
  LD [.sl, .sl, .sl] px3 w16 fun (x66_0 : Sl) (x66_1 : Sl) (x66_2 : Sl) =>
  Ext w16 w16 ∧ (
  Calls Try.prog F.l_toNetwork #[.agg #[x66_0.v, x66_1.v, x66_2.v]] w16 (Ret [.agg [.sl, .sl, .sl]] fun (x67_0 : Sl) (x67_1 : Sl) (x67_2 : Sl) w17 =>
  Ext w16 w17 ∧ (
  Calls Try.prog F.l_eqNetwork #[.agg #[x65_0.v, x65_1.v, x65_2.v], .agg #[x67_0.v, x67_1.v, x67_2.v]] w17 (Ret [.at .bool] fun (x68 : Bool) w18 =>
  Ext w16 w18 ∧ (
  cond (!x68) (
  Q false w18) (
  Calls Try.prog F.l_toIntS #[x1.v] w18 (Ret [.at .sl] fun (x72 : Sl) w19 =>
  Calls Try.prog F.l_eqIntS #[x46.v, x72.v] w19 (Ret [.at .bool] fun (x73 : Bool) w20 =>
  cond (!x73) (
  Q false w20) (
  Calls Try.prog F.l_toIntSS #[x2.v] w20 (Ret [.at .sl] fun (x77 : Sl) w21 =>
  Calls Try.prog F.l_eqIntSS #[x48.v, x77.v] w21 (Ret [.at .bool] fun (x78 : Bool) w22 =>
  cond (!x78) (
  Q false w22) (
  LD [.sl, .sl, .sl] px10 w22 fun (x80_0 : Sl) (x80_1 : Sl) (x80_2 : Sl) =>
  Calls Try.prog F.l_markNetwork #[.agg #[x80_0.v, x80_1.v, x80_2.v], .int .i64 1] w22 (Ret [.at (.int .i64)] fun (x82 : Int) w23 =>
  Calls Try.prog F.l_markIntS #[x46.v, .int .i64 x82] w23 (Ret [.at (.int .i64)] fun (x85 : Int) w24 =>
  Calls Try.prog F.l_markIntSS #[x48.v, .int .i64 x85] w24 (Ret [.at (.int .i64)] fun (x88 : Int) w25 =>
  cond (decide ((x88 : Int) < 0)) (
  Q false w25) (
  Calls Try.prog F.l_eqIntS #[x53_0.v, x40_0.v] w25 (Ret [.at .bool] fun (x94 : Bool) w26 =>
  cond (!x94) (
  Q false w26) (
  cond (!(x53_1 == x40_1)) (
  Q false w26) (
  V_l_FnExactColourFromLists_k9 x1 x2 Q px3 x40_0 x40_1 x53_0 w26)))))))))))))))))))

def V_l_FnExactColourFromLists (Q : Bool → World → Prop) (x0_0 : Sl) (x0_1 : Sl) (x0_2 : Sl) (x1 : Sl) (x2 : Sl) (w : World) : Prop :=
  NEW T.t_l_Network #[x0_0.v, x0_1.v, x0_2.v] w fun (px3 : Addr) w1 =>
  cond (decide ((x1.len : Int) > 1048576)) (
  Q true w1) (
  LD [.sl, .sl, .sl] px3 w1 fun (x23_0 : Sl) (x23_1 : Sl) (x23_2 : Sl) =>
  Calls Try.prog F.l_szNetwork #[.agg #[x23_0.v, x23_1.v, x23_2.v], .int .i64 1048576] w1 (Ret [.at (.int .i64)] fun (x25 : Int) w2 =>
  cond (decide ((x25 : Int) < 0)) (
  Q true w2) (
  Calls Try.prog F.l_szIntSS #[x2.v, .int .i64 x25] w2 (Ret [.at (.int .i64)] fun (x30 : Int) w3 =>
  cond (decide ((x30 : Int) < 0)) (
  Q true w3) (
  LD [.sl, .sl, .sl] px3 w3 fun (x34_0 : Sl) (x34_1 : Sl) (x34_2 : Sl) =>
  Calls Try.prog F.l_toNetwork #[.agg #[x34_0.v, x34_1.v, x34_2.v]] w3 (Ret [.agg [.sl, .sl, .sl]] fun (x35_0 : Sl) (x35_1 : Sl) (x35_2 : Sl) w4 =>
  Calls Try.prog F.l_toIntS #[x1.v] w4 (Ret [.at .sl] fun (x37 : Sl) w5 =>
  Calls Try.prog F.l_toIntSS #[x2.v] w5 (Ret [.at .sl] fun (x39 : Sl) w6 =>
  Calls Try.prog F.s_ColourFromLists #[.agg #[x35_0.v, x35_1.v, x35_2.v], x37.v, x39.v] w6 (Ret [.at .sl, .at .bool] fun (x40_0 : Sl) (x40_1 : Bool) w7 =>
  LD [.sl, .sl, .sl] px3 w7 fun (x43_0 : Sl) (x43_1 : Sl) (x43_2 : Sl) =>
  Calls Try.prog F.l_toNetwork #[.agg #[x43_0.v, x43_1.v, x43_2.v]] w7 (Ret [.agg [.sl, .sl, .sl]] fun (x44_0 : Sl) (x44_1 : Sl) (x44_2 : Sl) w8 =>
  NEW T.t_i_Network #[.slice none 0 0, .slice none 0 0, .slice none 0 0] w8 fun (px10 : Addr) w9 =>
  ST px10 0 [x44_0.v, x44_1.v, x44_2.v] w9 fun w10 =>
  Calls Try.prog F.l_toIntS #[x1.v] w10 (Ret [.at .sl] fun (x46 : Sl) w11 =>
  Calls Try.prog F.l_toIntSS #[x2.v] w11 (Ret [.at .sl] fun (x48 : Sl) w12 =>
  LD [.sl, .sl, .sl] px10 w12 fun (x50_0 : Sl) (x50_1 : Sl) (x50_2 : Sl) =>
  Calls Try.prog F.i_ColourFromLists #[.agg #[x50_0.v, x50_1.v, x50_2.v], x46.v, x48.v] w12 (Ret [.at .sl, .at .bool] fun (x53_0 : Sl) (x53_1 : Bool) w13 =>
  Calls Try.prog F.l_eqIntS #[x53_0.v, x40_0.v] w13 (Ret [.at .bool] fun (x58 : Bool) w14 =>
  cond (!x58) (
  Q false w14) (
  cond (!(x53_1 == x40_1)) (
  Q false w14) (
  V_l_FnExactColourFromLists_k4 x1 x2 Q px3 x40_0 x40_1 px10 x46 x48 x53_0 x53_1 w14))))))))))))))))

theorem C_l_FnExactColourFromLists {Q : Bool → World → Prop} {x0_0 : Sl} {x0_1 : Sl} {x0_2 : Sl} {x1 : Sl} {x2 : Sl} {w : World} (h : V_l_FnExactColourFromLists Q x0_0 x0_1 x0_2 x1 x2 w) : Calls Try.prog F.l_FnExactColourFromLists #[.agg #[x0_0.v, x0_1.v, x0_2.v], x1.v, x2.v] w (Ret [.at .bool] Q) :=
  mkC (hint := hint) (ann := annOf []) (args := [.agg #[x0_0.v, x0_1.v, x0_2.v], x1.v, x2.v]) (rs := [.at .bool]) Try.func11 (by kernel_rfl) (by kernel_rfl) h

def V_l_FnExactFailingNetwork_k7 (x1 : Sl) (Q : Bool → World → Prop) (px2 : Addr) (x30_1 : Bool) (px6 : Addr) (px10 : Addr) (w25 : World) : Prop :=
  LD [.sl, .sl, .sl] px10 w25 fun (x81_0 : Sl) (x81_1 : Sl) (x81_2 : Sl) =>
  Calls Try.prog F.l_markNetwork #[.agg #[x81_0.v, x81_1.v, x81_2.v], .int .i64 1] w25 (Ret [.at (.int .i64)] fun (x83 : Int) w26 =>
  LD [.sl, .sl, .sl] px10 w26 fun (x84_0 : Sl) (x84_1 : Sl) (x84_2 : Sl) =>
  Calls Try.prog F.l_heldNetwork #[.agg #[x84_0.v, x84_1.v, x84_2.v], .int .i64 1] w26 (Ret [.at (.int .i64)] fun (x86 : Int) w27 =>
  cond (decide ((x86 : Int) < 0)) (
  Q false w27) (
  cond ((x86 : Int) != x83) (
  Q false w27) (
  LD [.int .i64, .int .i64, .sl, .sl] px2 w27 fun (x93_0 : Int) (x93_1 : Int) (x93_2 : Sl) (x93_3 : Sl) =>
  Calls Try.prog F.l_toProblem #[.agg #[.int .i64 x93_0, .int .i64 x93_1, x93_2.v, x93_3.v]] w27 (Ret [.agg [.int .i64, .int .i64, .sl, .sl]] fun (x94_0 : Int) (x94_1 : Int) (x94_2 : Sl) (x94_3 : Sl) w28 =>
  Calls Try.prog F.l_toIntS #[x1.v] w28 (Ret [.at .sl] fun (x96 : Sl) w29 =>
  Calls Try.prog F.i_FailingNetwork #[.agg #[.int .i64 x94_0, .int .i64 x94_1, x94_2.v, x94_3.v], x96.v] w29 (Ret [.agg [.sl, .sl, .sl], .at .bool] fun (x97_0_0 : Sl) (x97_0_1 : Sl) (x97_0_2 : Sl) (x97_1 : Bool) w30 =>
  NEW T.t_i_Network #[.slice none 0 0, .slice none 0 0, .slice none 0 0] w30 fun (px15 : Addr) w31 =>
  ST px15 0 [x97_0_0.v, x97_0_1.v, x97_0_2.v] w31 fun w32 =>
  LD [.sl, .sl, .sl] px15 w32 fun (x100_0 : Sl) (x100_1 : Sl) (x100_2 : Sl) =>
  LD [.sl, .sl, .sl] px6 w32 fun (x101_0 : Sl) (x101_1 : Sl) (x101_2 : Sl) =>
  Calls Try.prog F.l_eqNetwork #[.agg #[x100_0.v, x100_1.v, x100_2.v], .agg #[x101_0.v, x101_1.v, x101_2.v]] w32 (Ret [.at .bool] fun (x102 : Bool) w33 =>
  cond (!x102) (
  Q false w33) (
  cond (!(x97_1 == x30_1)) (
  Q false w33) (
  LD [.sl, .sl, .sl] px10 w33 fun (x109_0_2 : Sl) (x109_1_2 : Sl) (x109_2_2 : Sl) =>
  Calls Try.prog F.l_heldNetwork #[.agg #[x109_0_2.v, x109_1_2.v, x109_2_2.v], .int .i64 1] w33 (Ret [.at (.int .i64)] fun (x111_2 : Int) w35 =>
  cond (decide ((x111_2 : Int) < 0)) (
  Q false w35) (
  cond ((x111_2 : Int) != x83) (
  Q false w35) (
  Q true w35)))))))))))))

def V_l_FnExactFailingNetwork_k3 (x1 : Sl) (Q : Bool → World → Prop) (px2 : Addr) (x30_1 : Bool) (px6 : Addr) (px8 : Addr) (x36 : Sl) (x40_1 : Bool) (px10 : Addr) (w16 : World) : Prop :=
  ∀ w17, Ext w16 w17 → w17.heap = w16.heap →
  LD [.int .i64, .int .i64, .sl, .sl] px8 w17 fun (x52_0 : Int) (x52_1 : Int) (x52_2 : Sl) (x52_3 : Sl) =>
  LD [.int .i64, .int .i64, .sl, .sl] px2 w17 fun (x53_0 : Int) (x53_1 : Int) (x53_2 : Sl) (x53_3 : Sl) =>
  Ext w17 w17 ∧ (
  Calls Try.prog F.l_toProblem #[.agg #[.int .i64 x53_0, .int .i64 x53_1, x53_2.v, x53_3.v]] w17 (Ret [.agg [.int .i64, .int .i64, .sl, .sl]] fun (x54_0 : Int) (x54_1 : Int) (x54_2 : Sl) (x54_3 : Sl) w18 =>
  Ext w17 w18 ∧ (
  Calls Try.prog F.l_eqProblem #[.agg #[.int .i64 x52_0, .int .i64 x52_1, x52_2.v, x52_3.v], .agg #[.int .i64 x54_0, .int .i64 x54_1, x54_2.v, x54_3.v]] w18 (Ret [.at .bool] fun (x55 : Bool) w19 =>
  Ext w17 w19 ∧ (
  cond (!x55) (
  Q false w19) (
  Calls Try.prog F.l_toIntS #[x1.v] w19 (Ret [.at .sl] fun (x59 : Sl) w20 =>
  Calls Try.prog F.l_eqIntS #[x36.v, x59.v] w20 (Ret [.at .bool] fun (x60 : Bool) w21 =>
  cond (!x60) (
  Q false w21) (
  LD [.int .i64, .int .i64, .sl, .sl] px8 w21 fun (x62_0 : Int) (x62_1 : Int) (x62_2 : Sl) (x62_3 : Sl) =>
  Calls Try.prog F.l_markProblem #[.agg #[.int .i64 x62_0, .int .i64 x62_1, x62_2.v, x62_3.v], .int .i64 1] w21 (Ret [.at (.int .i64)] fun (x64 : Int) w22 =>
  Calls Try.prog F.l_markIntS #[x36.v, .int .i64 x64] w22 (Ret [.at (.int .i64)] fun (x67 : Int) w23 =>
  cond (decide ((x67 : Int) < 0)) (
  Q false w23) (
  LD [.sl, .sl, .sl] px10 w23 fun (x71_0 : Sl) (x71_1 : Sl) (x71_2 : Sl) =>
  LD [.sl, .sl, .sl] px6 w23 fun (x72_0 : Sl) (x72_1 : Sl) (x72_2 : Sl) =>
  Calls Try.prog F.l_eqNetwork #[.agg #[x71_0.v, x71_1.v, x71_2.v], .agg #[x72_0.v, x72_1.v, x72_2.v]] w23 (Ret [.at .bool] fun (x73 : Bool) w24 =>
  cond (!x73) (
  Q false w24) (
  cond (!(x40_1 == x30_1)) (
  Q false w24) (
  V_l_FnExactFailingNetwork_k7 x1 Q px2 x30_1 px6 px10 w24)))))))))))))))

def V_l_FnExactFailingNetwork (Q : Bool → World → Prop) (x0_0 : Int) (x0_1 : Int) (x0_2 : Sl) (x0_3 : Sl) (x1 : Sl) (w : World) : Prop :=
  NEW T.t_l_Problem #[.int .i64 x0_0, .int .i64 x0_1, x0_2.v, x0_3.v] w fun (px2 : Addr) w1 =>
  cond (decide ((x1.len : Int) > 1048576)) (
  Q true w1) (
  LD [.int .i64, .int .i64, .sl, .sl] px2 w1 fun (x20_0 : Int) (x20_1 : Int) (x20_2 : Sl) (x20_3 : Sl) =>
  Calls Try.prog F.l_szProblem #[.agg #[.int .i64 x20_0, .int .i64 x20_1, x20_2.v, x20_3.v], .int .i64 1048576] w1 (Ret [.at (.int .i64)] fun (x22 : Int) w2 =>
  cond (decide ((x22 : Int) < 0)) (
  Q true w2) (
  LD [.int .i64, .int .i64, .sl, .sl] px2 w2 fun (x26_0 : Int) (x26_1 : Int) (x26_2 : Sl) (x26_3 : Sl) =>
  Calls Try.prog F.l_toProblem #[.agg #[.int .i64 x26_0, .int .i64 x26_1, x26_2.v, x26_3.v]] w2 (Ret [.agg [.int .i64, .int .i64, .sl, .sl]] fun (x27_0 : Int) (x27_1 : Int) (x27_2 : Sl) (x27_3 : Sl) w3 =>
  Calls Try.prog F.l_toIntS #[x1.v] w3 (Ret [.at .sl] fun (x29 : Sl) w4 =>
  Calls Try.prog F.s_FailingNetwork #[.agg #[.int .i64 x27_0, .int .i64 x27_1, x27_2.v, x27_3.v], x29.v] w4 (Ret [.agg [.sl, .sl, .sl], .at .bool] fun (x30_0_0 : Sl) (x30_0_1 : Sl) (x30_0_2 : Sl) (x30_1 : Bool) w5 =>
  NEW T.t_i_Network #[.slice none 0 0, .slice none 0 0, .slice none 0 0] w5 fun (px6 : Addr) w6 =>
  ST px6 0 [x30_0_0.v, x30_0_1.v, x30_0_2.v] w6 fun w7 =>
  LD [.int .i64, .int .i64, .sl, .sl] px2 w7 fun (x33_0 : Int) (x33_1 : Int) (x33_2 : Sl) (x33_3 : Sl) =>
  Calls Try.prog F.l_toProblem #[.agg #[.int .i64 x33_0, .int .i64 x33_1, x33_2.v, x33_3.v]] w7 (Ret [.agg [.int .i64, .int .i64, .sl, .sl]] fun (x34_0 : Int) (x34_1 : Int) (x34_2 : Sl) (x34_3 : Sl) w8 =>
  NEW T.t_i_Problem #[.int .i64 0, .int .i64 0, .slice none 0 0, .slice none 0 0] w8 fun (px8 : Addr) w9 =>
  ST px8 0 [.int .i64 x34_0, .int .i64 x34_1, x34_2.v, x34_3.v] w9 fun w10 =>
  Calls Try.prog F.l_toIntS #[x1.v] w10 (Ret [.at .sl] fun (x36 : Sl) w11 =>
  LD [.int .i64, .int .i64, .sl, .sl] px8 w11 fun (x38_0 : Int) (x38_1 : Int) (x38_2 : Sl) (x38_3 : Sl) =>
  Calls Try.prog F.i_FailingNetwork #[.agg #[.int .i64 x38_0, .int .i64 x38_1, x38_2.v, x38_3.v], x36.v] w11 (Ret [.agg [.sl, .sl, .sl], .at .bool] fun (x40_0_0 : Sl) (x40_0_1 : Sl) (x40_0_2 : Sl) (x40_1 : Bool) w12 =>
  NEW T.t_i_Network #[.slice none 0 0, .slice none 0 0, .slice none 0 0] w12 fun (px10 : Addr) w13 =>
  ST px10 0 [x40_0_0.v, x40_0_1.v, x40_0_2.v] w13 fun w14 =>
  LD [.sl, .sl, .sl] px10 w14 fun (x43_0 : Sl) (x43_1 : Sl) (x43_2 : Sl) =>
  LD [.sl, .sl, .sl] px6 w14 fun (x44_0 : Sl) (x44_1 : Sl) (x44_2 : Sl) =>
  Calls Try.prog F.l_eqNetwork #[.agg #[x43_0.v, x43_1.v, x43_2.v], .agg #[x44_0.v, x44_1.v, x44_2.v]] w14 (Ret [.at .bool] fun (x45 : Bool) w15 =>
  cond (!x45) (
  Q false w15) (
  cond (!(x40_1 == x30_1)) (
  Q false w15) (
  V_l_FnExactFailingNetwork_k3 x1 Q px2 x30_1 px6 px8 x36 x40_1 px10 w15))))))))))))

theorem C_l_FnExactFailingNetwork {Q : Bool → World → Prop} {x0_0 : Int} {x0_1 : Int} {x0_2 : Sl} {x0_3 : Sl} {x1 : Sl} {w : World} (h : V_l_FnExactFailingNetwork Q x0_0 x0_1 x0_2 x0_3 x1 w) : Calls Try.prog F.l_FnExactFailingNetwork #[.agg #[.int .i64 x0_0, .int .i64 x0_1, x0_2.v, x0_3.v], x1.v] w (Ret [.at .bool] Q) :=
  mkC (hint := hint) (ann := annOf []) (args := [.agg #[.int .i64 x0_0, .int .i64 x0_1, x0_2.v, x0_3.v], x1.v]) (rs := [.at .bool]) Try.func12 (by kernel_rfl) (by kernel_rfl) h

def V_l_szNetwork (Q : Int → World → Prop) (a_0 : Sl) (a_1 : Sl) (a_2 : Sl) (left : Int) (w : World) : Prop :=
  NEW T.t_l_Network #[a_0.v, a_1.v, a_2.v] w fun (p_a : Addr) w1 =>
  LD [.sl] (p_a.add 0) w1 fun (x6 : Sl) =>
  Calls Try.prog F.l_szEndSS #[x6.v, .int .i64 left] w1 (Ret [.at (.int .i64)] fun (x8 : Int) w2 =>
  cond (decide ((x8 : Int) < 0)) (
  Q (-1) w2) (
  LD [.sl] (p_a.add 1) w2 fun (x12 : Sl) =>
  Calls Try.prog F.l_szIntS #[x12.v, .int .i64 x8] w2 (Ret [.at (.int .i64)] fun (x14 : Int) w3 =>
  cond (decide ((x14 : Int) < 0)) (
  Q (-1) w3) (
  LD [.sl] (p_a.add 2) w3 fun (x18 : Sl) =>
  Calls Try.prog F.l_szIntS #[x18.v, .int .i64 x14] w3 (Ret [.at (.int .i64)] fun (x20 : Int) w4 =>
  cond (decide ((x20 : Int) < 0)) (
  Q (-1) w4) (
  Q x20 w4))))))

theorem C_l_szNetwork {Q : Int → World → Prop} {a_0 : Sl} {a_1 : Sl} {a_2 : Sl} {left : Int} {w : World} (h : V_l_szNetwork Q a_0 a_1 a_2 left w) : Calls Try.prog F.l_szNetwork #[.agg #[a_0.v, a_1.v, a_2.v], .int .i64 left] w (Ret [.at (.int .i64)] Q) :=
  mkC (hint := hint) (ann := annOf []) (args := [.agg #[a_0.v, a_1.v, a_2.v], .int .i64 left]) (rs := [.at (.int .i64)]) Try.func13 (by kernel_rfl) (by kernel_rfl) h

def V_l_szIntSS (Q : Int → World → Prop) (a : Sl) (left : Int) (w : World) : Prop :=
  cond (decide (((IntKind.i64.wrap (left - a.len)) : Int) < 0)) (
  Q (-1) w) (
  ∃ (I5 : Int → Int → World → Prop) (m5 : Int → Int → World → Nat), I5 (IntKind.i64.wrap (left - a.len)) 0 w ∧ ∀ (left_2 : Int) (i : Int) w1, I5 left_2 i w1 → ∀ _ _ _ _ _ _ _ _ _ _ _ _ _ _ _ : Value,
  cond (decide ((i : Int) < a.len)) (
  IX a i 1 fun (px20 : Addr) =>
  LD [.sl] px20 w1 fun (x21 : Sl) =>
  Calls Try.prog F.l_szIntS #[x21.v, .int .i64 left_2] w1 (Ret [.at (.int .i64)] fun (x23 : Int) w2 =>
  cond (decide ((x23 : Int) < 0)) (
  Q (-1) w2) (
  I5 x23 (IntKind.i64.wrap (i + 1)) w2 ∧ m5 x23 (IntKind.i64.wrap (i + 1)) w2 < m5 left_2 i w1))) (
  Q left_2 w1))

theorem C_l_szIntSS {Q : Int → World → Prop} {a : Sl} {left : Int} {w : World} (h : V_l_szIntSS Q a left w) : Calls Try.prog F.l_szIntSS #[a.v, .int .i64 left] w (Ret [.at (.int .i64)] Q) :=
  mkC (hint := hint) (ann := annOf [(5, ⟨[(1, .int .i64), (5, .int .i64)], [4, 12, 13, 14, 15, 16, 17, 18, 19, 20, 21, 22, 23, 24, 25]⟩)]) (args := [a.v, .int .i64 left]) (rs := [.at (.int .i64)]) Try.func14 (by kernel_rfl) (by kernel_rfl) h

def V_s_IsEdgeColouring (Q : Bool → Bool → World → Prop) (n_0 : Sl) (n_1 : Sl) (n_2 : Sl) (l : Sl) (w : World) : Prop :=
  NEW T.t_i_Network #[n_0.v, n_1.v, n_2.v] w fun (p_n : Addr) w1 =>
  LD [.sl, .sl, .sl] p_n w1 fun (x6_0 : Sl) (x6_1 : Sl) (x6_2 : Sl) =>
  Calls Try.prog F.s_neGood #[.agg #[x6_0.v, x6_1.v, x6_2.v]] w1 (Ret [.at .bool] fun (x7 : Bool) w2 =>
  cond (!x7) (
  Q false false w2) (
  LD [.sl, .sl, .sl] p_n w2 fun (x9_0 : Sl) (x9_1 : Sl) (x9_2 : Sl) =>
  Calls Try.prog F.s_clEdges #[.agg #[x9_0.v, x9_1.v, x9_2.v], l.v] w2 (Ret [.at .bool] fun (x11 : Bool) w3 =>
  Q x11 true w3)))

theorem C_s_IsEdgeColouring {Q : Bool → Bool → World → Prop} {n_0 : Sl} {n_1 : Sl} {n_2 : Sl} {l : Sl} {w : World} (h : V_s_IsEdgeColouring Q n_0 n_1 n_2 l w) : Calls Try.prog F.s_IsEdgeColouring #[.agg #[n_0.v, n_1.v, n_2.v], l.v] w (Ret [.at .bool, .at .bool] Q) :=
  mkC (hint := hint) (ann := annOf []) (args := [.agg #[n_0.v, n_1.v, n_2.v], l.v]) (rs := [.at .bool, .at .bool]) Try.func15 (by kernel_rfl) (by kernel_rfl) h

def V_l_toNetwork (Q : Sl → Sl → Sl → World → Prop) (a_0 : Sl) (a_1 : Sl) (a_2 : Sl) (w : World) : Prop :=
  NEW T.t_l_Network #[a_0.v, a_1.v, a_2.v] w fun (p_a : Addr) w1 =>
  NEW T.t_i_Network #[.slice none 0 0, .slice none 0 0, .slice none 0 0] w1 fun (px2 : Addr) w2 =>
  NEW T.t_i_Network #[.slice none 0 0, .slice none 0 0, .slice none 0 0] w2 fun (p_out : Addr) w3 =>
  LD [.sl] (p_a.add 0) w3 fun (x5 : Sl) =>
  Calls Try.prog F.l_toEndSS #[x5.v] w3 (Ret [.at .sl] fun (x6 : Sl) w4 =>
  ST (p_out.add 0) 0 [x6.v] w4 fun w5 =>
  LD [.sl] (p_a.add 1) w5 fun (x9 : Sl) =>
  Calls Try.prog F.l_toIntS #[x9.v] w5 (Ret [.at .sl] fun (x10 : Sl) w6 =>
  ST (p_out.add 1) 0 [x10.v] w6 fun w7 =>
  LD [.sl] (p_a.add 2) w7 fun (x13 : Sl) =>
  Calls Try.prog F.l_toIntS #[x13.v] w7 (Ret [.at .sl] fun (x14 : Sl) w8 =>
  ST (p_out.add 2) 0 [x14.v] w8 fun w9 =>
  LD [.sl, .sl, .sl] p_out w9 fun (x16_0 : Sl) (x16_1 : Sl) (x16_2 : Sl) =>
  ST px2 0 [x16_0.v, x16_1.v, x16_2.v] w9 fun w10 =>
  LD [.sl, .sl, .sl] px2 w10 fun (r0_0 : Sl) (r0_1 : Sl) (r0_2 : Sl) =>
  Q r0_0 r0_1 r0_2 w10)))

theorem C_l_toNetwork {Q : Sl → Sl → Sl → World → Prop} {a_0 : Sl} {a_1 : Sl} {a_2 : Sl} {w : World} (h : V_l_toNetwork Q a_0 a_1 a_2 w) : Calls Try.prog F.l_toNetwork #[.agg #[a_0.v, a_1.v, a_2.v]] w (Ret [.agg [.sl, .sl, .sl]] Q) :=
  mkC (hint := hint) (ann := annOf []) (args := [.agg #[a_0.v, a_1.v, a_2.v]]) (rs := [.agg [.sl, .sl, .sl]]) Try.func16 (by kernel_rfl) (by kernel_rfl) h

def V_l_toIntSS (Q : Sl → World → Prop) (a : Sl) (w : World) : Prop :=
  RUN Try.prog (.at .sl) (Instr.makeSlice T.t_sl_sl_int (.int .i64 a.len) (.int .i64 a.len)) w fun (x7 : Sl) w1 =>
  ∃ (I3 : Int → World → Prop) (m3 : Int → World → Nat), I3 0 w1 ∧ ∀ (i : Int) w2, I3 i w2 → ∀ _ _ _ _ _ _ _ _ _ _ _ _ _ _ : Value,
  cond (decide ((i : Int) < a.len)) (
  IX a i 1 fun (px18 : Addr) =>
  LD [.sl] px18 w2 fun (x19 : Sl) =>
  Calls Try.prog F.l_toIntS #[x19.v] w2 (Ret [.at .sl] fun (x20 : Sl) w3 =>
  IX x7 i 1 fun (px21 : Addr) =>
  ST px21 0 [x20.v] w3 fun w4 =>
  I3 (IntKind.i64.wrap (i + 1)) w4 ∧ m3 (IntKind.i64.wrap (i + 1)) w4 < m3 i w2)) (
  Q x7 w2)

theorem C_l_toIntSS {Q : Sl → World → Prop} {a : Sl} {w : World} (h : V_l_toIntSS Q a w) : Calls Try.prog F.l_toIntSS #[a.v] w (Ret [.at .sl] Q) :=
  mkC (hint := hint) (ann := annOf [(3, ⟨[(4, .int .i64)], [8, 9, 10, 11, 12, 13, 14, 15, 16, 17, 18, 19, 20, 21]⟩)]) (args := [a.v]) (rs := [.at .sl]) Try.func17 (by kernel_rfl) (by kernel_rfl) h

def V_i_IsEdgeColouring (Q : Bool → Bool → World → Prop) (n_0 : Sl) (n_1 : Sl) (n_2 : Sl) (l : Sl) (w : World) : Prop :=
  NEW T.t_i_Network #[n_0.v, n_1.v, n_2.v] w fun (p_n : Addr) w1 =>
  LD [.sl, .sl, .sl] p_n w1 fun (x6_0 : Sl) (x6_1 : Sl) (x6_2 : Sl) =>
  Calls Try.prog F.i_IsNetwork #[.agg #[x6_0.v, x6_1.v, x6_2.v]] w1 (Ret [.at .bool] fun (x7 : Bool) w2 =>
  cond (!x7) (
  Q false false w2) (
  LD [.sl, .sl, .sl] p_n w2 fun (x9_0 : Sl) (x9_1 : Sl) (x9_2 : Sl) =>
  Calls Try.prog F.i_isEdgeColouring #[.agg #[x9_0.v, x9_1.v, x9_2.v], l.v] w2 (Ret [.at .bool] fun (x11 : Bool) w3 =>
  Q x11 true w3)))

theorem C_i_IsEdgeColouring {Q : Bool → Bool → World → Prop} {n_0 : Sl} {n_1 : Sl} {n_2 : Sl} {l : Sl} {w : World} (h : V_i_IsEdgeColouring Q n_0 n_1 n_2 l w) : Calls Try.prog F.i_IsEdgeColouring #[.agg #[n_0.v, n_1.v, n_2.v], l.v] w (Ret [.at .bool, .at .bool] Q) :=
  mkC (hint := hint) (ann := annOf []) (args := [.agg #[n_0.v, n_1.v, n_2.v], l.v]) (rs := [.at .bool, .at .bool]) Try.func18 (by kernel_rfl) (by kernel_rfl) h

def V_l_eqNetwork (Q : Bool → World → Prop) (a_0 : Sl) (a_1 : Sl) (a_2 : Sl) (b_0 : Sl) (b_1 : Sl) (b_2 : Sl) (w : World) : Prop :=
  NEW T.t_i_Network #[a_0.v, a_1.v, a_2.v] w fun (p_a : Addr) w1 =>
  NEW T.t_i_Network #[b_0.v, b_1.v, b_2.v] w1 fun (p_b : Addr) w2 =>
  LD [.sl] (p_a.add 0) w2 fun (x6 : Sl) =>
  LD [.sl] (p_b.add 0) w2 fun (x8 : Sl) =>
  Calls Try.prog F.l_eqEndSS #[x6.v, x8.v] w2 (Ret [.at .bool] fun (x9 : Bool) w3 =>
  cond (!x9) (
  Q false w3) (
  LD [.sl] (p_a.add 1) w3 fun (x12 : Sl) =>
  LD [.sl] (p_b.add 1) w3 fun (x14 : Sl) =>
  Calls Try.prog F.l_eqIntS #[x12.v, x14.v] w3 (Ret [.at .bool] fun (x15 : Bool) w4 =>
  cond (!x15) (
  Q false w4) (
  LD [.sl] (p_a.add 2) w4 fun (x18 : Sl) =>
  LD [.sl] (p_b.add 2) w4 fun (x20 : Sl) =>
  Calls Try.prog F.l_eqIntS #[x18.v, x20.v] w4 (Ret [.at .bool] fun (x21 : Bool) w5 =>
  cond (!x21) (
  Q false w5) (
  Q true w5))))))

theorem C_l_eqNetwork {Q : Bool → World → Prop} {a_0 : Sl} {a_1 : Sl} {a_2 : Sl} {b_0 : Sl} {b_1 : Sl} {b_2 : Sl} {w : World} (h : V_l_eqNetwork Q a_0 a_1 a_2 b_0 b_1 b_2 w) : Calls Try.prog F.l_eqNetwork #[.agg #[a_0.v, a_1.v, a_2.v], .agg #[b_0.v, b_1.v, b_2.v]] w (Ret [.at .bool] Q) :=
  mkC (hint := hint) (ann := annOf []) (args := [.agg #[a_0.v, a_1.v, a_2.v], .agg #[b_0.v, b_1.v, b_2.v]]) (rs := [.at .bool]) Try.func19 (by kernel_rfl) (by kernel_rfl) h

def V_l_eqIntSS (Q : Bool → World → Prop) (a : Sl) (b : Sl) (w : World) : Prop :=
  cond ((a.len : Int) != b.len) (
  Q false w) (
  ∃ (I4 : Int → World → Prop) (m4 : Int → World → Nat), I4 0 w ∧ ∀ (i : Int) w1, I4 i w1 → ∀ _ _ _ _ _ _ _ _ _ _ _ _ _ _ _ _ _ : Value,
  cond (decide ((i : Int) < a.len)) (
  IX a i 1 fun (px19 : Addr) =>
  LD [.sl] px19 w1 fun (x20 : Sl) =>
  IX b i 1 fun (px23 : Addr) =>
  LD [.sl] px23 w1 fun (x24 : Sl) =>
  QCALL Try.prog F.l_eqIntS #[x20.v, x24.v] w1 [.at .bool] fun (x25 : Bool) =>
  ∀ w2, Ext w1 w2 →
  cond (!x25) (
  Q false w2) (
  I4 (IntKind.i64.wrap (i + 1)) w2 ∧ m4 (IntKind.i64.wrap (i + 1)) w2 < m4 i w1)) (
  Q true w1))

theorem C_l_eqIntSS {Q : Bool → World → Prop} {a : Sl} {b : Sl} {w : World} (h : V_l_eqIntSS Q a b w) : Calls Try.prog F.l_eqIntSS #[a.v, b.v] w (Ret [.at .bool] Q) :=
  mkC (hint := hint) (ann := annOf [(4, ⟨[(5, .int .i64)], [4, 11, 12, 13, 14, 15, 16, 17, 18, 19, 20, 21, 22, 23, 24, 25, 26]⟩)]) (args := [a.v, b.v]) (rs := [.at .bool]) Try.func20 (by kernel_rfl) (by kernel_rfl) h

end Go.Proofs.Ytoeaoinedidbiaa
