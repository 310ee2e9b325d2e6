/- What each function's code computes to. Printed by a program. -/
import Derived.Test.YtghibjghjjnchaaNames
namespace Go.Proofs.Ytghibjghjjnchaa
open Go.GX Go.RowKit
set_option linter.unusedVariables false
set_option maxRecDepth 100000

def V_l_FnExactPolynomialParameters (Q : Bool → World → Prop) (aK : Int) (aA : Int) (w : World) : Prop :=
  Calls Try.prog F.s_PolynomialParameters #[.int .i64 aK, .int .i64 aA] w (Ret [.at (.int .i64), .at (.int .i64), .at .bool] fun (x14_0 : Int) (x14_1 : Int) (x14_2 : Bool) w1 =>
  Calls Try.prog F.i_PolynomialParameters #[.int .i64 aK, .int .i64 aA] w1 (Ret [.at (.int .i64), .at (.int .i64), .at .bool] fun (x21_0 : Int) (x21_1 : Int) (x21_2 : Bool) w2 =>
  cond ((x21_0 : Int) != x14_0) (
  Q false w2) (
  cond ((x21_1 : Int) != x14_1) (
  Q false w2) (
  cond (!(x21_2 == x14_2)) (
  Q false w2) (
  Q true w2)))))

theorem C_l_FnExactPolynomialParameters {Q : Bool → World → Prop} {aK : Int} {aA : Int} {w : World} (h : V_l_FnExactPolynomialParameters Q aK aA w) : Calls Try.prog F.l_FnExactPolynomialParameters #[.int .i64 aK, .int .i64 aA] w (Ret [.at .bool] Q) :=
  mkC (hint := hint) (ann := annOf []) (args := [.int .i64 aK, .int .i64 aA]) (rs := [.at .bool]) Try.func3 (by kernel_rfl) (by kernel_rfl) h

def V_l_FnExactCountColours (Q : Bool → World → Prop) (aColours : Sl) (w : World) : Prop :=
  cond (decide ((aColours.len : Int) > 1048576)) (
  Q true w) (
  Calls Try.prog F.l_toIntS #[aColours.v] w (Ret [.at .sl] fun (x13 : Sl) w1 =>
  Calls Try.prog F.s_CountColours #[x13.v] w1 (Ret [.at (.int .i64), .at .bool] fun (x14_0 : Int) (x14_1 : Bool) w2 =>
  Calls Try.prog F.l_toIntS #[aColours.v] w2 (Ret [.at .sl] fun (x18 : Sl) w3 =>
  Calls Try.prog F.i_CountColours #[x18.v] w3 (Ret [.at (.int .i64), .at .bool] fun (x21_0 : Int) (x21_1 : Bool) w4 =>
  cond ((x21_0 : Int) != x14_0) (
  Q false w4) (
  cond (!(x21_1 == x14_1)) (
  Q false w4) (
  Calls Try.prog F.l_toIntS #[aColours.v] w4 (Ret [.at .sl] fun (x34_2 : Sl) w7 =>
  Calls Try.prog F.l_eqIntS #[x18.v, x34_2.v] w7 (Ret [.at .bool] fun (x35_2 : Bool) w8 =>
  cond (!x35_2) (
  Q false w8) (
  Q true w8))))))))))

theorem C_l_FnExactCountColours {Q : Bool → World → Prop} {aColours : Sl} {w : World} (h : V_l_FnExactCountColours Q aColours w) : Calls Try.prog F.l_FnExactCountColours #[aColours.v] w (Ret [.at .bool] Q) :=
  mkC (hint := hint) (ann := annOf []) (args := [aColours.v]) (rs := [.at .bool]) Try.func4 (by kernel_rfl) (by kernel_rfl) h

def V_l_FnExactIsMatching_k3 (aM : Sl) (Q : Bool → World → Prop) (p_aN : Addr) (px0 : Addr) (x31 : Sl) (w11 : World) : Prop :=
  ∀ w12, Ext w11 w12 → w12.heap = w11.heap →
  LD [.sl, .sl, .sl] px0 w12 fun (x46_0 : Sl) (x46_1 : Sl) (x46_2 : Sl) =>
  LD [.sl, .sl, .sl] p_aN w12 fun (x47_0 : Sl) (x47_1 : Sl) (x47_2 : Sl) =>
  Ext w12 w12 ∧ (
  Calls Try.prog F.l_toNetwork #[.agg #[x47_0.v, x47_1.v, x47_2.v]] w12 (Ret [.agg [.sl, .sl, .sl]] fun (x48_0 : Sl) (x48_1 : Sl) (x48_2 : Sl) w13 =>
  Ext w12 w13 ∧ (
  Calls Try.prog F.l_eqNetwork #[.agg #[x46_0.v, x46_1.v, x46_2.v], .agg #[x48_0.v, x48_1.v, x48_2.v]] w13 (Ret [.at .bool] fun (x49 : Bool) w14 =>
  Ext w12 w14 ∧ (
  cond (!x49) (
  Q false w14) (
  Calls Try.prog F.l_toIntS #[aM.v] w14 (Ret [.at .sl] fun (x53 : Sl) w15 =>
  Calls Try.prog F.l_eqIntS #[x31.v, x53.v] w15 (Ret [.at .bool] fun (x54 : Bool) w16 =>
  cond (!x54) (
  Q false w16) (
  Q true w16)))))))))

def V_l_FnExactIsMatching (Q : Bool → World → Prop) (aN_0 : Sl) (aN_1 : Sl) (aN_2 : Sl) (aM : Sl) (w : World) : Prop :=
  NEW T.t_l_Network #[aN_0.v, aN_1.v, aN_2.v] w fun (p_aN : Addr) w1 =>
  cond (decide ((aM.len : Int) > 1048576)) (
  Q true w1) (
  LD [.sl, .sl, .sl] p_aN w1 fun (x15_0 : Sl) (x15_1 : Sl) (x15_2 : Sl) =>
  Calls Try.prog F.l_szNetwork #[.agg #[x15_0.v, x15_1.v, x15_2.v], .int .i64 1048576] w1 (Ret [.at (.int .i64)] fun (x17 : Int) w2 =>
  cond (decide ((x17 : Int) < 0)) (
  Q true w2) (
  LD [.sl, .sl, .sl] p_aN w2 fun (x21_0 : Sl) (x21_1 : Sl) (x21_2 : Sl) =>
  Calls Try.prog F.l_toNetwork #[.agg #[x21_0.v, x21_1.v, x21_2.v]] w2 (Ret [.agg [.sl, .sl, .sl]] fun (x22_0 : Sl) (x22_1 : Sl) (x22_2 : Sl) w3 =>
  Calls Try.prog F.l_toIntS #[aM.v] w3 (Ret [.at .sl] fun (x24 : Sl) w4 =>
  Calls Try.prog F.s_IsMatching #[.agg #[x22_0.v, x22_1.v, x22_2.v], x24.v] w4 (Ret [.at .bool, .at .bool] fun (x25_0 : Bool) (x25_1 : Bool) w5 =>
  LD [.sl, .sl, .sl] p_aN w5 fun (x28_0 : Sl) (x28_1 : Sl) (x28_2 : Sl) =>
  Calls Try.prog F.l_toNetwork #[.agg #[x28_0.v, x28_1.v, x28_2.v]] w5 (Ret [.agg [.sl, .sl, .sl]] fun (x29_0 : Sl) (x29_1 : Sl) (x29_2 : Sl) w6 =>
  NEW T.t_i_Network #[.slice none 0 0, .slice none 0 0, .slice none 0 0] w6 fun (px0 : Addr) w7 =>
  ST px0 0 [x29_0.v, x29_1.v, x29_2.v] w7 fun w8 =>
  Calls Try.prog F.l_toIntS #[aM.v] w8 (Ret [.at .sl] fun (x31 : Sl) w9 =>
  LD [.sl, .sl, .sl] px0 w9 fun (x33_0 : Sl) (x33_1 : Sl) (x33_2 : Sl) =>
  Calls Try.prog F.i_IsMatching #[.agg #[x33_0.v, x33_1.v, x33_2.v], x31.v] w9 (Ret [.at .bool, .at .bool] fun (x35_0 : Bool) (x35_1 : Bool) w10 =>
  cond (!(x35_0 == x25_0)) (
  Q false w10) (
  cond (!(x35_1 == x25_1)) (
  Q false w10) (
  V_l_FnExactIsMatching_k3 aM Q p_aN px0 x31 w10)))))))))))

theorem C_l_FnExactIsMatching {Q : Bool → World → Prop} {aN_0 : Sl} {aN_1 : Sl} {aN_2 : Sl} {aM : Sl} {w : World} (h : V_l_FnExactIsMatching Q aN_0 aN_1 aN_2 aM w) : Calls Try.prog F.l_FnExactIsMatching #[.agg #[aN_0.v, aN_1.v, aN_2.v], aM.v] w (Ret [.at .bool] Q) :=
  mkC (hint := hint) (ann := annOf []) (args := [.agg #[aN_0.v, aN_1.v, aN_2.v], aM.v]) (rs := [.at .bool]) Try.func5 (by kernel_rfl) (by kernel_rfl) h

def V_l_FnExactIsColouring_k3 (aColours : Sl) (Q : Bool → World → Prop) (p_aN : Addr) (px0 : Addr) (x31 : Sl) (w11 : World) : Prop :=
  ∀ w12, Ext w11 w12 → w12.heap = w11.heap →
  LD [.sl, .sl, .sl] px0 w12 fun (x46_0 : Sl) (x46_1 : Sl) (x46_2 : Sl) =>
  LD [.sl, .sl, .sl] p_aN w12 fun (x47_0 : Sl) (x47_1 : Sl) (x47_2 : Sl) =>
  Ext w12 w12 ∧ (
  Calls Try.prog F.l_toNetwork #[.agg #[x47_0.v, x47_1.v, x47_2.v]] w12 (Ret [.agg [.sl, .sl, .sl]] fun (x48_0 : Sl) (x48_1 : Sl) (x48_2 : Sl) w13 =>
  Ext w12 w13 ∧ (
  Calls Try.prog F.l_eqNetwork #[.agg #[x46_0.v, x46_1.v, x46_2.v], .agg #[x48_0.v, x48_1.v, x48_2.v]] w13 (Ret [.at .bool] fun (x49 : Bool) w14 =>
  Ext w12 w14 ∧ (
  cond (!x49) (
  Q false w14) (
  Calls Try.prog F.l_toIntS #[aColours.v] w14 (Ret [.at .sl] fun (x53 : Sl) w15 =>
  Calls Try.prog F.l_eqIntS #[x31.v, x53.v] w15 (Ret [.at .bool] fun (x54 : Bool) w16 =>
  cond (!x54) (
  Q false w16) (
  Q true w16)))))))))

def V_l_FnExactIsColouring (Q : Bool → World → Prop) (aN_0 : Sl) (aN_1 : Sl) (aN_2 : Sl) (aColours : Sl) (w : World) : Prop :=
  NEW T.t_l_Network #[aN_0.v, aN_1.v, aN_2.v] w fun (p_aN : Addr) w1 =>
  cond (decide ((aColours.len : Int) > 1048576)) (
  Q true w1) (
  LD [.sl, .sl, .sl] p_aN w1 fun (x15_0 : Sl) (x15_1 : Sl) (x15_2 : Sl) =>
  Calls Try.prog F.l_szNetwork #[.agg #[x15_0.v, x15_1.v, x15_2.v], .int .i64 1048576] w1 (Ret [.at (.int .i64)] fun (x17 : Int) w2 =>
  cond (decide ((x17 : Int) < 0)) (
  Q true w2) (
  LD [.sl, .sl, .sl] p_aN w2 fun (x21_0 : Sl) (x21_1 : Sl) (x21_2 : Sl) =>
  Calls Try.prog F.l_toNetwork #[.agg #[x21_0.v, x21_1.v, x21_2.v]] w2 (Ret [.agg [.sl, .sl, .sl]] fun (x22_0 : Sl) (x22_1 : Sl) (x22_2 : Sl) w3 =>
  Calls Try.prog F.l_toIntS #[aColours.v] w3 (Ret [.at .sl] fun (x24 : Sl) w4 =>
  Calls Try.prog F.s_IsColouring #[.agg #[x22_0.v, x22_1.v, x22_2.v], x24.v] w4 (Ret [.at .bool, .at .bool] fun (x25_0 : Bool) (x25_1 : Bool) w5 =>
  LD [.sl, .sl, .sl] p_aN w5 fun (x28_0 : Sl) (x28_1 : Sl) (x28_2 : Sl) =>
  Calls Try.prog F.l_toNetwork #[.agg #[x28_0.v, x28_1.v, x28_2.v]] w5 (Ret [.agg [.sl, .sl, .sl]] fun (x29_0 : Sl) (x29_1 : Sl) (x29_2 : Sl) w6 =>
  NEW T.t_i_Network #[.slice none 0 0, .slice none 0 0, .slice none 0 0] w6 fun (px0 : Addr) w7 =>
  ST px0 0 [x29_0.v, x29_1.v, x29_2.v] w7 fun w8 =>
  Calls Try.prog F.l_toIntS #[aColours.v] w8 (Ret [.at .sl] fun (x31 : Sl) w9 =>
  LD [.sl, .sl, .sl] px0 w9 fun (x33_0 : Sl) (x33_1 : Sl) (x33_2 : Sl) =>
  Calls Try.prog F.i_IsColouring #[.agg #[x33_0.v, x33_1.v, x33_2.v], x31.v] w9 (Ret [.at .bool, .at .bool] fun (x35_0 : Bool) (x35_1 : Bool) w10 =>
  cond (!(x35_0 == x25_0)) (
  Q false w10) (
  cond (!(x35_1 == x25_1)) (
  Q false w10) (
  V_l_FnExactIsColouring_k3 aColours Q p_aN px0 x31 w10)))))))))))

theorem C_l_FnExactIsColouring {Q : Bool → World → Prop} {aN_0 : Sl} {aN_1 : Sl} {aN_2 : Sl} {aColours : Sl} {w : World} (h : V_l_FnExactIsColouring Q aN_0 aN_1 aN_2 aColours w) : Calls Try.prog F.l_FnExactIsColouring #[.agg #[aN_0.v, aN_1.v, aN_2.v], aColours.v] w (Ret [.at .bool] Q) :=
  mkC (hint := hint) (ann := annOf []) (args := [.agg #[aN_0.v, aN_1.v, aN_2.v], aColours.v]) (rs := [.at .bool]) Try.func6 (by kernel_rfl) (by kernel_rfl) h

def V_l_FnExactIsDefective_k3 (aColours : Sl) (Q : Bool → World → Prop) (p_aN : Addr) (px0 : Addr) (x34 : Sl) (w11 : World) : Prop :=
  ∀ w12, Ext w11 w12 → w12.heap = w11.heap →
  LD [.sl, .sl, .sl] px0 w12 fun (x50_0 : Sl) (x50_1 : Sl) (x50_2 : Sl) =>
  LD [.sl, .sl, .sl] p_aN w12 fun (x51_0 : Sl) (x51_1 : Sl) (x51_2 : Sl) =>
  Ext w12 w12 ∧ (
  Calls Try.prog F.l_toNetwork #[.agg #[x51_0.v, x51_1.v, x51_2.v]] w12 (Ret [.agg [.sl, .sl, .sl]] fun (x52_0 : Sl) (x52_1 : Sl) (x52_2 : Sl) w13 =>
  Ext w12 w13 ∧ (
  Calls Try.prog F.l_eqNetwork #[.agg #[x50_0.v, x50_1.v, x50_2.v], .agg #[x52_0.v, x52_1.v, x52_2.v]] w13 (Ret [.at .bool] fun (x53 : Bool) w14 =>
  Ext w12 w14 ∧ (
  cond (!x53) (
  Q false w14) (
  Calls Try.prog F.l_toIntS #[aColours.v] w14 (Ret [.at .sl] fun (x57 : Sl) w15 =>
  Calls Try.prog F.l_eqIntS #[x34.v, x57.v] w15 (Ret [.at .bool] fun (x58 : Bool) w16 =>
  cond (!x58) (
  Q false w16) (
  Q true w16)))))))))

def V_l_FnExactIsDefective (Q : Bool → World → Prop) (aN_0 : Sl) (aN_1 : Sl) (aN_2 : Sl) (aColours : Sl) (aD : Int) (w : World) : Prop :=
  NEW T.t_l_Network #[aN_0.v, aN_1.v, aN_2.v] w fun (p_aN : Addr) w1 =>
  cond (decide ((aColours.len : Int) > 1048576)) (
  Q true w1) (
  LD [.sl, .sl, .sl] p_aN w1 fun (x17_0 : Sl) (x17_1 : Sl) (x17_2 : Sl) =>
  Calls Try.prog F.l_szNetwork #[.agg #[x17_0.v, x17_1.v, x17_2.v], .int .i64 1048576] w1 (Ret [.at (.int .i64)] fun (x19 : Int) w2 =>
  cond (decide ((x19 : Int) < 0)) (
  Q true w2) (
  LD [.sl, .sl, .sl] p_aN w2 fun (x23_0 : Sl) (x23_1 : Sl) (x23_2 : Sl) =>
  Calls Try.prog F.l_toNetwork #[.agg #[x23_0.v, x23_1.v, x23_2.v]] w2 (Ret [.agg [.sl, .sl, .sl]] fun (x24_0 : Sl) (x24_1 : Sl) (x24_2 : Sl) w3 =>
  Calls Try.prog F.l_toIntS #[aColours.v] w3 (Ret [.at .sl] fun (x26 : Sl) w4 =>
  Calls Try.prog F.s_IsDefective #[.agg #[x24_0.v, x24_1.v, x24_2.v], x26.v, .int .i64 aD] w4 (Ret [.at .bool, .at .bool] fun (x28_0 : Bool) (x28_1 : Bool) w5 =>
  LD [.sl, .sl, .sl] p_aN w5 fun (x31_0 : Sl) (x31_1 : Sl) (x31_2 : Sl) =>
  Calls Try.prog F.l_toNetwork #[.agg #[x31_0.v, x31_1.v, x31_2.v]] w5 (Ret [.agg [.sl, .sl, .sl]] fun (x32_0 : Sl) (x32_1 : Sl) (x32_2 : Sl) w6 =>
  NEW T.t_i_Network #[.slice none 0 0, .slice none 0 0, .slice none 0 0] w6 fun (px0 : Addr) w7 =>
  ST px0 0 [x32_0.v, x32_1.v, x32_2.v] w7 fun w8 =>
  Calls Try.prog F.l_toIntS #[aColours.v] w8 (Ret [.at .sl] fun (x34 : Sl) w9 =>
  LD [.sl, .sl, .sl] px0 w9 fun (x36_0 : Sl) (x36_1 : Sl) (x36_2 : Sl) =>
  Calls Try.prog F.i_IsDefective #[.agg #[x36_0.v, x36_1.v, x36_2.v], x34.v, .int .i64 aD] w9 (Ret [.at .bool, .at .bool] fun (x39_0 : Bool) (x39_1 : Bool) w10 =>
  cond (!(x39_0 == x28_0)) (
  Q false w10) (
  cond (!(x39_1 == x28_1)) (
  Q false w10) (
  V_l_FnExactIsDefective_k3 aColours Q p_aN px0 x34 w10)))))))))))

theorem C_l_FnExactIsDefective {Q : Bool → World → Prop} {aN_0 : Sl} {aN_1 : Sl} {aN_2 : Sl} {aColours : Sl} {aD : Int} {w : World} (h : V_l_FnExactIsDefective Q aN_0 aN_1 aN_2 aColours aD w) : Calls Try.prog F.l_FnExactIsDefective #[.agg #[aN_0.v, aN_1.v, aN_2.v], aColours.v, .int .i64 aD] w (Ret [.at .bool] Q) :=
  mkC (hint := hint) (ann := annOf []) (args := [.agg #[aN_0.v, aN_1.v, aN_2.v], aColours.v, .int .i64 aD]) (rs := [.at .bool]) Try.func7 (by kernel_rfl) (by kernel_rfl) h

def V_l_FnExactIsWeak_k3 (aColours : Sl) (Q : Bool → World → Prop) (p_aN : Addr) (px0 : Addr) (x31 : Sl) (w11 : World) : Prop :=
  ∀ w12, Ext w11 w12 → w12.heap = w11.heap →
  LD [.sl, .sl, .sl] px0 w12 fun (x46_0 : Sl) (x46_1 : Sl) (x46_2 : Sl) =>
  LD [.sl, .sl, .sl] p_aN w12 fun (x47_0 : Sl) (x47_1 : Sl) (x47_2 : Sl) =>
  Ext w12 w12 ∧ (
  Calls Try.prog F.l_toNetwork #[.agg #[x47_0.v, x47_1.v, x47_2.v]] w12 (Ret [.agg [.sl, .sl, .sl]] fun (x48_0 : Sl) (x48_1 : Sl) (x48_2 : Sl) w13 =>
  Ext w12 w13 ∧ (
  Calls Try.prog F.l_eqNetwork #[.agg #[x46_0.v, x46_1.v, x46_2.v], .agg #[x48_0.v, x48_1.v, x48_2.v]] w13 (Ret [.at .bool] fun (x49 : Bool) w14 =>
  Ext w12 w14 ∧ (
  cond (!x49) (
  Q false w14) (
  Calls Try.prog F.l_toIntS #[aColours.v] w14 (Ret [.at .sl] fun (x53 : Sl) w15 =>
  Calls Try.prog F.l_eqIntS #[x31.v, x53.v] w15 (Ret [.at .bool] fun (x54 : Bool) w16 =>
  cond (!x54) (
  Q false w16) (
  Q true w16)))))))))

def V_l_FnExactIsWeak (Q : Bool → World → Prop) (aN_0 : Sl) (aN_1 : Sl) (aN_2 : Sl) (aColours : Sl) (w : World) : Prop :=
  NEW T.t_l_Network #[aN_0.v, aN_1.v, aN_2.v] w fun (p_aN : Addr) w1 =>
  cond (decide ((aColours.len : Int) > 1048576)) (
  Q true w1) (
  LD [.sl, .sl, .sl] p_aN w1 fun (x15_0 : Sl) (x15_1 : Sl) (x15_2 : Sl) =>
  Calls Try.prog F.l_szNetwork #[.agg #[x15_0.v, x15_1.v, x15_2.v], .int .i64 1048576] w1 (Ret [.at (.int .i64)] fun (x17 : Int) w2 =>
  cond (decide ((x17 : Int) < 0)) (
  Q true w2) (
  LD [.sl, .sl, .sl] p_aN w2 fun (x21_0 : Sl) (x21_1 : Sl) (x21_2 : Sl) =>
  Calls Try.prog F.l_toNetwork #[.agg #[x21_0.v, x21_1.v, x21_2.v]] w2 (Ret [.agg [.sl, .sl, .sl]] fun (x22_0 : Sl) (x22_1 : Sl) (x22_2 : Sl) w3 =>
  Calls Try.prog F.l_toIntS #[aColours.v] w3 (Ret [.at .sl] fun (x24 : Sl) w4 =>
  Calls Try.prog F.s_IsWeak #[.agg #[x22_0.v, x22_1.v, x22_2.v], x24.v] w4 (Ret [.at .bool, .at .bool] fun (x25_0 : Bool) (x25_1 : Bool) w5 =>
  LD [.sl, .sl, .sl] p_aN w5 fun (x28_0 : Sl) (x28_1 : Sl) (x28_2 : Sl) =>
  Calls Try.prog F.l_toNetwork #[.agg #[x28_0.v, x28_1.v, x28_2.v]] w5 (Ret [.agg [.sl, .sl, .sl]] fun (x29_0 : Sl) (x29_1 : Sl) (x29_2 : Sl) w6 =>
  NEW T.t_i_Network #[.slice none 0 0, .slice none 0 0, .slice none 0 0] w6 fun (px0 : Addr) w7 =>
  ST px0 0 [x29_0.v, x29_1.v, x29_2.v] w7 fun w8 =>
  Calls Try.prog F.l_toIntS #[aColours.v] w8 (Ret [.at .sl] fun (x31 : Sl) w9 =>
  LD [.sl, .sl, .sl] px0 w9 fun (x33_0 : Sl) (x33_1 : Sl) (x33_2 : Sl) =>
  Calls Try.prog F.i_IsWeak #[.agg #[x33_0.v, x33_1.v, x33_2.v], x31.v] w9 (Ret [.at .bool, .at .bool] fun (x35_0 : Bool) (x35_1 : Bool) w10 =>
  cond (!(x35_0 == x25_0)) (
  Q false w10) (
  cond (!(x35_1 == x25_1)) (
  Q false w10) (
  V_l_FnExactIsWeak_k3 aColours Q p_aN px0 x31 w10)))))))))))

theorem C_l_FnExactIsWeak {Q : Bool → World → Prop} {aN_0 : Sl} {aN_1 : Sl} {aN_2 : Sl} {aColours : Sl} {w : World} (h : V_l_FnExactIsWeak Q aN_0 aN_1 aN_2 aColours w) : Calls Try.prog F.l_FnExactIsWeak #[.agg #[aN_0.v, aN_1.v, aN_2.v], aColours.v] w (Ret [.at .bool] Q) :=
  mkC (hint := hint) (ann := annOf []) (args := [.agg #[aN_0.v, aN_1.v, aN_2.v], aColours.v]) (rs := [.at .bool]) Try.func8 (by kernel_rfl) (by kernel_rfl) h

def V_l_FnExactMatchingSize_k3 (aM : Sl) (Q : Bool → World → Prop) (p_aN : Addr) (px0 : Addr) (x31 : Sl) (w11 : World) : Prop :=
  ∀ w12, Ext w11 w12 → w12.heap = w11.heap →
  LD [.sl, .sl, .sl] px0 w12 fun (x46_0 : Sl) (x46_1 : Sl) (x46_2 : Sl) =>
  LD [.sl, .sl, .sl] p_aN w12 fun (x47_0 : Sl) (x47_1 : Sl) (x47_2 : Sl) =>
  Ext w12 w12 ∧ (
  Calls Try.prog F.l_toNetwork #[.agg #[x47_0.v, x47_1.v, x47_2.v]] w12 (Ret [.agg [.sl, .sl, .sl]] fun (x48_0 : Sl) (x48_1 : Sl) (x48_2 : Sl) w13 =>
  Ext w12 w13 ∧ (
  Calls Try.prog F.l_eqNetwork #[.agg #[x46_0.v, x46_1.v, x46_2.v], .agg #[x48_0.v, x48_1.v, x48_2.v]] w13 (Ret [.at .bool] fun (x49 : Bool) w14 =>
  Ext w12 w14 ∧ (
  cond (!x49) (
  Q false w14) (
  Calls Try.prog F.l_toIntS #[aM.v] w14 (Ret [.at .sl] fun (x53 : Sl) w15 =>
  Calls Try.prog F.l_eqIntS #[x31.v, x53.v] w15 (Ret [.at .bool] fun (x54 : Bool) w16 =>
  cond (!x54) (
  Q false w16) (
  Q true w16)))))))))

def V_l_FnExactMatchingSize (Q : Bool → World → Prop) (aN_0 : Sl) (aN_1 : Sl) (aN_2 : Sl) (aM : Sl) (w : World) : Prop :=
  NEW T.t_l_Network #[aN_0.v, aN_1.v, aN_2.v] w fun (p_aN : Addr) w1 =>
  cond (decide ((aM.len : Int) > 1048576)) (
  Q true w1) (
  LD [.sl, .sl, .sl] p_aN w1 fun (x15_0 : Sl) (x15_1 : Sl) (x15_2 : Sl) =>
  Calls Try.prog F.l_szNetwork #[.agg #[x15_0.v, x15_1.v, x15_2.v], .int .i64 1048576] w1 (Ret [.at (.int .i64)] fun (x17 : Int) w2 =>
  cond (decide ((x17 : Int) < 0)) (
  Q true w2) (
  LD [.sl, .sl, .sl] p_aN w2 fun (x21_0 : Sl) (x21_1 : Sl) (x21_2 : Sl) =>
  Calls Try.prog F.l_toNetwork #[.agg #[x21_0.v, x21_1.v, x21_2.v]] w2 (Ret [.agg [.sl, .sl, .sl]] fun (x22_0 : Sl) (x22_1 : Sl) (x22_2 : Sl) w3 =>
  Calls Try.prog F.l_toIntS #[aM.v] w3 (Ret [.at .sl] fun (x24 : Sl) w4 =>
  Calls Try.prog F.s_MatchingSize #[.agg #[x22_0.v, x22_1.v, x22_2.v], x24.v] w4 (Ret [.at (.int .i64), .at .bool] fun (x25_0 : Int) (x25_1 : Bool) w5 =>
  LD [.sl, .sl, .sl] p_aN w5 fun (x28_0 : Sl) (x28_1 : Sl) (x28_2 : Sl) =>
  Calls Try.prog F.l_toNetwork #[.agg #[x28_0.v, x28_1.v, x28_2.v]] w5 (Ret [.agg [.sl, .sl, .sl]] fun (x29_0 : Sl) (x29_1 : Sl) (x29_2 : Sl) w6 =>
  NEW T.t_i_Network #[.slice none 0 0, .slice none 0 0, .slice none 0 0] w6 fun (px0 : Addr) w7 =>
  ST px0 0 [x29_0.v, x29_1.v, x29_2.v] w7 fun w8 =>
  Calls Try.prog F.l_toIntS #[aM.v] w8 (Ret [.at .sl] fun (x31 : Sl) w9 =>
  LD [.sl, .sl, .sl] px0 w9 fun (x33_0 : Sl) (x33_1 : Sl) (x33_2 : Sl) =>
  Calls Try.prog F.i_MatchingSize #[.agg #[x33_0.v, x33_1.v, x33_2.v], x31.v] w9 (Ret [.at (.int .i64), .at .bool] fun (x35_0 : Int) (x35_1 : Bool) w10 =>
  cond ((x35_0 : Int) != x25_0) (
  Q false w10) (
  cond (!(x35_1 == x25_1)) (
  Q false w10) (
  V_l_FnExactMatchingSize_k3 aM Q p_aN px0 x31 w10)))))))))))

theorem C_l_FnExactMatchingSize {Q : Bool → World → Prop} {aN_0 : Sl} {aN_1 : Sl} {aN_2 : Sl} {aM : Sl} {w : World} (h : V_l_FnExactMatchingSize Q aN_0 aN_1 aN_2 aM w) : Calls Try.prog F.l_FnExactMatchingSize #[.agg #[aN_0.v, aN_1.v, aN_2.v], aM.v] w (Ret [.at .bool] Q) :=
  mkC (hint := hint) (ann := annOf []) (args := [.agg #[aN_0.v, aN_1.v, aN_2.v], aM.v]) (rs := [.at .bool]) Try.func9 (by kernel_rfl) (by kernel_rfl) h

def V_l_FnExactIsIndependent_k3 (aSet : Sl) (Q : Bool → World → Prop) (p_aN : Addr) (px0 : Addr) (x31 : Sl) (w11 : World) : Prop :=
  ∀ w12, Ext w11 w12 → w12.heap = w11.heap →
  LD [.sl, .sl, .sl] px0 w12 fun (x46_0 : Sl) (x46_1 : Sl) (x46_2 : Sl) =>
  LD [.sl, .sl, .sl] p_aN w12 fun (x47_0 : Sl) (x47_1 : Sl) (x47_2 : Sl) =>
  Ext w12 w12 ∧ (
  Calls Try.prog F.l_toNetwork #[.agg #[x47_0.v, x47_1.v, x47_2.v]] w12 (Ret [.agg [.sl, .sl, .sl]] fun (x48_0 : Sl) (x48_1 : Sl) (x48_2 : Sl) w13 =>
  Ext w12 w13 ∧ (
  Calls Try.prog F.l_eqNetwork #[.agg #[x46_0.v, x46_1.v, x46_2.v], .agg #[x48_0.v, x48_1.v, x48_2.v]] w13 (Ret [.at .bool] fun (x49 : Bool) w14 =>
  Ext w12 w14 ∧ (
  cond (!x49) (
  Q false w14) (
  Calls Try.prog F.l_toIntS #[aSet.v] w14 (Ret [.at .sl] fun (x53 : Sl) w15 =>
  Calls Try.prog F.l_eqIntS #[x31.v, x53.v] w15 (Ret [.at .bool] fun (x54 : Bool) w16 =>
  cond (!x54) (
  Q false w16) (
  Q true w16)))))))))

def V_l_FnExactIsIndependent (Q : Bool → World → Prop) (aN_0 : Sl) (aN_1 : Sl) (aN_2 : Sl) (aSet : Sl) (w : World) : Prop :=
  NEW T.t_l_Network #[aN_0.v, aN_1.v, aN_2.v] w fun (p_aN : Addr) w1 =>
  cond (decide ((aSet.len : Int) > 1048576)) (
  Q true w1) (
  LD [.sl, .sl, .sl] p_aN w1 fun (x15_0 : Sl) (x15_1 : Sl) (x15_2 : Sl) =>
  Calls Try.prog F.l_szNetwork #[.agg #[x15_0.v, x15_1.v, x15_2.v], .int .i64 1048576] w1 (Ret [.at (.int .i64)] fun (x17 : Int) w2 =>
  cond (decide ((x17 : Int) < 0)) (
  Q true w2) (
  LD [.sl, .sl, .sl] p_aN w2 fun (x21_0 : Sl) (x21_1 : Sl) (x21_2 : Sl) =>
  Calls Try.prog F.l_toNetwork #[.agg #[x21_0.v, x21_1.v, x21_2.v]] w2 (Ret [.agg [.sl, .sl, .sl]] fun (x22_0 : Sl) (x22_1 : Sl) (x22_2 : Sl) w3 =>
  Calls Try.prog F.l_toIntS #[aSet.v] w3 (Ret [.at .sl] fun (x24 : Sl) w4 =>
  Calls Try.prog F.s_IsIndependent #[.agg #[x22_0.v, x22_1.v, x22_2.v], x24.v] w4 (Ret [.at .bool, .at .bool] fun (x25_0 : Bool) (x25_1 : Bool) w5 =>
  LD [.sl, .sl, .sl] p_aN w5 fun (x28_0 : Sl) (x28_1 : Sl) (x28_2 : Sl) =>
  Calls Try.prog F.l_toNetwork #[.agg #[x28_0.v, x28_1.v, x28_2.v]] w5 (Ret [.agg [.sl, .sl, .sl]] fun (x29_0 : Sl) (x29_1 : Sl) (x29_2 : Sl) w6 =>
  NEW T.t_i_Network #[.slice none 0 0, .slice none 0 0, .slice none 0 0] w6 fun (px0 : Addr) w7 =>
  ST px0 0 [x29_0.v, x29_1.v, x29_2.v] w7 fun w8 =>
  Calls Try.prog F.l_toIntS #[aSet.v] w8 (Ret [.at .sl] fun (x31 : Sl) w9 =>
  LD [.sl, .sl, .sl] px0 w9 fun (x33_0 : Sl) (x33_1 : Sl) (x33_2 : Sl) =>
  Calls Try.prog F.i_IsIndependent #[.agg #[x33_0.v, x33_1.v, x33_2.v], x31.v] w9 (Ret [.at .bool, .at .bool] fun (x35_0 : Bool) (x35_1 : Bool) w10 =>
  cond (!(x35_0 == x25_0)) (
  Q false w10) (
  cond (!(x35_1 == x25_1)) (
  Q false w10) (
  V_l_FnExactIsIndependent_k3 aSet Q p_aN px0 x31 w10)))))))))))

theorem C_l_FnExactIsIndependent {Q : Bool → World → Prop} {aN_0 : Sl} {aN_1 : Sl} {aN_2 : Sl} {aSet : Sl} {w : World} (h : V_l_FnExactIsIndependent Q aN_0 aN_1 aN_2 aSet w) : Calls Try.prog F.l_FnExactIsIndependent #[.agg #[aN_0.v, aN_1.v, aN_2.v], aSet.v] w (Ret [.at .bool] Q) :=
  mkC (hint := hint) (ann := annOf []) (args := [.agg #[aN_0.v, aN_1.v, aN_2.v], aSet.v]) (rs := [.at .bool]) Try.func10 (by kernel_rfl) (by kernel_rfl) h

def V_l_FnExactIsVertexCover_k3 (aSet : Sl) (Q : Bool → World → Prop) (p_aN : Addr) (px0 : Addr) (x31 : Sl) (w11 : World) : Prop :=
  ∀ w12, Ext w11 w12 → w12.heap = w11.heap →
  LD [.sl, .sl, .sl] px0 w12 fun (x46_0 : Sl) (x46_1 : Sl) (x46_2 : Sl) =>
  LD [.sl, .sl, .sl] p_aN w12 fun (x47_0 : Sl) (x47_1 : Sl) (x47_2 : Sl) =>
  Ext w12 w12 ∧ (
  Calls Try.prog F.l_toNetwork #[.agg #[x47_0.v, x47_1.v, x47_2.v]] w12 (Ret [.agg [.sl, .sl, .sl]] fun (x48_0 : Sl) (x48_1 : Sl) (x48_2 : Sl) w13 =>
  Ext w12 w13 ∧ (
  Calls Try.prog F.l_eqNetwork #[.agg #[x46_0.v, x46_1.v, x46_2.v], .agg #[x48_0.v, x48_1.v, x48_2.v]] w13 (Ret [.at .bool] fun (x49 : Bool) w14 =>
  Ext w12 w14 ∧ (
  cond (!x49) (
  Q false w14) (
  Calls Try.prog F.l_toIntS #[aSet.v] w14 (Ret [.at .sl] fun (x53 : Sl) w15 =>
  Calls Try.prog F.l_eqIntS #[x31.v, x53.v] w15 (Ret [.at .bool] fun (x54 : Bool) w16 =>
  cond (!x54) (
  Q false w16) (
  Q true w16)))))))))

def V_l_FnExactIsVertexCover (Q : Bool → World → Prop) (aN_0 : Sl) (aN_1 : Sl) (aN_2 : Sl) (aSet : Sl) (w : World) : Prop :=
  NEW T.t_l_Network #[aN_0.v, aN_1.v, aN_2.v] w fun (p_aN : Addr) w1 =>
  cond (decide ((aSet.len : Int) > 1048576)) (
  Q true w1) (
  LD [.sl, .sl, .sl] p_aN w1 fun (x15_0 : Sl) (x15_1 : Sl) (x15_2 : Sl) =>
  Calls Try.prog F.l_szNetwork #[.agg #[x15_0.v, x15_1.v, x15_2.v], .int .i64 1048576] w1 (Ret [.at (.int .i64)] fun (x17 : Int) w2 =>
  cond (decide ((x17 : Int) < 0)) (
  Q true w2) (
  LD [.sl, .sl, .sl] p_aN w2 fun (x21_0 : Sl) (x21_1 : Sl) (x21_2 : Sl) =>
  Calls Try.prog F.l_toNetwork #[.agg #[x21_0.v, x21_1.v, x21_2.v]] w2 (Ret [.agg [.sl, .sl, .sl]] fun (x22_0 : Sl) (x22_1 : Sl) (x22_2 : Sl) w3 =>
  Calls Try.prog F.l_toIntS #[aSet.v] w3 (Ret [.at .sl] fun (x24 : Sl) w4 =>
  Calls Try.prog F.s_IsVertexCover #[.agg #[x22_0.v, x22_1.v, x22_2.v], x24.v] w4 (Ret [.at .bool, .at .bool] fun (x25_0 : Bool) (x25_1 : Bool) w5 =>
  LD [.sl, .sl, .sl] p_aN w5 fun (x28_0 : Sl) (x28_1 : Sl) (x28_2 : Sl) =>
  Calls Try.prog F.l_toNetwork #[.agg #[x28_0.v, x28_1.v, x28_2.v]] w5 (Ret [.agg [.sl, .sl, .sl]] fun (x29_0 : Sl) (x29_1 : Sl) (x29_2 : Sl) w6 =>
  NEW T.t_i_Network #[.slice none 0 0, .slice none 0 0, .slice none 0 0] w6 fun (px0 : Addr) w7 =>
  ST px0 0 [x29_0.v, x29_1.v, x29_2.v] w7 fun w8 =>
  Calls Try.prog F.l_toIntS #[aSet.v] w8 (Ret [.at .sl] fun (x31 : Sl) w9 =>
  LD [.sl, .sl, .sl] px0 w9 fun (x33_0 : Sl) (x33_1 : Sl) (x33_2 : Sl) =>
  Calls Try.prog F.i_IsVertexCover #[.agg #[x33_0.v, x33_1.v, x33_2.v], x31.v] w9 (Ret [.at .bool, .at .bool] fun (x35_0 : Bool) (x35_1 : Bool) w10 =>
  cond (!(x35_0 == x25_0)) (
  Q false w10) (
  cond (!(x35_1 == x25_1)) (
  Q false w10) (
  V_l_FnExactIsVertexCover_k3 aSet Q p_aN px0 x31 w10)))))))))))

theorem C_l_FnExactIsVertexCover {Q : Bool → World → Prop} {aN_0 : Sl} {aN_1 : Sl} {aN_2 : Sl} {aSet : Sl} {w : World} (h : V_l_FnExactIsVertexCover Q aN_0 aN_1 aN_2 aSet w) : Calls Try.prog F.l_FnExactIsVertexCover #[.agg #[aN_0.v, aN_1.v, aN_2.v], aSet.v] w (Ret [.at .bool] Q) :=
  mkC (hint := hint) (ann := annOf []) (args := [.agg #[aN_0.v, aN_1.v, aN_2.v], aSet.v]) (rs := [.at .bool]) Try.func11 (by kernel_rfl) (by kernel_rfl) h

def V_l_FnExactIsMaximalMatching_k3 (aM : Sl) (Q : Bool → World → Prop) (p_aN : Addr) (px0 : Addr) (x31 : Sl) (w11 : World) : Prop :=
  ∀ w12, Ext w11 w12 → w12.heap = w11.heap →
  LD [.sl, .sl, .sl] px0 w12 fun (x46_0 : Sl) (x46_1 : Sl) (x46_2 : Sl) =>
  LD [.sl, .sl, .sl] p_aN w12 fun (x47_0 : Sl) (x47_1 : Sl) (x47_2 : Sl) =>
  Ext w12 w12 ∧ (
  Calls Try.prog F.l_toNetwork #[.agg #[x47_0.v, x47_1.v, x47_2.v]] w12 (Ret [.agg [.sl, .sl, .sl]] fun (x48_0 : Sl) (x48_1 : Sl) (x48_2 : Sl) w13 =>
  Ext w12 w13 ∧ (
  Calls Try.prog F.l_eqNetwork #[.agg #[x46_0.v, x46_1.v, x46_2.v], .agg #[x48_0.v, x48_1.v, x48_2.v]] w13 (Ret [.at .bool] fun (x49 : Bool) w14 =>
  Ext w12 w14 ∧ (
  cond (!x49) (
  Q false w14) (
  Calls Try.prog F.l_toIntS #[aM.v] w14 (Ret [.at .sl] fun (x53 : Sl) w15 =>
  Calls Try.prog F.l_eqIntS #[x31.v, x53.v] w15 (Ret [.at .bool] fun (x54 : Bool) w16 =>
  cond (!x54) (
  Q false w16) (
  Q true w16)))))))))

def V_l_FnExactIsMaximalMatching (Q : Bool → World → Prop) (aN_0 : Sl) (aN_1 : Sl) (aN_2 : Sl) (aM : Sl) (w : World) : Prop :=
  NEW T.t_l_Network #[aN_0.v, aN_1.v, aN_2.v] w fun (p_aN : Addr) w1 =>
  cond (decide ((aM.len : Int) > 1048576)) (
  Q true w1) (
  LD [.sl, .sl, .sl] p_aN w1 fun (x15_0 : Sl) (x15_1 : Sl) (x15_2 : Sl) =>
  Calls Try.prog F.l_szNetwork #[.agg #[x15_0.v, x15_1.v, x15_2.v], .int .i64 1048576] w1 (Ret [.at (.int .i64)] fun (x17 : Int) w2 =>
  cond (decide ((x17 : Int) < 0)) (
  Q true w2) (
  LD [.sl, .sl, .sl] p_aN w2 fun (x21_0 : Sl) (x21_1 : Sl) (x21_2 : Sl) =>
  Calls Try.prog F.l_toNetwork #[.agg #[x21_0.v, x21_1.v, x21_2.v]] w2 (Ret [.agg [.sl, .sl, .sl]] fun (x22_0 : Sl) (x22_1 : Sl) (x22_2 : Sl) w3 =>
  Calls Try.prog F.l_toIntS #[aM.v] w3 (Ret [.at .sl] fun (x24 : Sl) w4 =>
  Calls Try.prog F.s_IsMaximalMatching #[.agg #[x22_0.v, x22_1.v, x22_2.v], x24.v] w4 (Ret [.at .bool, .at .bool] fun (x25_0 : Bool) (x25_1 : Bool) w5 =>
  LD [.sl, .sl, .sl] p_aN w5 fun (x28_0 : Sl) (x28_1 : Sl) (x28_2 : Sl) =>
  Calls Try.prog F.l_toNetwork #[.agg #[x28_0.v, x28_1.v, x28_2.v]] w5 (Ret [.agg [.sl, .sl, .sl]] fun (x29_0 : Sl) (x29_1 : Sl) (x29_2 : Sl) w6 =>
  NEW T.t_i_Network #[.slice none 0 0, .slice none 0 0, .slice none 0 0] w6 fun (px0 : Addr) w7 =>
  ST px0 0 [x29_0.v, x29_1.v, x29_2.v] w7 fun w8 =>
  Calls Try.prog F.l_toIntS #[aM.v] w8 (Ret [.at .sl] fun (x31 : Sl) w9 =>
  LD [.sl, .sl, .sl] px0 w9 fun (x33_0 : Sl) (x33_1 : Sl) (x33_2 : Sl) =>
  Calls Try.prog F.i_IsMaximalMatching #[.agg #[x33_0.v, x33_1.v, x33_2.v], x31.v] w9 (Ret [.at .bool, .at .bool] fun (x35_0 : Bool) (x35_1 : Bool) w10 =>
  cond (!(x35_0 == x25_0)) (
  Q false w10) (
  cond (!(x35_1 == x25_1)) (
  Q false w10) (
  V_l_FnExactIsMaximalMatching_k3 aM Q p_aN px0 x31 w10)))))))))))

theorem C_l_FnExactIsMaximalMatching {Q : Bool → World → Prop} {aN_0 : Sl} {aN_1 : Sl} {aN_2 : Sl} {aM : Sl} {w : World} (h : V_l_FnExactIsMaximalMatching Q aN_0 aN_1 aN_2 aM w) : Calls Try.prog F.l_FnExactIsMaximalMatching #[.agg #[aN_0.v, aN_1.v, aN_2.v], aM.v] w (Ret [.at .bool] Q) :=
  mkC (hint := hint) (ann := annOf []) (args := [.agg #[aN_0.v, aN_1.v, aN_2.v], aM.v]) (rs := [.at .bool]) Try.func12 (by kernel_rfl) (by kernel_rfl) h

def V_l_FnExactIsMaximalIndependent_k3 (aSet : Sl) (Q : Bool → World → Prop) (p_aN : Addr) (px0 : Addr) (x31 : Sl) (w11 : World) : Prop :=
  ∀ w12, Ext w11 w12 → w12.heap = w11.heap →
  LD [.sl, .sl, .sl] px0 w12 fun (x46_0 : Sl) (x46_1 : Sl) (x46_2 : Sl) =>
  LD [.sl, .sl, .sl] p_aN w12 fun (x47_0 : Sl) (x47_1 : Sl) (x47_2 : Sl) =>
  Ext w12 w12 ∧ (
  Calls Try.prog F.l_toNetwork #[.agg #[x47_0.v, x47_1.v, x47_2.v]] w12 (Ret [.agg [.sl, .sl, .sl]] fun (x48_0 : Sl) (x48_1 : Sl) (x48_2 : Sl) w13 =>
  Ext w12 w13 ∧ (
  Calls Try.prog F.l_eqNetwork #[.agg #[x46_0.v, x46_1.v, x46_2.v], .agg #[x48_0.v, x48_1.v, x48_2.v]] w13 (Ret [.at .bool] fun (x49 : Bool) w14 =>
  Ext w12 w14 ∧ (
  cond (!x49) (
  Q false w14) (
  Calls Try.prog F.l_toIntS #[aSet.v] w14 (Ret [.at .sl] fun (x53 : Sl) w15 =>
  Calls Try.prog F.l_eqIntS #[x31.v, x53.v] w15 (Ret [.at .bool] fun (x54 : Bool) w16 =>
  cond (!x54) (
  Q false w16) (
  Q true w16)))))))))

def V_l_FnExactIsMaximalIndependent (Q : Bool → World → Prop) (aN_0 : Sl) (aN_1 : Sl) (aN_2 : Sl) (aSet : Sl) (w : World) : Prop :=
  NEW T.t_l_Network #[aN_0.v, aN_1.v, aN_2.v] w fun (p_aN : Addr) w1 =>
  cond (decide ((aSet.len : Int) > 1048576)) (
  Q true w1) (
  LD [.sl, .sl, .sl] p_aN w1 fun (x15_0 : Sl) (x15_1 : Sl) (x15_2 : Sl) =>
  Calls Try.prog F.l_szNetwork #[.agg #[x15_0.v, x15_1.v, x15_2.v], .int .i64 1048576] w1 (Ret [.at (.int .i64)] fun (x17 : Int) w2 =>
  cond (decide ((x17 : Int) < 0)) (
  Q true w2) (
  LD [.sl, .sl, .sl] p_aN w2 fun (x21_0 : Sl) (x21_1 : Sl) (x21_2 : Sl) =>
  Calls Try.prog F.l_toNetwork #[.agg #[x21_0.v, x21_1.v, x21_2.v]] w2 (Ret [.agg [.sl, .sl, .sl]] fun (x22_0 : Sl) (x22_1 : Sl) (x22_2 : Sl) w3 =>
  Calls Try.prog F.l_toIntS #[aSet.v] w3 (Ret [.at .sl] fun (x24 : Sl) w4 =>
  Calls Try.prog F.s_IsMaximalIndependent #[.agg #[x22_0.v, x22_1.v, x22_2.v], x24.v] w4 (Ret [.at .bool, .at .bool] fun (x25_0 : Bool) (x25_1 : Bool) w5 =>
  LD [.sl, .sl, .sl] p_aN w5 fun (x28_0 : Sl) (x28_1 : Sl) (x28_2 : Sl) =>
  Calls Try.prog F.l_toNetwork #[.agg #[x28_0.v, x28_1.v, x28_2.v]] w5 (Ret [.agg [.sl, .sl, .sl]] fun (x29_0 : Sl) (x29_1 : Sl) (x29_2 : Sl) w6 =>
  NEW T.t_i_Network #[.slice none 0 0, .slice none 0 0, .slice none 0 0] w6 fun (px0 : Addr) w7 =>
  ST px0 0 [x29_0.v, x29_1.v, x29_2.v] w7 fun w8 =>
  Calls Try.prog F.l_toIntS #[aSet.v] w8 (Ret [.at .sl] fun (x31 : Sl) w9 =>
  LD [.sl, .sl, .sl] px0 w9 fun (x33_0 : Sl) (x33_1 : Sl) (x33_2 : Sl) =>
  Calls Try.prog F.i_IsMaximalIndependent #[.agg #[x33_0.v, x33_1.v, x33_2.v], x31.v] w9 (Ret [.at .bool, .at .bool] fun (x35_0 : Bool) (x35_1 : Bool) w10 =>
  cond (!(x35_0 == x25_0)) (
  Q false w10) (
  cond (!(x35_1 == x25_1)) (
  Q false w10) (
  V_l_FnExactIsMaximalIndependent_k3 aSet Q p_aN px0 x31 w10)))))))))))

theorem C_l_FnExactIsMaximalIndependent {Q : Bool → World → Prop} {aN_0 : Sl} {aN_1 : Sl} {aN_2 : Sl} {aSet : Sl} {w : World} (h : V_l_FnExactIsMaximalIndependent Q aN_0 aN_1 aN_2 aSet w) : Calls Try.prog F.l_FnExactIsMaximalIndependent #[.agg #[aN_0.v, aN_1.v, aN_2.v], aSet.v] w (Ret [.at .bool] Q) :=
  mkC (hint := hint) (ann := annOf []) (args := [.agg #[aN_0.v, aN_1.v, aN_2.v], aSet.v]) (rs := [.at .bool]) Try.func13 (by kernel_rfl) (by kernel_rfl) h

def V_l_FnExactIsDominating_k3 (aSet : Sl) (Q : Bool → World → Prop) (p_aN : Addr) (px0 : Addr) (x31 : Sl) (w11 : World) : Prop :=
  ∀ w12, Ext w11 w12 → w12.heap = w11.heap →
  LD [.sl, .sl, .sl] px0 w12 fun (x46_0 : Sl) (x46_1 : Sl) (x46_2 : Sl) =>
  LD [.sl, .sl, .sl] p_aN w12 fun (x47_0 : Sl) (x47_1 : Sl) (x47_2 : Sl) =>
  Ext w12 w12 ∧ (
  Calls Try.prog F.l_toNetwork #[.agg #[x47_0.v, x47_1.v, x47_2.v]] w12 (Ret [.agg [.sl, .sl, .sl]] fun (x48_0 : Sl) (x48_1 : Sl) (x48_2 : Sl) w13 =>
  Ext w12 w13 ∧ (
  Calls Try.prog F.l_eqNetwork #[.agg #[x46_0.v, x46_1.v, x46_2.v], .agg #[x48_0.v, x48_1.v, x48_2.v]] w13 (Ret [.at .bool] fun (x49 : Bool) w14 =>
  Ext w12 w14 ∧ (
  cond (!x49) (
  Q false w14) (
  Calls Try.prog F.l_toIntS #[aSet.v] w14 (Ret [.at .sl] fun (x53 : Sl) w15 =>
  Calls Try.prog F.l_eqIntS #[x31.v, x53.v] w15 (Ret [.at .bool] fun (x54 : Bool) w16 =>
  cond (!x54) (
  Q false w16) (
  Q true w16)))))))))

def V_l_FnExactIsDominating (Q : Bool → World → Prop) (aN_0 : Sl) (aN_1 : Sl) (aN_2 : Sl) (aSet : Sl) (w : World) : Prop :=
  NEW T.t_l_Network #[aN_0.v, aN_1.v, aN_2.v] w fun (p_aN : Addr) w1 =>
  cond (decide ((aSet.len : Int) > 1048576)) (
  Q true w1) (
  LD [.sl, .sl, .sl] p_aN w1 fun (x15_0 : Sl) (x15_1 : Sl) (x15_2 : Sl) =>
  Calls Try.prog F.l_szNetwork #[.agg #[x15_0.v, x15_1.v, x15_2.v], .int .i64 1048576] w1 (Ret [.at (.int .i64)] fun (x17 : Int) w2 =>
  cond (decide ((x17 : Int) < 0)) (
  Q true w2) (
  LD [.sl, .sl, .sl] p_aN w2 fun (x21_0 : Sl) (x21_1 : Sl) (x21_2 : Sl) =>
  Calls Try.prog F.l_toNetwork #[.agg #[x21_0.v, x21_1.v, x21_2.v]] w2 (Ret [.agg [.sl, .sl, .sl]] fun (x22_0 : Sl) (x22_1 : Sl) (x22_2 : Sl) w3 =>
  Calls Try.prog F.l_toIntS #[aSet.v] w3 (Ret [.at .sl] fun (x24 : Sl) w4 =>
  Calls Try.prog F.s_IsDominating #[.agg #[x22_0.v, x22_1.v, x22_2.v], x24.v] w4 (Ret [.at .bool, .at .bool] fun (x25_0 : Bool) (x25_1 : Bool) w5 =>
  LD [.sl, .sl, .sl] p_aN w5 fun (x28_0 : Sl) (x28_1 : Sl) (x28_2 : Sl) =>
  Calls Try.prog F.l_toNetwork #[.agg #[x28_0.v, x28_1.v, x28_2.v]] w5 (Ret [.agg [.sl, .sl, .sl]] fun (x29_0 : Sl) (x29_1 : Sl) (x29_2 : Sl) w6 =>
  NEW T.t_i_Network #[.slice none 0 0, .slice none 0 0, .slice none 0 0] w6 fun (px0 : Addr) w7 =>
  ST px0 0 [x29_0.v, x29_1.v, x29_2.v] w7 fun w8 =>
  Calls Try.prog F.l_toIntS #[aSet.v] w8 (Ret [.at .sl] fun (x31 : Sl) w9 =>
  LD [.sl, .sl, .sl] px0 w9 fun (x33_0 : Sl) (x33_1 : Sl) (x33_2 : Sl) =>
  Calls Try.prog F.i_IsDominating #[.agg #[x33_0.v, x33_1.v, x33_2.v], x31.v] w9 (Ret [.at .bool, .at .bool] fun (x35_0 : Bool) (x35_1 : Bool) w10 =>
  cond (!(x35_0 == x25_0)) (
  Q false w10) (
  cond (!(x35_1 == x25_1)) (
  Q false w10) (
  V_l_FnExactIsDominating_k3 aSet Q p_aN px0 x31 w10)))))))))))

theorem C_l_FnExactIsDominating {Q : Bool → World → Prop} {aN_0 : Sl} {aN_1 : Sl} {aN_2 : Sl} {aSet : Sl} {w : World} (h : V_l_FnExactIsDominating Q aN_0 aN_1 aN_2 aSet w) : Calls Try.prog F.l_FnExactIsDominating #[.agg #[aN_0.v, aN_1.v, aN_2.v], aSet.v] w (Ret [.at .bool] Q) :=
  mkC (hint := hint) (ann := annOf []) (args := [.agg #[aN_0.v, aN_1.v, aN_2.v], aSet.v]) (rs := [.at .bool]) Try.func14 (by kernel_rfl) (by kernel_rfl) h

def V_s_PolynomialParameters (Q : Int → Int → Bool → World → Prop) (k : Int) (a : Int) (w : World) : Prop :=
  Calls Try.prog F.s_clPalette #[.int .i64 k, .int .i64 a] w (Ret [.at .bool] fun (x11 : Bool) w1 =>
  cond (!x11) (
  Q 0 0 false w1) (
  Calls Try.prog F.s_clParameters #[.int .i64 k, .int .i64 a] w1 (Ret [.at (.int .i64), .at (.int .i64)] fun (x16_0 : Int) (x16_1 : Int) w2 =>
  Q x16_0 x16_1 true w2)))

theorem C_s_PolynomialParameters {Q : Int → Int → Bool → World → Prop} {k : Int} {a : Int} {w : World} (h : V_s_PolynomialParameters Q k a w) : Calls Try.prog F.s_PolynomialParameters #[.int .i64 k, .int .i64 a] w (Ret [.at (.int .i64), .at (.int .i64), .at .bool] Q) :=
  mkC (hint := hint) (ann := annOf []) (args := [.int .i64 k, .int .i64 a]) (rs := [.at (.int .i64), .at (.int .i64), .at .bool]) Try.func15 (by kernel_rfl) (by kernel_rfl) h

def V_i_PolynomialParameters (Q : Int → Int → Bool → World → Prop) (k : Int) (a : Int) (w : World) : Prop :=
  Calls Try.prog F.i_within #[.int .i64 k, .int .i64 1, .int .i64 1000000000000] w (Ret [.at .bool] fun (x10 : Bool) w1 =>
  cond (!x10) (
  Q 0 0 false w1) (
  Calls Try.prog F.i_within #[.int .i64 a, .int .i64 0, .int .i64 6] w1 (Ret [.at .bool] fun (x14 : Bool) w2 =>
  cond (!x14) (
  Q 0 0 false w2) (
  Calls Try.prog F.i_polynomialParameters #[.int .i64 k, .int .i64 a] w2 (Ret [.at (.int .i64), .at (.int .i64)] fun (x20_0_2 : Int) (x20_1_2 : Int) w4 =>
  Q x20_0_2 x20_1_2 true w4)))))

theorem C_i_PolynomialParameters {Q : Int → Int → Bool → World → Prop} {k : Int} {a : Int} {w : World} (h : V_i_PolynomialParameters Q k a w) : Calls Try.prog F.i_PolynomialParameters #[.int .i64 k, .int .i64 a] w (Ret [.at (.int .i64), .at (.int .i64), .at .bool] Q) :=
  mkC (hint := hint) (ann := annOf []) (args := [.int .i64 k, .int .i64 a]) (rs := [.at (.int .i64), .at (.int .i64), .at .bool]) Try.func16 (by kernel_rfl) (by kernel_rfl) h

def V_s_CountColours (Q : Int → Bool → World → Prop) (colours : Sl) (w : World) : Prop :=
  cond (decide ((colours.len : Int) > 40)) (
  Q 0 false w) (
  ∃ (I5 : Int → Int → World → Prop) (m5 : Int → Int → World → Nat), I5 0 0 w ∧ ∀ (count : Int) (x12 : Int) w1, I5 count x12 w1 → ∀ _ _ _ _ _ _ _ _ _ _ _ _ _ _ _ : Value,
  cond (decide ((x12 : Int) < colours.len)) (
  IX colours x12 1 fun (px15 : Addr) =>
  LD [.int .i64] px15 w1 fun (x16 : Int) =>
  SLC colours none (some x12) 1 fun (x19 : Sl) =>
  Calls Try.prog F.s_l1Has #[x19.v, .int .i64 x16] w1 (Ret [.at .bool] fun (x21 : Bool) w2 =>
  cond (!x21) (
  I5 (IntKind.i64.wrap (count + 1)) (IntKind.i64.wrap (x12 + 1)) w2 ∧ m5 (IntKind.i64.wrap (count + 1)) (IntKind.i64.wrap (x12 + 1)) w2 < m5 count x12 w1) (
  I5 count (IntKind.i64.wrap (x12 + 1)) w2 ∧ m5 count (IntKind.i64.wrap (x12 + 1)) w2 < m5 count x12 w1))) (
  Q count true w1))

theorem C_s_CountColours {Q : Int → Bool → World → Prop} {colours : Sl} {w : World} (h : V_s_CountColours Q colours w) : Calls Try.prog F.s_CountColours #[colours.v] w (Ret [.at (.int .i64), .at .bool] Q) :=
  mkC (hint := hint) (ann := annOf [(5, ⟨[(4, .int .i64), (12, .int .i64)], [5, 6, 13, 14, 15, 16, 17, 18, 19, 20, 21, 22, 23, 24, 25]⟩)]) (args := [colours.v]) (rs := [.at (.int .i64), .at .bool]) Try.func17 (by kernel_rfl) (by kernel_rfl) h

def V_l_toIntS (Q : Sl → World → Prop) (a : Sl) (w : World) : Prop :=
  RUN Try.prog (.at .sl) (Instr.makeSlice T.t_sl_int (.int .i64 a.len) (.int .i64 a.len)) w fun (x7 : Sl) w1 =>
  ∃ (I3 : Int → World → Prop) (m3 : Int → World → Nat), I3 0 w1 ∧ ∀ (i : Int) w2, I3 i w2 → ∀ _ _ _ _ _ _ _ _ _ _ _ _ _ : Value,
  cond (decide ((i : Int) < a.len)) (
  IX a i 1 fun (px18 : Addr) =>
  LD [.int .i64] px18 w2 fun (x19 : Int) =>
  IX x7 i 1 fun (px20 : Addr) =>
  ST px20 0 [.int .i64 x19] w2 fun w3 =>
  I3 (IntKind.i64.wrap (i + 1)) w3 ∧ m3 (IntKind.i64.wrap (i + 1)) w3 < m3 i w2) (
  Q x7 w2)

theorem C_l_toIntS {Q : Sl → World → Prop} {a : Sl} {w : World} (h : V_l_toIntS Q a w) : Calls Try.prog F.l_toIntS #[a.v] w (Ret [.at .sl] Q) :=
  mkC (hint := hint) (ann := annOf [(3, ⟨[(4, .int .i64)], [8, 9, 10, 11, 12, 13, 14, 15, 16, 17, 18, 19, 20]⟩)]) (args := [a.v]) (rs := [.at .sl]) Try.func18 (by kernel_rfl) (by kernel_rfl) h

def V_i_CountColours (Q : Int → Bool → World → Prop) (colours : Sl) (w : World) : Prop :=
  cond (decide ((colours.len : Int) > 40)) (
  Q 0 false w) (
  Calls Try.prog F.slices_Values_sl_int_int #[colours.v] w (Ret [.at .val] fun (x8 : Value) w1 =>
  Calls Try.prog F.slices_Sorted_int #[x8] w1 (Ret [.at .sl] fun (x9 : Sl) w2 =>
  Calls Try.prog F.slices_Compact_sl_int_int #[x9.v] w2 (Ret [.at .sl] fun (x10 : Sl) w3 =>
  Q x10.len true w3))))

theorem C_i_CountColours {Q : Int → Bool → World → Prop} {colours : Sl} {w : World} (h : V_i_CountColours Q colours w) : Calls Try.prog F.i_CountColours #[colours.v] w (Ret [.at (.int .i64), .at .bool] Q) :=
  mkC (hint := hint) (ann := annOf []) (args := [colours.v]) (rs := [.at (.int .i64), .at .bool]) Try.func19 (by kernel_rfl) (by kernel_rfl) h

def V_l_eqIntS (Q : Bool → World → Prop) (a : Sl) (b : Sl) (w : World) : Prop :=
  cond ((a.len : Int) != b.len) (
  Q false w) (
  ∃ (I4 : Int → World → Prop) (m4 : Int → World → Nat), I4 0 w ∧ ∀ (i : Int) w1, I4 i w1 → ∀ _ _ _ _ _ _ _ _ _ _ _ _ _ _ _ _ : Value,
  cond (decide ((i : Int) < a.len)) (
  IX a i 1 fun (px19 : Addr) =>
  LD [.int .i64] px19 w1 fun (x20 : Int) =>
  IX b i 1 fun (px23 : Addr) =>
  LD [.int .i64] px23 w1 fun (x24 : Int) =>
  ∀ w2, Ext w1 w2 →
  cond ((x20 : Int) != x24) (
  Q false w2) (
  I4 (IntKind.i64.wrap (i + 1)) w2 ∧ m4 (IntKind.i64.wrap (i + 1)) w2 < m4 i w1)) (
  Q true w1))

theorem C_l_eqIntS {Q : Bool → World → Prop} {a : Sl} {b : Sl} {w : World} (h : V_l_eqIntS Q a b w) : Calls Try.prog F.l_eqIntS #[a.v, b.v] w (Ret [.at .bool] Q) :=
  mkC (hint := hint) (ann := annOf [(4, ⟨[(5, .int .i64)], [4, 11, 12, 13, 14, 15, 16, 17, 18, 19, 20, 21, 22, 23, 24, 25]⟩)]) (args := [a.v, b.v]) (rs := [.at .bool]) Try.func20 (by kernel_rfl) (by kernel_rfl) h

def V_l_szNetwork (Q : Int → World → Prop) (a_0 : Sl) (a_1 : Sl) (a_2 : Sl) (left : Int) (w : World) : Prop :=
  NEW T.t_l_Network #[a_0.v, a_1.v, a_2.v] w fun (p_a : Addr) w1 =>
  LD [.sl] (p_a.add 0) w1 fun (x6 : Sl) =>
  Calls Try.prog F.l_szEndSS #[x6.v, .int .i64 left] w1 (Ret [.at (.int .i64)] fun (x8 : Int) w2 =>
  cond (decide ((x8 : Int) < 0)) (
  Q (-1) w2) (
  LD [.sl] (p_a.add 1) w2 fun (x12 : Sl) =>
  Calls Try.prog F.l_szIntS #[x12.v, .int .i64 x8] w2 (Ret [.at (.int .i64)] fun (x14 : Int) w3 =>
  cond (decide ((x14 : Int) < 0)) (
  Q (-1) w3) (
  LD [.sl] (p_a.add 2) w3 fun (x18 : Sl) =>
  Calls Try.prog F.l_szIntS #[x18.v, .int .i64 x14] w3 (Ret [.at (.int .i64)] fun (x20 : Int) w4 =>
  cond (decide ((x20 : Int) < 0)) (
  Q (-1) w4) (
  Q x20 w4))))))

theorem C_l_szNetwork {Q : Int → World → Prop} {a_0 : Sl} {a_1 : Sl} {a_2 : Sl} {left : Int} {w : World} (h : V_l_szNetwork Q a_0 a_1 a_2 left w) : Calls Try.prog F.l_szNetwork #[.agg #[a_0.v, a_1.v, a_2.v], .int .i64 left] w (Ret [.at (.int .i64)] Q) :=
  mkC (hint := hint) (ann := annOf []) (args := [.agg #[a_0.v, a_1.v, a_2.v], .int .i64 left]) (rs := [.at (.int .i64)]) Try.func21 (by kernel_rfl) (by kernel_rfl) h

def V_s_IsMatching (Q : Bool → Bool → World → Prop) (n_0 : Sl) (n_1 : Sl) (n_2 : Sl) (m : Sl) (w : World) : Prop :=
  NEW T.t_i_Network #[n_0.v, n_1.v, n_2.v] w fun (p_n : Addr) w1 =>
  LD [.sl, .sl, .sl] p_n w1 fun (x6_0 : Sl) (x6_1 : Sl) (x6_2 : Sl) =>
  Calls Try.prog F.s_neGood #[.agg #[x6_0.v, x6_1.v, x6_2.v]] w1 (Ret [.at .bool] fun (x7 : Bool) w2 =>
  cond (!x7) (
  Q false false w2) (
  LD [.sl, .sl, .sl] p_n w2 fun (x9_0 : Sl) (x9_1 : Sl) (x9_2 : Sl) =>
  Calls Try.prog F.s_mtIs #[.agg #[x9_0.v, x9_1.v, x9_2.v], m.v] w2 (Ret [.at .bool] fun (x11 : Bool) w3 =>
  Q x11 true w3)))

theorem C_s_IsMatching {Q : Bool → Bool → World → Prop} {n_0 : Sl} {n_1 : Sl} {n_2 : Sl} {m : Sl} {w : World} (h : V_s_IsMatching Q n_0 n_1 n_2 m w) : Calls Try.prog F.s_IsMatching #[.agg #[n_0.v, n_1.v, n_2.v], m.v] w (Ret [.at .bool, .at .bool] Q) :=
  mkC (hint := hint) (ann := annOf []) (args := [.agg #[n_0.v, n_1.v, n_2.v], m.v]) (rs := [.at .bool, .at .bool]) Try.func22 (by kernel_rfl) (by kernel_rfl) h

def V_l_toNetwork (Q : Sl → Sl → Sl → World → Prop) (a_0 : Sl) (a_1 : Sl) (a_2 : Sl) (w : World) : Prop :=
  NEW T.t_l_Network #[a_0.v, a_1.v, a_2.v] w fun (p_a : Addr) w1 =>
  NEW T.t_i_Network #[.slice none 0 0, .slice none 0 0, .slice none 0 0] w1 fun (px2 : Addr) w2 =>
  NEW T.t_i_Network #[.slice none 0 0, .slice none 0 0, .slice none 0 0] w2 fun (p_out : Addr) w3 =>
  LD [.sl] (p_a.add 0) w3 fun (x5 : Sl) =>
  Calls Try.prog F.l_toEndSS #[x5.v] w3 (Ret [.at .sl] fun (x6 : Sl) w4 =>
  ST (p_out.add 0) 0 [x6.v] w4 fun w5 =>
  LD [.sl] (p_a.add 1) w5 fun (x9 : Sl) =>
  Calls Try.prog F.l_toIntS #[x9.v] w5 (Ret [.at .sl] fun (x10 : Sl) w6 =>
  ST (p_out.add 1) 0 [x10.v] w6 fun w7 =>
  LD [.sl] (p_a.add 2) w7 fun (x13 : Sl) =>
  Calls Try.prog F.l_toIntS #[x13.v] w7 (Ret [.at .sl] fun (x14 : Sl) w8 =>
  ST (p_out.add 2) 0 [x14.v] w8 fun w9 =>
  LD [.sl, .sl, .sl] p_out w9 fun (x16_0 : Sl) (x16_1 : Sl) (x16_2 : Sl) =>
  ST px2 0 [x16_0.v, x16_1.v, x16_2.v] w9 fun w10 =>
  LD [.sl, .sl, .sl] px2 w10 fun (r0_0 : Sl) (r0_1 : Sl) (r0_2 : Sl) =>
  Q r0_0 r0_1 r0_2 w10)))

theorem C_l_toNetwork {Q : Sl → Sl → Sl → World → Prop} {a_0 : Sl} {a_1 : Sl} {a_2 : Sl} {w : World} (h : V_l_toNetwork Q a_0 a_1 a_2 w) : Calls Try.prog F.l_toNetwork #[.agg #[a_0.v, a_1.v, a_2.v]] w (Ret [.agg [.sl, .sl, .sl]] Q) :=
  mkC (hint := hint) (ann := annOf []) (args := [.agg #[a_0.v, a_1.v, a_2.v]]) (rs := [.agg [.sl, .sl, .sl]]) Try.func23 (by kernel_rfl) (by kernel_rfl) h

def V_i_IsMatching (Q : Bool → Bool → World → Prop) (n_0 : Sl) (n_1 : Sl) (n_2 : Sl) (m : Sl) (w : World) : Prop :=
  NEW T.t_i_Network #[n_0.v, n_1.v, n_2.v] w fun (p_n : Addr) w1 =>
  LD [.sl, .sl, .sl] p_n w1 fun (x6_0 : Sl) (x6_1 : Sl) (x6_2 : Sl) =>
  Calls Try.prog F.i_IsNetwork #[.agg #[x6_0.v, x6_1.v, x6_2.v]] w1 (Ret [.at .bool] fun (x7 : Bool) w2 =>
  cond (!x7) (
  Q false false w2) (
  LD [.sl, .sl, .sl] p_n w2 fun (x9_0 : Sl) (x9_1 : Sl) (x9_2 : Sl) =>
  Calls Try.prog F.i_isMatching #[.agg #[x9_0.v, x9_1.v, x9_2.v], m.v] w2 (Ret [.at .bool] fun (x11 : Bool) w3 =>
  Q x11 true w3)))

theorem C_i_IsMatching {Q : Bool → Bool → World → Prop} {n_0 : Sl} {n_1 : Sl} {n_2 : Sl} {m : Sl} {w : World} (h : V_i_IsMatching Q n_0 n_1 n_2 m w) : Calls Try.prog F.i_IsMatching #[.agg #[n_0.v, n_1.v, n_2.v], m.v] w (Ret [.at .bool, .at .bool] Q) :=
  mkC (hint := hint) (ann := annOf []) (args := [.agg #[n_0.v, n_1.v, n_2.v], m.v]) (rs := [.at .bool, .at .bool]) Try.func24 (by kernel_rfl) (by kernel_rfl) h

def V_l_eqNetwork (Q : Bool → World → Prop) (a_0 : Sl) (a_1 : Sl) (a_2 : Sl) (b_0 : Sl) (b_1 : Sl) (b_2 : Sl) (w : World) : Prop :=
  NEW T.t_i_Network #[a_0.v, a_1.v, a_2.v] w fun (p_a : Addr) w1 =>
  NEW T.t_i_Network #[b_0.v, b_1.v, b_2.v] w1 fun (p_b : Addr) w2 =>
  LD [.sl] (p_a.add 0) w2 fun (x6 : Sl) =>
  LD [.sl] (p_b.add 0) w2 fun (x8 : Sl) =>
  Calls Try.prog F.l_eqEndSS #[x6.v, x8.v] w2 (Ret [.at .bool] fun (x9 : Bool) w3 =>
  cond (!x9) (
  Q false w3) (
  LD [.sl] (p_a.add 1) w3 fun (x12 : Sl) =>
  LD [.sl] (p_b.add 1) w3 fun (x14 : Sl) =>
  Calls Try.prog F.l_eqIntS #[x12.v, x14.v] w3 (Ret [.at .bool] fun (x15 : Bool) w4 =>
  cond (!x15) (
  Q false w4) (
  LD [.sl] (p_a.add 2) w4 fun (x18 : Sl) =>
  LD [.sl] (p_b.add 2) w4 fun (x20 : Sl) =>
  Calls Try.prog F.l_eqIntS #[x18.v, x20.v] w4 (Ret [.at .bool] fun (x21 : Bool) w5 =>
  cond (!x21) (
  Q false w5) (
  Q true w5))))))

theorem C_l_eqNetwork {Q : Bool → World → Prop} {a_0 : Sl} {a_1 : Sl} {a_2 : Sl} {b_0 : Sl} {b_1 : Sl} {b_2 : Sl} {w : World} (h : V_l_eqNetwork Q a_0 a_1 a_2 b_0 b_1 b_2 w) : Calls Try.prog F.l_eqNetwork #[.agg #[a_0.v, a_1.v, a_2.v], .agg #[b_0.v, b_1.v, b_2.v]] w (Ret [.at .bool] Q) :=
  mkC (hint := hint) (ann := annOf []) (args := [.agg #[a_0.v, a_1.v, a_2.v], .agg #[b_0.v, b_1.v, b_2.v]]) (rs := [.at .bool]) Try.func25 (by kernel_rfl) (by kernel_rfl) h

def V_s_IsColouring (Q : Bool → Bool → World → Prop) (n_0 : Sl) (n_1 : Sl) (n_2 : Sl) (colours : Sl) (w : World) : Prop :=
  NEW T.t_i_Network #[n_0.v, n_1.v, n_2.v] w fun (p_n : Addr) w1 =>
  LD [.sl, .sl, .sl] p_n w1 fun (x6_0 : Sl) (x6_1 : Sl) (x6_2 : Sl) =>
  Calls Try.prog F.s_neGood #[.agg #[x6_0.v, x6_1.v, x6_2.v]] w1 (Ret [.at .bool] fun (x7 : Bool) w2 =>
  cond (!x7) (
  Q false false w2) (
  LD [.sl, .sl, .sl] p_n w2 fun (x9_0 : Sl) (x9_1 : Sl) (x9_2 : Sl) =>
  Calls Try.prog F.s_clProper #[.agg #[x9_0.v, x9_1.v, x9_2.v], colours.v] w2 (Ret [.at .bool] fun (x11 : Bool) w3 =>
  Q x11 true w3)))

theorem C_s_IsColouring {Q : Bool → Bool → World → Prop} {n_0 : Sl} {n_1 : Sl} {n_2 : Sl} {colours : Sl} {w : World} (h : V_s_IsColouring Q n_0 n_1 n_2 colours w) : Calls Try.prog F.s_IsColouring #[.agg #[n_0.v, n_1.v, n_2.v], colours.v] w (Ret [.at .bool, .at .bool] Q) :=
  mkC (hint := hint) (ann := annOf []) (args := [.agg #[n_0.v, n_1.v, n_2.v], colours.v]) (rs := [.at .bool, .at .bool]) Try.func26 (by kernel_rfl) (by kernel_rfl) h

def V_i_IsColouring (Q : Bool → Bool → World → Prop) (n_0 : Sl) (n_1 : Sl) (n_2 : Sl) (colours : Sl) (w : World) : Prop :=
  NEW T.t_i_Network #[n_0.v, n_1.v, n_2.v] w fun (p_n : Addr) w1 =>
  LD [.sl, .sl, .sl] p_n w1 fun (x6_0 : Sl) (x6_1 : Sl) (x6_2 : Sl) =>
  Calls Try.prog F.i_IsNetwork #[.agg #[x6_0.v, x6_1.v, x6_2.v]] w1 (Ret [.at .bool] fun (x7 : Bool) w2 =>
  cond (!x7) (
  Q false false w2) (
  LD [.sl, .sl, .sl] p_n w2 fun (x9_0 : Sl) (x9_1 : Sl) (x9_2 : Sl) =>
  Calls Try.prog F.i_isColouring #[.agg #[x9_0.v, x9_1.v, x9_2.v], colours.v] w2 (Ret [.at .bool] fun (x11 : Bool) w3 =>
  Q x11 true w3)))

theorem C_i_IsColouring {Q : Bool → Bool → World → Prop} {n_0 : Sl} {n_1 : Sl} {n_2 : Sl} {colours : Sl} {w : World} (h : V_i_IsColouring Q n_0 n_1 n_2 colours w) : Calls Try.prog F.i_IsColouring #[.agg #[n_0.v, n_1.v, n_2.v], colours.v] w (Ret [.at .bool, .at .bool] Q) :=
  mkC (hint := hint) (ann := annOf []) (args := [.agg #[n_0.v, n_1.v, n_2.v], colours.v]) (rs := [.at .bool, .at .bool]) Try.func27 (by kernel_rfl) (by kernel_rfl) h

def V_s_IsDefective_k1 (colours : Sl) (d : Int) (Q : Bool → Bool → World → Prop) (p_n : Addr) (w3 : World) : Prop :=
  ∃ (I4 : Int → World → Prop) (m4 : Int → World → Nat), I4 0 w3 ∧ ∀ (x20 : Int) w4, I4 x20 w4 → ∀ _ _ _ _ _ _ _ _ _ _ _ _ _ _ _ _ : Value,
  cond (decide ((x20 : Int) < colours.len)) (
  IX colours x20 1 fun (px23 : Addr) =>
  LD [.int .i64] px23 w4 fun (x24 : Int) =>
  LD [.sl, .sl, .sl] p_n w4 fun (x25_0 : Sl) (x25_1 : Sl) (x25_2 : Sl) =>
  Calls Try.prog F.s_ruSame #[.agg #[x25_0.v, x25_1.v, x25_2.v], colours.v, .int .i64 x20, .int .i64 x24] w4 (Ret [.at (.int .i64)] fun (x29 : Int) w5 =>
  cond (decide ((x29 : Int) > d)) (
  Q false true w5) (
  I4 (IntKind.i64.wrap (x20 + 1)) w5 ∧ m4 (IntKind.i64.wrap (x20 + 1)) w5 < m4 x20 w4))) (
  Q true true w4)

def V_s_IsDefective (Q : Bool → Bool → World → Prop) (n_0 : Sl) (n_1 : Sl) (n_2 : Sl) (colours : Sl) (d : Int) (w : World) : Prop :=
  NEW T.t_i_Network #[n_0.v, n_1.v, n_2.v] w fun (p_n : Addr) w1 =>
  LD [.sl, .sl, .sl] p_n w1 fun (x10_0 : Sl) (x10_1 : Sl) (x10_2 : Sl) =>
  Calls Try.prog F.s_ruColours #[.agg #[x10_0.v, x10_1.v, x10_2.v], colours.v] w1 (Ret [.at .bool] fun (x12 : Bool) w2 =>
  cond (!x12) (
  Q false false w2) (
  cond (decide ((d : Int) < 0)) (
  Q false false w2) (
  V_s_IsDefective_k1 colours d Q p_n w2)))

theorem C_s_IsDefective {Q : Bool → Bool → World → Prop} {n_0 : Sl} {n_1 : Sl} {n_2 : Sl} {colours : Sl} {d : Int} {w : World} (h : V_s_IsDefective Q n_0 n_1 n_2 colours d w) : Calls Try.prog F.s_IsDefective #[.agg #[n_0.v, n_1.v, n_2.v], colours.v, .int .i64 d] w (Ret [.at .bool, .at .bool] Q) :=
  mkC (hint := hint) (ann := annOf [(4, ⟨[(20, .int .i64)], [6, 7, 8, 9, 21, 22, 23, 24, 25, 26, 27, 28, 29, 30, 31, 32]⟩)]) (args := [.agg #[n_0.v, n_1.v, n_2.v], colours.v, .int .i64 d]) (rs := [.at .bool, .at .bool]) Try.func28 (by kernel_rfl) (by kernel_rfl) h

def V_i_IsDefective_k1 (colours : Sl) (d : Int) (Q : Bool → Bool → World → Prop) (p_n : Addr) (w3 : World) : Prop :=
  ∃ (I4 : Int → World → Prop) (m4 : Int → World → Nat), I4 0 w3 ∧ ∀ (x20 : Int) w4, I4 x20 w4 → ∀ _ _ _ _ _ _ _ _ _ _ _ _ _ _ _ _ : Value,
  cond (decide ((x20 : Int) < colours.len)) (
  IX colours x20 1 fun (px23 : Addr) =>
  LD [.int .i64] px23 w4 fun (x24 : Int) =>
  LD [.sl, .sl, .sl] p_n w4 fun (x25_0 : Sl) (x25_1 : Sl) (x25_2 : Sl) =>
  Calls Try.prog F.i_portsWith #[.agg #[x25_0.v, x25_1.v, x25_2.v], .int .i64 x20, colours.v, .int .i64 x24] w4 (Ret [.at (.int .i64)] fun (x29 : Int) w5 =>
  cond (decide ((x29 : Int) > d)) (
  Q false true w5) (
  I4 (IntKind.i64.wrap (x20 + 1)) w5 ∧ m4 (IntKind.i64.wrap (x20 + 1)) w5 < m4 x20 w4))) (
  Q true true w4)

def V_i_IsDefective (Q : Bool → Bool → World → Prop) (n_0 : Sl) (n_1 : Sl) (n_2 : Sl) (colours : Sl) (d : Int) (w : World) : Prop :=
  NEW T.t_i_Network #[n_0.v, n_1.v, n_2.v] w fun (p_n : Addr) w1 =>
  LD [.sl, .sl, .sl] p_n w1 fun (x10_0 : Sl) (x10_1 : Sl) (x10_2 : Sl) =>
  Calls Try.prog F.i_areColours #[.agg #[x10_0.v, x10_1.v, x10_2.v], colours.v] w1 (Ret [.at .bool] fun (x12 : Bool) w2 =>
  cond (!x12) (
  Q false false w2) (
  cond (decide ((d : Int) < 0)) (
  Q false false w2) (
  V_i_IsDefective_k1 colours d Q p_n w2)))

theorem C_i_IsDefective {Q : Bool → Bool → World → Prop} {n_0 : Sl} {n_1 : Sl} {n_2 : Sl} {colours : Sl} {d : Int} {w : World} (h : V_i_IsDefective Q n_0 n_1 n_2 colours d w) : Calls Try.prog F.i_IsDefective #[.agg #[n_0.v, n_1.v, n_2.v], colours.v, .int .i64 d] w (Ret [.at .bool, .at .bool] Q) :=
  mkC (hint := hint) (ann := annOf [(4, ⟨[(20, .int .i64)], [6, 7, 8, 9, 21, 22, 23, 24, 25, 26, 27, 28, 29, 30, 31, 32]⟩)]) (args := [.agg #[n_0.v, n_1.v, n_2.v], colours.v, .int .i64 d]) (rs := [.at .bool, .at .bool]) Try.func29 (by kernel_rfl) (by kernel_rfl) h

def V_s_IsWeak (Q : Bool → Bool → World → Prop) (n_0 : Sl) (n_1 : Sl) (n_2 : Sl) (colours : Sl) (w : World) : Prop :=
  NEW T.t_i_Network #[n_0.v, n_1.v, n_2.v] w fun (p_n : Addr) w1 =>
  LD [.sl, .sl, .sl] p_n w1 fun (x8_0 : Sl) (x8_1 : Sl) (x8_2 : Sl) =>
  Calls Try.prog F.s_ruColours #[.agg #[x8_0.v, x8_1.v, x8_2.v], colours.v] w1 (Ret [.at .bool] fun (x10 : Bool) w2 =>
  cond (!x10) (
  Q false false w2) (
  ∃ (I4 : Int → World → Prop) (m4 : Int → World → Nat), I4 0 w2 ∧ ∀ (x14 : Int) w3, I4 x14 w3 → ∀ _ _ _ _ _ _ _ _ _ _ _ _ _ _ _ _ _ _ _ _ _ _ _ _ _ _ _ _ _ _ : Value,
  cond (decide ((x14 : Int) < colours.len)) (
  IX colours x14 1 fun (px17 : Addr) =>
  LD [.int .i64] px17 w3 fun (x18 : Int) =>
  LD [.sl] (p_n.add 0) w3 fun (x20 : Sl) =>
  IX x20 x14 1 fun (px22 : Addr) =>
  LD [.sl] px22 w3 fun (x23 : Sl) =>
  cond (decide ((x23.len : Int) > 0)) (
  LD [.sl, .sl, .sl] p_n w3 fun (x27_0 : Sl) (x27_1 : Sl) (x27_2 : Sl) =>
  QCALL Try.prog F.s_ruSame #[.agg #[x27_0.v, x27_1.v, x27_2.v], colours.v, .int .i64 x14, .int .i64 x18] w3 [.at (.int .i64)] fun (x31 : Int) =>
  LD [.sl] (p_n.add 0) w3 fun (x33 : Sl) =>
  IX x33 x14 1 fun (px35 : Addr) =>
  LD [.sl] px35 w3 fun (x36 : Sl) =>
  ∀ w4, Ext w3 w4 →
  cond ((x31 : Int) == x36.len) (
  Q false true w4) (
  I4 (IntKind.i64.wrap (x14 + 1)) w4 ∧ m4 (IntKind.i64.wrap (x14 + 1)) w4 < m4 x14 w3)) (
  ∀ w5, Ext w3 w5 →
  I4 (IntKind.i64.wrap (x14 + 1)) w5 ∧ m4 (IntKind.i64.wrap (x14 + 1)) w5 < m4 x14 w3)) (
  Q true true w3)))

theorem C_s_IsWeak {Q : Bool → Bool → World → Prop} {n_0 : Sl} {n_1 : Sl} {n_2 : Sl} {colours : Sl} {w : World} (h : V_s_IsWeak Q n_0 n_1 n_2 colours w) : Calls Try.prog F.s_IsWeak #[.agg #[n_0.v, n_1.v, n_2.v], colours.v] w (Ret [.at .bool, .at .bool] Q) :=
  mkC (hint := hint) (ann := annOf [(4, ⟨[(14, .int .i64)], [4, 5, 6, 7, 15, 16, 17, 18, 19, 20, 21, 22, 23, 24, 25, 26, 27, 28, 29, 30, 31, 32, 33, 34, 35, 36, 37, 38, 39, 40]⟩)]) (args := [.agg #[n_0.v, n_1.v, n_2.v], colours.v]) (rs := [.at .bool, .at .bool]) Try.func30 (by kernel_rfl) (by kernel_rfl) h

def V_i_IsWeak (Q : Bool → Bool → World → Prop) (n_0 : Sl) (n_1 : Sl) (n_2 : Sl) (colours : Sl) (w : World) : Prop :=
  NEW T.t_i_Network #[n_0.v, n_1.v, n_2.v] w fun (p_n : Addr) w1 =>
  LD [.sl, .sl, .sl] p_n w1 fun (x8_0 : Sl) (x8_1 : Sl) (x8_2 : Sl) =>
  Calls Try.prog F.i_areColours #[.agg #[x8_0.v, x8_1.v, x8_2.v], colours.v] w1 (Ret [.at .bool] fun (x10 : Bool) w2 =>
  cond (!x10) (
  Q false false w2) (
  LD [.sl] (p_n.add 0) w2 fun (x13 : Sl) =>
  ∃ (I4 : Int → World → Prop) (m4 : Int → World → Nat), I4 0 w2 ∧ ∀ (x15 : Int) w3, I4 x15 w3 → ∀ _ _ _ _ _ _ _ _ _ _ _ _ _ _ _ _ _ _ _ _ _ _ _ _ _ : Value,
  cond (decide ((x15 : Int) < x13.len)) (
  IX x13 x15 1 fun (px18 : Addr) =>
  LD [.sl] px18 w3 fun (x19 : Sl) =>
  cond (decide ((x19.len : Int) > 0)) (
  LD [.sl, .sl, .sl] p_n w3 fun (x24_0 : Sl) (x24_1 : Sl) (x24_2 : Sl) =>
  IX colours x15 1 fun (px29 : Addr) =>
  LD [.int .i64] px29 w3 fun (x30 : Int) =>
  QCALL Try.prog F.i_portsWith #[.agg #[x24_0.v, x24_1.v, x24_2.v], .int .i64 x15, colours.v, .int .i64 x30] w3 [.at (.int .i64)] fun (x31 : Int) =>
  ∀ w4, Ext w3 w4 →
  cond ((x31 : Int) == x19.len) (
  Q false true w4) (
  I4 (IntKind.i64.wrap (x15 + 1)) w4 ∧ m4 (IntKind.i64.wrap (x15 + 1)) w4 < m4 x15 w3)) (
  ∀ w5, Ext w3 w5 →
  I4 (IntKind.i64.wrap (x15 + 1)) w5 ∧ m4 (IntKind.i64.wrap (x15 + 1)) w5 < m4 x15 w3)) (
  Q true true w3)))

theorem C_i_IsWeak {Q : Bool → Bool → World → Prop} {n_0 : Sl} {n_1 : Sl} {n_2 : Sl} {colours : Sl} {w : World} (h : V_i_IsWeak Q n_0 n_1 n_2 colours w) : Calls Try.prog F.i_IsWeak #[.agg #[n_0.v, n_1.v, n_2.v], colours.v] w (Ret [.at .bool, .at .bool] Q) :=
  mkC (hint := hint) (ann := annOf [(4, ⟨[(15, .int .i64)], [4, 5, 6, 7, 16, 17, 18, 19, 20, 21, 22, 23, 24, 25, 26, 27, 28, 29, 30, 31, 32, 33, 34, 35, 36]⟩)]) (args := [.agg #[n_0.v, n_1.v, n_2.v], colours.v]) (rs := [.at .bool, .at .bool]) Try.func31 (by kernel_rfl) (by kernel_rfl) h

def V_s_MatchingSize (Q : Int → Bool → World → Prop) (n_0 : Sl) (n_1 : Sl) (n_2 : Sl) (m : Sl) (w : World) : Prop :=
  NEW T.t_i_Network #[n_0.v, n_1.v, n_2.v] w fun (p_n : Addr) w1 =>
  LD [.sl, .sl, .sl] p_n w1 fun (x6_0 : Sl) (x6_1 : Sl) (x6_2 : Sl) =>
  Calls Try.prog F.s_mtAsked #[.agg #[x6_0.v, x6_1.v, x6_2.v], m.v] w1 (Ret [.at .bool] fun (x8 : Bool) w2 =>
  cond (!x8) (
  Q 0 false w2) (
  Calls Try.prog F.s_mtSize #[m.v] w2 (Ret [.at (.int .i64)] fun (x11 : Int) w3 =>
  Q x11 true w3)))

theorem C_s_MatchingSize {Q : Int → Bool → World → Prop} {n_0 : Sl} {n_1 : Sl} {n_2 : Sl} {m : Sl} {w : World} (h : V_s_MatchingSize Q n_0 n_1 n_2 m w) : Calls Try.prog F.s_MatchingSize #[.agg #[n_0.v, n_1.v, n_2.v], m.v] w (Ret [.at (.int .i64), .at .bool] Q) :=
  mkC (hint := hint) (ann := annOf []) (args := [.agg #[n_0.v, n_1.v, n_2.v], m.v]) (rs := [.at (.int .i64), .at .bool]) Try.func32 (by kernel_rfl) (by kernel_rfl) h

def V_i_MatchingSize (Q : Int → Bool → World → Prop) (n_0 : Sl) (n_1 : Sl) (n_2 : Sl) (m : Sl) (w : World) : Prop :=
  NEW T.t_i_Network #[n_0.v, n_1.v, n_2.v] w fun (p_n : Addr) w1 =>
  LD [.sl, .sl, .sl] p_n w1 fun (x9_0 : Sl) (x9_1 : Sl) (x9_2 : Sl) =>
  Calls Try.prog F.i_matchingOk #[.agg #[x9_0.v, x9_1.v, x9_2.v], m.v] w1 (Ret [.at .bool] fun (x11 : Bool) w2 =>
  cond (!x11) (
  Q 0 false w2) (
  ∃ (I5 : Int → Int → World → Prop) (m5 : Int → Int → World → Nat), I5 0 0 w2 ∧ ∀ (matched : Int) (x15 : Int) w3, I5 matched x15 w3 → ∀ _ _ _ _ _ _ _ _ _ _ : Value,
  cond (decide ((x15 : Int) < m.len)) (
  IX m x15 1 fun (px17 : Addr) =>
  LD [.int .i64] px17 w3 fun (x18 : Int) =>
  Calls Try.prog F.i_oneIf #[.bool (decide ((x18 : Int) ≥ 0))] w3 (Ret [.at (.int .i64)] fun (x22 : Int) w4 =>
  I5 (IntKind.i64.wrap (matched + x22)) (IntKind.i64.wrap (x15 + 1)) w4 ∧ m5 (IntKind.i64.wrap (matched + x22)) (IntKind.i64.wrap (x15 + 1)) w4 < m5 matched x15 w3)) (
  (2 : Int) ≠ 0 ∧ (
  Q (IntKind.i64.wrap (Int.tdiv matched 2)) true w3))))

theorem C_i_MatchingSize {Q : Int → Bool → World → Prop} {n_0 : Sl} {n_1 : Sl} {n_2 : Sl} {m : Sl} {w : World} (h : V_i_MatchingSize Q n_0 n_1 n_2 m w) : Calls Try.prog F.i_MatchingSize #[.agg #[n_0.v, n_1.v, n_2.v], m.v] w (Ret [.at (.int .i64), .at .bool] Q) :=
  mkC (hint := hint) (ann := annOf [(5, ⟨[(6, .int .i64), (15, .int .i64)], [8, 16, 17, 18, 19, 20, 21, 22, 23, 24]⟩)]) (args := [.agg #[n_0.v, n_1.v, n_2.v], m.v]) (rs := [.at (.int .i64), .at .bool]) Try.func33 (by kernel_rfl) (by kernel_rfl) h

end Go.Proofs.Ytghibjghjjnchaa
