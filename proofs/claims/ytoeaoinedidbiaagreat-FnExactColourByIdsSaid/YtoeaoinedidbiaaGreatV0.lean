/- What each function's code computes to. Printed by a program. -/
import Derived.Test.YtoeaoinedidbiaaGreatNames
namespace Go.Proofs.YtoeaoinedidbiaaGreat
open Go.GX Go.RowKit
set_option linter.unusedVariables false
set_option maxRecDepth 100000

def V_l_FnExactColourByIds_k5 (x1 : Int) (Q : Bool → World → Prop) (px2 : Addr) (x28_0 : Sl) (x28_1 : Int) (x28_2 : Bool) (x37_0 : Sl) (w16 : World) : Prop :=
  Calls Tryz.prog F.l_markIntS #[x37_0.v, .int .i64 1] w16 (Ret [.at (.int .i64)] fun (x83 : Int) w17 =>
  Calls Tryz.prog F.l_heldIntS #[x37_0.v, .int .i64 1] w17 (Ret [.at (.int .i64)] fun (x86 : Int) w18 =>
  cond (decide ((x86 : Int) < 0)) (
  Q false w18) (
  cond ((x86 : Int) != x83) (
  Q false w18) (
  LD [.sl, .sl, .sl] px2 w18 fun (x93_0 : Sl) (x93_1 : Sl) (x93_2 : Sl) =>
  Calls Tryz.prog F.l_toNetwork #[.agg #[x93_0.v, x93_1.v, x93_2.v]] w18 (Ret [.agg [.sl, .sl, .sl]] fun (x94_0 : Sl) (x94_1 : Sl) (x94_2 : Sl) w19 =>
  Calls Tryz.prog F.i_ColourByIds #[.agg #[x94_0.v, x94_1.v, x94_2.v], .int .i64 x1] w19 (Ret [.at .sl, .at (.int .i64), .at .bool] fun (x96_0 : Sl) (x96_1 : Int) (x96_2 : Bool) w20 =>
  Calls Tryz.prog F.l_eqIntS #[x96_0.v, x28_0.v] w20 (Ret [.at .bool] fun (x102 : Bool) w21 =>
  cond (!x102) (
  Q false w21) (
  cond ((x96_1 : Int) != x28_1) (
  Q false w21) (
  cond (!(x96_2 == x28_2)) (
  Q false w21) (
  Calls Tryz.prog F.l_heldIntS #[x37_0.v, .int .i64 1] w21 (Ret [.at (.int .i64)] fun (x116_2 : Int) w23 =>
  cond (decide ((x116_2 : Int) < 0)) (
  Q false w23) (
  cond ((x116_2 : Int) != x83) (
  Q false w23) (
  Q true w23)))))))))))))

def V_l_FnExactColourByIds_k2 (x1 : Int) (Q : Bool → World → Prop) (px2 : Addr) (x28_0 : Sl) (x28_1 : Int) (x28_2 : Bool) (px9 : Addr) (x37_0 : Sl) (x37_1 : Int) (x37_2 : Bool) (w10 : World) : Prop :=
  ∀ w11, Ext w10 w11 → w11.heap = w10.heap →
  LD [.sl, .sl, .sl] px9 w11 fun (x55_0 : Sl) (x55_1 : Sl) (x55_2 : Sl) =>
  LD [.sl, .sl, .sl] px2 w11 fun (x56_0 : Sl) (x56_1 : Sl) (x56_2 : Sl) =>
  Ext w11 w11 ∧ (
  Calls Tryz.prog F.l_toNetwork #[.agg #[x56_0.v, x56_1.v, x56_2.v]] w11 (Ret [.agg [.sl, .sl, .sl]] fun (x57_0 : Sl) (x57_1 : Sl) (x57_2 : Sl) w12 =>
  Ext w11 w12 ∧ (
  Calls Tryz.prog F.l_eqNetwork #[.agg #[x55_0.v, x55_1.v, x55_2.v], .agg #[x57_0.v, x57_1.v, x57_2.v]] w12 (Ret [.at .bool] fun (x58 : Bool) w13 =>
  Ext w11 w13 ∧ (
  cond (!x58) (
  Q false w13) (
  LD [.sl, .sl, .sl] px9 w13 fun (x60_0 : Sl) (x60_1 : Sl) (x60_2 : Sl) =>
  Calls Tryz.prog F.l_markNetwork #[.agg #[x60_0.v, x60_1.v, x60_2.v], .int .i64 1] w13 (Ret [.at (.int .i64)] fun (x62 : Int) w14 =>
  cond (decide ((x62 : Int) < 0)) (
  Q false w14) (
  Calls Tryz.prog F.l_eqIntS #[x37_0.v, x28_0.v] w14 (Ret [.at .bool] fun (x68 : Bool) w15 =>
  cond (!x68) (
  Q false w15) (
  cond ((x37_1 : Int) != x28_1) (
  Q false w15) (
  cond (!(x37_2 == x28_2)) (
  Q false w15) (
  V_l_FnExactColourByIds_k5 x1 Q px2 x28_0 x28_1 x28_2 x37_0 w15))))))))))))

def V_l_FnExactColourByIds (Q : Bool → World → Prop) (x0_0 : Sl) (x0_1 : Sl) (x0_2 : Sl) (x1 : Int) (w : World) : Prop :=
  NEW T.t_l_Network #[x0_0.v, x0_1.v, x0_2.v] w fun (px2 : Addr) w1 =>
  LD [.sl, .sl, .sl] px2 w1 fun (x19_0 : Sl) (x19_1 : Sl) (x19_2 : Sl) =>
  Calls Tryz.prog F.l_szNetwork #[.agg #[x19_0.v, x19_1.v, x19_2.v], .int .i64 1048576] w1 (Ret [.at (.int .i64)] fun (x21 : Int) w2 =>
  cond (decide ((x21 : Int) < 0)) (
  Q true w2) (
  LD [.sl, .sl, .sl] px2 w2 fun (x25_0 : Sl) (x25_1 : Sl) (x25_2 : Sl) =>
  Calls Tryz.prog F.l_toNetwork #[.agg #[x25_0.v, x25_1.v, x25_2.v]] w2 (Ret [.agg [.sl, .sl, .sl]] fun (x26_0 : Sl) (x26_1 : Sl) (x26_2 : Sl) w3 =>
  Calls Tryz.prog F.s_ColourByIds #[.agg #[x26_0.v, x26_1.v, x26_2.v], .int .i64 x1] w3 (Ret [.at .sl, .at (.int .i64), .at .bool] fun (x28_0 : Sl) (x28_1 : Int) (x28_2 : Bool) w4 =>
  LD [.sl, .sl, .sl] px2 w4 fun (x32_0 : Sl) (x32_1 : Sl) (x32_2 : Sl) =>
  Calls Tryz.prog F.l_toNetwork #[.agg #[x32_0.v, x32_1.v, x32_2.v]] w4 (Ret [.agg [.sl, .sl, .sl]] fun (x33_0 : Sl) (x33_1 : Sl) (x33_2 : Sl) w5 =>
  NEW T.t_i_Network #[.slice none 0 0, .slice none 0 0, .slice none 0 0] w5 fun (px9 : Addr) w6 =>
  ST px9 0 [x33_0.v, x33_1.v, x33_2.v] w6 fun w7 =>
  LD [.sl, .sl, .sl] px9 w7 fun (x35_0 : Sl) (x35_1 : Sl) (x35_2 : Sl) =>
  Calls Tryz.prog F.i_ColourByIds #[.agg #[x35_0.v, x35_1.v, x35_2.v], .int .i64 x1] w7 (Ret [.at .sl, .at (.int .i64), .at .bool] fun (x37_0 : Sl) (x37_1 : Int) (x37_2 : Bool) w8 =>
  Calls Tryz.prog F.l_eqIntS #[x37_0.v, x28_0.v] w8 (Ret [.at .bool] fun (x43 : Bool) w9 =>
  cond (!x43) (
  Q false w9) (
  cond ((x37_1 : Int) != x28_1) (
  Q false w9) (
  cond (!(x37_2 == x28_2)) (
  Q false w9) (
  V_l_FnExactColourByIds_k2 x1 Q px2 x28_0 x28_1 x28_2 px9 x37_0 x37_1 x37_2 w9))))))))))

theorem C_l_FnExactColourByIds {Q : Bool → World → Prop} {x0_0 : Sl} {x0_1 : Sl} {x0_2 : Sl} {x1 : Int} {w : World} (h : V_l_FnExactColourByIds Q x0_0 x0_1 x0_2 x1 w) : Calls Tryz.prog F.l_FnExactColourByIds #[.agg #[x0_0.v, x0_1.v, x0_2.v], .int .i64 x1] w (Ret [.at .bool] Q) :=
  mkC (hint := hint) (ann := annOf []) (args := [.agg #[x0_0.v, x0_1.v, x0_2.v], .int .i64 x1]) (rs := [.at .bool]) Tryz.func3 (by kernel_rfl) (by kernel_rfl) h

def V_l_szNetwork (Q : Int → World → Prop) (a_0 : Sl) (a_1 : Sl) (a_2 : Sl) (left : Int) (w : World) : Prop :=
  NEW T.t_l_Network #[a_0.v, a_1.v, a_2.v] w fun (p_a : Addr) w1 =>
  LD [.sl] (p_a.add 0) w1 fun (x6 : Sl) =>
  Calls Tryz.prog F.l_szEndSS #[x6.v, .int .i64 left] w1 (Ret [.at (.int .i64)] fun (x8 : Int) w2 =>
  cond (decide ((x8 : Int) < 0)) (
  Q (-1) w2) (
  LD [.sl] (p_a.add 1) w2 fun (x12 : Sl) =>
  Calls Tryz.prog F.l_szIntS #[x12.v, .int .i64 x8] w2 (Ret [.at (.int .i64)] fun (x14 : Int) w3 =>
  cond (decide ((x14 : Int) < 0)) (
  Q (-1) w3) (
  LD [.sl] (p_a.add 2) w3 fun (x18 : Sl) =>
  Calls Tryz.prog F.l_szIntS #[x18.v, .int .i64 x14] w3 (Ret [.at (.int .i64)] fun (x20 : Int) w4 =>
  cond (decide ((x20 : Int) < 0)) (
  Q (-1) w4) (
  Q x20 w4))))))

theorem C_l_szNetwork {Q : Int → World → Prop} {a_0 : Sl} {a_1 : Sl} {a_2 : Sl} {left : Int} {w : World} (h : V_l_szNetwork Q a_0 a_1 a_2 left w) : Calls Tryz.prog F.l_szNetwork #[.agg #[a_0.v, a_1.v, a_2.v], .int .i64 left] w (Ret [.at (.int .i64)] Q) :=
  mkC (hint := hint) (ann := annOf []) (args := [.agg #[a_0.v, a_1.v, a_2.v], .int .i64 left]) (rs := [.at (.int .i64)]) Tryz.func4 (by kernel_rfl) (by kernel_rfl) h

def V_s_ColourByIds (Q : Sl → Int → Bool → World → Prop) (n_0 : Sl) (n_1 : Sl) (n_2 : Sl) (a : Int) (w : World) : Prop :=
  NEW T.t_i_Network #[n_0.v, n_1.v, n_2.v] w fun (p_n : Addr) w1 =>
  LD [.sl, .sl, .sl] p_n w1 fun (x9_0 : Sl) (x9_1 : Sl) (x9_2 : Sl) =>
  Calls Tryz.prog F.s_neGood #[.agg #[x9_0.v, x9_1.v, x9_2.v]] w1 (Ret [.at .bool] fun (x10 : Bool) w2 =>
  cond (!x10) (
  Q (⟨none, 0, 0⟩) 0 false w2) (
  LD [.sl] (p_n.add 1) w2 fun (x14 : Sl) =>
  cond ((x14.len : Int) == 0) (
  Q (⟨none, 0, 0⟩) 0 false w2) (
  LD [.sl, .sl, .sl] p_n w2 fun (x19_0 : Sl) (x19_1 : Sl) (x19_2 : Sl) =>
  LD [.sl] (p_n.add 1) w2 fun (x21 : Sl) =>
  Calls Tryz.prog F.s_clAsked #[.agg #[x19_0.v, x19_1.v, x19_2.v], x21.v, .int .i64 1000000, .int .i64 a] w2 (Ret [.at .bool] fun (x23 : Bool) w3 =>
  cond (!x23) (
  Q (⟨none, 0, 0⟩) 0 false w3) (
  LD [.sl, .sl, .sl] p_n w3 fun (x27_0_2 : Sl) (x27_1_2 : Sl) (x27_2_2 : Sl) =>
  Calls Tryz.prog F.s_clByIds #[.agg #[x27_0_2.v, x27_1_2.v, x27_2_2.v], .int .i64 a] w3 (Ret [.at .sl, .at (.int .i64)] fun (x29_0_2 : Sl) (x29_1_2 : Int) w5 =>
  Q x29_0_2 x29_1_2 true w5))))))

theorem C_s_ColourByIds {Q : Sl → Int → Bool → World → Prop} {n_0 : Sl} {n_1 : Sl} {n_2 : Sl} {a : Int} {w : World} (h : V_s_ColourByIds Q n_0 n_1 n_2 a w) : Calls Tryz.prog F.s_ColourByIds #[.agg #[n_0.v, n_1.v, n_2.v], .int .i64 a] w (Ret [.at .sl, .at (.int .i64), .at .bool] Q) :=
  mkC (hint := hint) (ann := annOf []) (args := [.agg #[n_0.v, n_1.v, n_2.v], .int .i64 a]) (rs := [.at .sl, .at (.int .i64), .at .bool]) Tryz.func5 (by kernel_rfl) (by kernel_rfl) h

def V_l_toNetwork (Q : Sl → Sl → Sl → World → Prop) (a_0 : Sl) (a_1 : Sl) (a_2 : Sl) (w : World) : Prop :=
  NEW T.t_l_Network #[a_0.v, a_1.v, a_2.v] w fun (p_a : Addr) w1 =>
  NEW T.t_i_Network #[.slice none 0 0, .slice none 0 0, .slice none 0 0] w1 fun (px2 : Addr) w2 =>
  NEW T.t_i_Network #[.slice none 0 0, .slice none 0 0, .slice none 0 0] w2 fun (p_out : Addr) w3 =>
  LD [.sl] (p_a.add 0) w3 fun (x5 : Sl) =>
  Calls Tryz.prog F.l_toEndSS #[x5.v] w3 (Ret [.at .sl] fun (x6 : Sl) w4 =>
  ST (p_out.add 0) 0 [x6.v] w4 fun w5 =>
  LD [.sl] (p_a.add 1) w5 fun (x9 : Sl) =>
  Calls Tryz.prog F.l_toIntS #[x9.v] w5 (Ret [.at .sl] fun (x10 : Sl) w6 =>
  ST (p_out.add 1) 0 [x10.v] w6 fun w7 =>
  LD [.sl] (p_a.add 2) w7 fun (x13 : Sl) =>
  Calls Tryz.prog F.l_toIntS #[x13.v] w7 (Ret [.at .sl] fun (x14 : Sl) w8 =>
  ST (p_out.add 2) 0 [x14.v] w8 fun w9 =>
  LD [.sl, .sl, .sl] p_out w9 fun (x16_0 : Sl) (x16_1 : Sl) (x16_2 : Sl) =>
  ST px2 0 [x16_0.v, x16_1.v, x16_2.v] w9 fun w10 =>
  LD [.sl, .sl, .sl] px2 w10 fun (r0_0 : Sl) (r0_1 : Sl) (r0_2 : Sl) =>
  Q r0_0 r0_1 r0_2 w10)))

theorem C_l_toNetwork {Q : Sl → Sl → Sl → World → Prop} {a_0 : Sl} {a_1 : Sl} {a_2 : Sl} {w : World} (h : V_l_toNetwork Q a_0 a_1 a_2 w) : Calls Tryz.prog F.l_toNetwork #[.agg #[a_0.v, a_1.v, a_2.v]] w (Ret [.agg [.sl, .sl, .sl]] Q) :=
  mkC (hint := hint) (ann := annOf []) (args := [.agg #[a_0.v, a_1.v, a_2.v]]) (rs := [.agg [.sl, .sl, .sl]]) Tryz.func6 (by kernel_rfl) (by kernel_rfl) h

def V_i_ColourByIds_k1 (x1 : Int) (Q : Sl → Int → Bool → World → Prop) (px2 : Addr) (w4 : World) : Prop :=
  LD [.sl] (px2.add 1) w4 fun (x32 : Sl) =>
  Calls Tryz.prog F.slices_Clone_sl_int_int #[x32.v] w4 (Ret [.at .sl] fun (x33 : Sl) w5 =>
  ∃ (I5 : Int → Sl → Int → World → Prop) (m5 : Int → Sl → Int → World → Nat), I5 1000000 x33 0 w5 ∧ ∀ (x7 : Int) (x8 : Sl) (x9 : Int) w6, I5 x7 x8 x9 w6 → ∀ _ _ _ _ _ _ _ _ _ _ _ _ _ _ _ _ _ _ _ _ _ _ _ : Value,
  Calls Tryz.prog F.i_polynomialParameters #[.int .i64 x7, .int .i64 x1] w6 (Ret [.at (.int .i64), .at (.int .i64)] fun (x37_0 : Int) (x37_1 : Int) w7 =>
  cond (decide (((IntKind.i64.wrap (x37_0 * x37_0)) : Int) ≥ x7)) (
  ∃ (I9 : Int → Sl → Int → World → Prop) (m9 : Int → Sl → Int → World → Nat), I9 x7 x8 x9 w7 ∧ ∀ (x7_2 : Int) (x8_2 : Sl) (x9_2 : Int) w9, I9 x7_2 x8_2 x9_2 w9 → ∀ _ _ _ _ _ _ _ _ _ _ _ _ _ _ _ _ _ : Value,
  cond (decide ((x7_2 : Int) > (IntKind.i64.wrap (2 * (IntKind.i64.wrap (x1 + 1)))))) (
  LD [.sl, .sl, .sl] px2 w9 fun (x61_0 : Sl) (x61_1 : Sl) (x61_2 : Sl) =>
  Calls Tryz.prog F.i_halveColours #[.agg #[x61_0.v, x61_1.v, x61_2.v], x8_2.v, .int .i64 x7_2, .int .i64 x1] w9 (Ret [.at .sl, .at (.int .i64)] fun (x65_0 : Sl) (x65_1 : Int) w10 =>
  I9 x65_1 x65_0 (IntKind.i64.wrap (x9_2 + (IntKind.i64.wrap (x1 + 1)))) w10 ∧ m9 x65_1 x65_0 (IntKind.i64.wrap (x9_2 + (IntKind.i64.wrap (x1 + 1)))) w10 < m9 x7_2 x8_2 x9_2 w9)) (
  LD [.sl, .sl, .sl] px2 w9 fun (x73_0 : Sl) (x73_1 : Sl) (x73_2 : Sl) =>
  Calls Tryz.prog F.i_greedyReduce #[.agg #[x73_0.v, x73_1.v, x73_2.v], x8_2.v, .int .i64 x7_2, .int .i64 x1] w9 (Ret [.at .sl, .at (.int .i64)] fun (x77_0 : Sl) (x77_1 : Int) w11 =>
  Q x77_0 (IntKind.i64.wrap (x9_2 + x77_1)) true w11))) (
  LD [.sl, .sl, .sl] px2 w7 fun (x46_0 : Sl) (x46_1 : Sl) (x46_2 : Sl) =>
  Calls Tryz.prog F.i_polynomialStep #[.agg #[x46_0.v, x46_1.v, x46_2.v], x8.v, .int .i64 x7, .int .i64 x1] w7 (Ret [.at .sl, .at (.int .i64)] fun (x50_0 : Sl) (x50_1 : Int) w8 =>
  I5 x50_1 x50_0 (IntKind.i64.wrap (x9 + 1)) w8 ∧ m5 x50_1 x50_0 (IntKind.i64.wrap (x9 + 1)) w8 < m5 x7 x8 x9 w6))))

def V_i_ColourByIds (Q : Sl → Int → Bool → World → Prop) (x0_0 : Sl) (x0_1 : Sl) (x0_2 : Sl) (x1 : Int) (w : World) : Prop :=
  NEW T.t_i_Network #[x0_0.v, x0_1.v, x0_2.v] w fun (px2 : Addr) w1 =>
  LD [.sl, .sl, .sl] px2 w1 fun (x13_0 : Sl) (x13_1 : Sl) (x13_2 : Sl) =>
  Calls Tryz.prog F.i_IsNetwork #[.agg #[x13_0.v, x13_1.v, x13_2.v]] w1 (Ret [.at .bool] fun (x14 : Bool) w2 =>
  cond (!x14) (
  Q (⟨none, 0, 0⟩) 0 false w2) (
  LD [.sl] (px2.add 1) w2 fun (x18 : Sl) =>
  cond ((x18.len : Int) == 0) (
  Q (⟨none, 0, 0⟩) 0 false w2) (
  LD [.sl, .sl, .sl] px2 w2 fun (x23_0 : Sl) (x23_1 : Sl) (x23_2 : Sl) =>
  LD [.sl] (px2.add 1) w2 fun (x25 : Sl) =>
  Calls Tryz.prog F.i_paletteOk #[.agg #[x23_0.v, x23_1.v, x23_2.v], x25.v, .int .i64 1000000, .int .i64 x1] w2 (Ret [.at .bool] fun (x28 : Bool) w3 =>
  cond (!x28) (
  Q (⟨none, 0, 0⟩) 0 false w3) (
  V_i_ColourByIds_k1 x1 Q px2 w3)))))

theorem C_i_ColourByIds {Q : Sl → Int → Bool → World → Prop} {x0_0 : Sl} {x0_1 : Sl} {x0_2 : Sl} {x1 : Int} {w : World} (h : V_i_ColourByIds Q x0_0 x0_1 x0_2 x1 w) : Calls Tryz.prog F.i_ColourByIds #[.agg #[x0_0.v, x0_1.v, x0_2.v], .int .i64 x1] w (Ret [.at .sl, .at (.int .i64), .at .bool] Q) :=
  mkC (hint := hint) (ann := annOf [(5, ⟨[(7, .int .i64), (8, .sl), (9, .int .i64)], [10, 11, 34, 35, 36, 37, 38, 39, 40, 41, 42, 43, 44, 45, 46, 47, 48, 49, 50, 51, 52, 53, 54]⟩), (9, ⟨[(7, .int .i64), (8, .sl), (9, .int .i64)], [55, 56, 57, 58, 59, 60, 61, 62, 63, 64, 65, 66, 67, 68, 69, 70, 71]⟩)]) (args := [.agg #[x0_0.v, x0_1.v, x0_2.v], .int .i64 x1]) (rs := [.at .sl, .at (.int .i64), .at .bool]) Tryz.func7 (by kernel_rfl) (by kernel_rfl) h

def V_l_eqIntS (Q : Bool → World → Prop) (a : Sl) (b : Sl) (w : World) : Prop :=
  cond ((a.len : Int) != b.len) (
  Q false w) (
  ∃ (I4 : Int → World → Prop) (m4 : Int → World → Nat), I4 0 w ∧ ∀ (i : Int) w1, I4 i w1 → ∀ _ _ _ _ _ _ _ _ _ _ _ _ _ _ _ _ : Value,
  cond (decide ((i : Int) < a.len)) (
  IX a i 1 fun (px19 : Addr) =>
  LD [.int .i64] px19 w1 fun (x20 : Int) =>
  IX b i 1 fun (px23 : Addr) =>
  LD [.int .i64] px23 w1 fun (x24 : Int) =>
  ∀ w2, Ext w1 w2 →
  cond ((x20 : Int) != x24) (
  Q false w2) (
  I4 (IntKind.i64.wrap (i + 1)) w2 ∧ m4 (IntKind.i64.wrap (i + 1)) w2 < m4 i w1)) (
  Q true w1))

theorem C_l_eqIntS {Q : Bool → World → Prop} {a : Sl} {b : Sl} {w : World} (h : V_l_eqIntS Q a b w) : Calls Tryz.prog F.l_eqIntS #[a.v, b.v] w (Ret [.at .bool] Q) :=
  mkC (hint := hint) (ann := annOf [(4, ⟨[(5, .int .i64)], [4, 11, 12, 13, 14, 15, 16, 17, 18, 19, 20, 21, 22, 23, 24, 25]⟩)]) (args := [a.v, b.v]) (rs := [.at .bool]) Tryz.func8 (by kernel_rfl) (by kernel_rfl) h

def V_l_eqNetwork (Q : Bool → World → Prop) (a_0 : Sl) (a_1 : Sl) (a_2 : Sl) (b_0 : Sl) (b_1 : Sl) (b_2 : Sl) (w : World) : Prop :=
  NEW T.t_i_Network #[a_0.v, a_1.v, a_2.v] w fun (p_a : Addr) w1 =>
  NEW T.t_i_Network #[b_0.v, b_1.v, b_2.v] w1 fun (p_b : Addr) w2 =>
  LD [.sl] (p_a.add 0) w2 fun (x6 : Sl) =>
  LD [.sl] (p_b.add 0) w2 fun (x8 : Sl) =>
  Calls Tryz.prog F.l_eqEndSS #[x6.v, x8.v] w2 (Ret [.at .bool] fun (x9 : Bool) w3 =>
  cond (!x9) (
  Q false w3) (
  LD [.sl] (p_a.add 1) w3 fun (x12 : Sl) =>
  LD [.sl] (p_b.add 1) w3 fun (x14 : Sl) =>
  Calls Tryz.prog F.l_eqIntS #[x12.v, x14.v] w3 (Ret [.at .bool] fun (x15 : Bool) w4 =>
  cond (!x15) (
  Q false w4) (
  LD [.sl] (p_a.add 2) w4 fun (x18 : Sl) =>
  LD [.sl] (p_b.add 2) w4 fun (x20 : Sl) =>
  Calls Tryz.prog F.l_eqIntS #[x18.v, x20.v] w4 (Ret [.at .bool] fun (x21 : Bool) w5 =>
  cond (!x21) (
  Q false w5) (
  Q true w5))))))

theorem C_l_eqNetwork {Q : Bool → World → Prop} {a_0 : Sl} {a_1 : Sl} {a_2 : Sl} {b_0 : Sl} {b_1 : Sl} {b_2 : Sl} {w : World} (h : V_l_eqNetwork Q a_0 a_1 a_2 b_0 b_1 b_2 w) : Calls Tryz.prog F.l_eqNetwork #[.agg #[a_0.v, a_1.v, a_2.v], .agg #[b_0.v, b_1.v, b_2.v]] w (Ret [.at .bool] Q) :=
  mkC (hint := hint) (ann := annOf []) (args := [.agg #[a_0.v, a_1.v, a_2.v], .agg #[b_0.v, b_1.v, b_2.v]]) (rs := [.at .bool]) Tryz.func9 (by kernel_rfl) (by kernel_rfl) h

def V_l_markNetwork (Q : Int → World → Prop) (a_0 : Sl) (a_1 : Sl) (a_2 : Sl) (k : Int) (w : World) : Prop :=
  NEW T.t_i_Network #[a_0.v, a_1.v, a_2.v] w fun (p_a : Addr) w1 =>
  LD [.sl] (p_a.add 0) w1 fun (x6 : Sl) =>
  Calls Tryz.prog F.l_markEndSS #[x6.v, .int .i64 k] w1 (Ret [.at (.int .i64)] fun (x8 : Int) w2 =>
  LD [.sl] (p_a.add 1) w2 fun (x10 : Sl) =>
  Calls Tryz.prog F.l_markIntS #[x10.v, .int .i64 x8] w2 (Ret [.at (.int .i64)] fun (x12 : Int) w3 =>
  LD [.sl] (p_a.add 2) w3 fun (x14 : Sl) =>
  Calls Tryz.prog F.l_markIntS #[x14.v, .int .i64 x12] w3 (Ret [.at (.int .i64)] fun (x16 : Int) w4 =>
  Q x16 w4)))

theorem C_l_markNetwork {Q : Int → World → Prop} {a_0 : Sl} {a_1 : Sl} {a_2 : Sl} {k : Int} {w : World} (h : V_l_markNetwork Q a_0 a_1 a_2 k w) : Calls Tryz.prog F.l_markNetwork #[.agg #[a_0.v, a_1.v, a_2.v], .int .i64 k] w (Ret [.at (.int .i64)] Q) :=
  mkC (hint := hint) (ann := annOf []) (args := [.agg #[a_0.v, a_1.v, a_2.v], .int .i64 k]) (rs := [.at (.int .i64)]) Tryz.func10 (by kernel_rfl) (by kernel_rfl) h

def V_l_markIntS (Q : Int → World → Prop) (a : Sl) (k : Int) (w : World) : Prop :=
  ∃ (I2 : Int → Int → World → Prop) (m2 : Int → Int → World → Nat), I2 k 0 w ∧ ∀ (k_2 : Int) (i : Int) w1, I2 k_2 i w1 → ∀ _ _ _ _ _ _ _ _ _ _ _ _ : Value,
  cond (decide ((i : Int) < a.len)) (
  IX a i 1 fun (px15 : Addr) =>
  ST px15 0 [.int .i64 k_2] w1 fun w2 =>
  I2 (IntKind.i64.wrap (k_2 + 1)) (IntKind.i64.wrap (i + 1)) w2 ∧ m2 (IntKind.i64.wrap (k_2 + 1)) (IntKind.i64.wrap (i + 1)) w2 < m2 k_2 i w1) (
  Q k_2 w1)

theorem C_l_markIntS {Q : Int → World → Prop} {a : Sl} {k : Int} {w : World} (h : V_l_markIntS Q a k w) : Calls Tryz.prog F.l_markIntS #[a.v, .int .i64 k] w (Ret [.at (.int .i64)] Q) :=
  mkC (hint := hint) (ann := annOf [(2, ⟨[(1, .int .i64), (5, .int .i64)], [6, 7, 8, 9, 10, 11, 12, 13, 14, 15, 16, 17]⟩)]) (args := [a.v, .int .i64 k]) (rs := [.at (.int .i64)]) Tryz.func11 (by kernel_rfl) (by kernel_rfl) h

def V_l_heldIntS (Q : Int → World → Prop) (a : Sl) (k : Int) (w : World) : Prop :=
  ∃ (I2 : Int → Int → World → Prop) (m2 : Int → Int → World → Nat), I2 k 0 w ∧ ∀ (k_2 : Int) (i : Int) w1, I2 k_2 i w1 → ∀ _ _ _ _ _ _ _ _ _ _ _ _ _ _ _ : Value,
  cond (decide ((i : Int) < a.len)) (
  IX a i 1 fun (px14 : Addr) =>
  LD [.int .i64] px14 w1 fun (x15 : Int) =>
  cond ((x15 : Int) != k_2) (
  Q (-1) w1) (
  I2 (IntKind.i64.wrap (k_2 + 1)) (IntKind.i64.wrap (i + 1)) w1 ∧ m2 (IntKind.i64.wrap (k_2 + 1)) (IntKind.i64.wrap (i + 1)) w1 < m2 k_2 i w1)) (
  Q k_2 w1)

theorem C_l_heldIntS {Q : Int → World → Prop} {a : Sl} {k : Int} {w : World} (h : V_l_heldIntS Q a k w) : Calls Tryz.prog F.l_heldIntS #[a.v, .int .i64 k] w (Ret [.at (.int .i64)] Q) :=
  mkC (hint := hint) (ann := annOf [(2, ⟨[(1, .int .i64), (5, .int .i64)], [4, 6, 7, 8, 9, 10, 11, 12, 13, 14, 15, 16, 17, 18, 19]⟩)]) (args := [a.v, .int .i64 k]) (rs := [.at (.int .i64)]) Tryz.func12 (by kernel_rfl) (by kernel_rfl) h

def V_l_szEndSS (Q : Int → World → Prop) (a : Sl) (left : Int) (w : World) : Prop :=
  cond (decide (((IntKind.i64.wrap (left - a.len)) : Int) < 0)) (
  Q (-1) w) (
  ∃ (I5 : Int → Int → World → Prop) (m5 : Int → Int → World → Nat), I5 (IntKind.i64.wrap (left - a.len)) 0 w ∧ ∀ (left_2 : Int) (i : Int) w1, I5 left_2 i w1 → ∀ _ _ _ _ _ _ _ _ _ _ _ _ _ _ _ : Value,
  cond (decide ((i : Int) < a.len)) (
  IX a i 1 fun (px20 : Addr) =>
  LD [.sl] px20 w1 fun (x21 : Sl) =>
  Calls Tryz.prog F.l_szEndS #[x21.v, .int .i64 left_2] w1 (Ret [.at (.int .i64)] fun (x23 : Int) w2 =>
  cond (decide ((x23 : Int) < 0)) (
  Q (-1) w2) (
  I5 x23 (IntKind.i64.wrap (i + 1)) w2 ∧ m5 x23 (IntKind.i64.wrap (i + 1)) w2 < m5 left_2 i w1))) (
  Q left_2 w1))

theorem C_l_szEndSS {Q : Int → World → Prop} {a : Sl} {left : Int} {w : World} (h : V_l_szEndSS Q a left w) : Calls Tryz.prog F.l_szEndSS #[a.v, .int .i64 left] w (Ret [.at (.int .i64)] Q) :=
  mkC (hint := hint) (ann := annOf [(5, ⟨[(1, .int .i64), (5, .int .i64)], [4, 12, 13, 14, 15, 16, 17, 18, 19, 20, 21, 22, 23, 24, 25]⟩)]) (args := [a.v, .int .i64 left]) (rs := [.at (.int .i64)]) Tryz.func13 (by kernel_rfl) (by kernel_rfl) h

def V_l_szIntS (Q : Int → World → Prop) (a : Sl) (left : Int) (w : World) : Prop :=
  cond (decide (((IntKind.i64.wrap (left - a.len)) : Int) < 0)) (
  Q (-1) w) (
  Q (IntKind.i64.wrap (left - a.len)) w)

theorem C_l_szIntS {Q : Int → World → Prop} {a : Sl} {left : Int} {w : World} (h : V_l_szIntS Q a left w) : Calls Tryz.prog F.l_szIntS #[a.v, .int .i64 left] w (Ret [.at (.int .i64)] Q) :=
  mkC (hint := hint) (ann := annOf []) (args := [a.v, .int .i64 left]) (rs := [.at (.int .i64)]) Tryz.func14 (by kernel_rfl) (by kernel_rfl) h

def V_s_neGood_k1 (Q : Bool → World → Prop) (px1 : Addr) (w5 : World) : Prop :=
  LD [.sl] (px1.add 0) w5 fun (x37 : Sl) =>
  ∃ (I4 : Int → World → Prop) (m4 : Int → World → Nat), I4 0 w5 ∧ ∀ (x39 : Int) w6, I4 x39 w6 → ∀ _ _ _ _ _ _ _ _ _ _ _ _ _ _ _ _ _ _ _ _ _ _ _ _ _ _ _ _ _ _ _ _ _ _ _ _ _ _ _ _ _ _ _ _ _ _ _ _ _ _ _ _ _ _ _ _ _ _ _ : Value,
  cond (decide ((x39 : Int) < x37.len)) (
  IX x37 x39 1 fun (px42 : Addr) =>
  LD [.sl] px42 w6 fun (x43 : Sl) =>
  cond (decide ((x43.len : Int) > 6)) (
  Q false w6) (
  ∃ (I9 : Int → World → Prop) (m9 : Int → World → Nat), I9 0 w6 ∧ ∀ (x49 : Int) w7, I9 x49 w7 → ∀ _ _ _ _ _ _ _ _ _ _ _ _ _ _ _ _ _ _ _ _ _ _ _ _ _ _ _ _ _ _ _ _ _ _ _ _ _ _ _ _ _ _ _ _ _ _ : Value,
  cond (decide ((x49 : Int) < x43.len)) (
  IX x43 x49 2 fun (px52 : Addr) =>
  LD [.int .i64, .int .i64] px52 w7 fun (x53_0 : Int) (x53_1 : Int) =>
  NEW T.t_i_End #[.int .i64 0, .int .i64 0] w7 fun (px6 : Addr) w8 =>
  ST px6 0 [.int .i64 x53_0, .int .i64 x53_1] w8 fun w9 =>
  LD [.int .i64] (px6.add 0) w9 fun (x55 : Int) =>
  LD [.sl] (px1.add 0) w9 fun (x57 : Sl) =>
  QCALL Tryz.prog F.s_l1In #[.int .i64 x55, .int .i64 0, .int .i64 (IntKind.i64.wrap (x57.len - 1))] w9 [.at .bool] fun (x60 : Bool) =>
  cond (!x60) (
  ∀ w10, Ext w9 w10 →
  Q false w10) (
  LD [.int .i64] (px6.add 1) w9 fun (x64 : Int) =>
  LD [.sl] (px1.add 0) w9 fun (x66 : Sl) =>
  LD [.int .i64] (px6.add 0) w9 fun (x68 : Int) =>
  IX x66 x68 1 fun (px69 : Addr) =>
  LD [.sl] px69 w9 fun (x70 : Sl) =>
  QCALL Tryz.prog F.s_l1In #[.int .i64 x64, .int .i64 0, .int .i64 (IntKind.i64.wrap (x70.len - 1))] w9 [.at .bool] fun (x73 : Bool) =>
  cond (!x73) (
  ∀ w11, Ext w9 w11 →
  Q false w11) (
  LD [.sl] (px1.add 0) w9 fun (x78 : Sl) =>
  LD [.int .i64] (px6.add 0) w9 fun (x80 : Int) =>
  IX x78 x80 1 fun (px81 : Addr) =>
  LD [.sl] px81 w9 fun (x82 : Sl) =>
  LD [.int .i64] (px6.add 1) w9 fun (x84 : Int) =>
  IX x82 x84 2 fun (px85 : Addr) =>
  LD [.int .i64, .int .i64] px85 w9 fun (x86_0 : Int) (x86_1 : Int) =>
  AEQ Tryz.prog (do eqGuard .neq T.t_i_End (.tmp 86) (.tmp 89) (.agg #[.int .i64 x86_0, .int .i64 x86_1]) (.agg #[.int .i64 x39, .int .i64 x49]); binOp .neq T.t_i_End (.agg #[.int .i64 x86_0, .int .i64 x86_1]) (.agg #[.int .i64 x39, .int .i64 x49])) fun (x90 : Bool) =>
  ∀ w12, Ext w9 w12 →
  cond x90 (
  Q false w12) (
  I9 (IntKind.i64.wrap (x49 + 1)) w12 ∧ m9 (IntKind.i64.wrap (x49 + 1)) w12 < m9 x49 w7)))) (
  I4 (IntKind.i64.wrap (x39 + 1)) w7 ∧ m4 (IntKind.i64.wrap (x39 + 1)) w7 < m4 x39 w6))) (
  Q true w6)

def V_s_neGood (Q : Bool → World → Prop) (x0_0 : Sl) (x0_1 : Sl) (x0_2 : Sl) (w : World) : Prop :=
  NEW T.t_i_Network #[x0_0.v, x0_1.v, x0_2.v] w fun (px1 : Addr) w1 =>
  LD [.sl] (px1.add 0) w1 fun (x8 : Sl) =>
  Calls Tryz.prog F.s_l1In #[.int .i64 x8.len, .int .i64 1, .int .i64 40] w1 (Ret [.at .bool] fun (x10 : Bool) w2 =>
  cond (!x10) (
  Q false w2) (
  LD [.sl] (px1.add 1) w2 fun (x14 : Sl) =>
  LD [.sl] (px1.add 0) w2 fun (x16 : Sl) =>
  Calls Tryz.prog F.s_neIds #[x14.v, .int .i64 x16.len] w2 (Ret [.at .bool] fun (x18 : Bool) w3 =>
  cond (!x18) (
  Q false w3) (
  LD [.sl] (px1.add 2) w3 fun (x23 : Sl) =>
  LD [.sl] (px1.add 0) w3 fun (x26 : Sl) =>
  cond ((x23.len : Int) != x26.len) (
  Q false w3) (
  LD [.sl] (px1.add 2) w3 fun (x32 : Sl) =>
  Calls Tryz.prog F.s_l1All #[x32.v, .int .i64 0, .int .i64 9] w3 (Ret [.at .bool] fun (x33 : Bool) w4 =>
  cond (!x33) (
  Q false w4) (
  V_s_neGood_k1 Q px1 w4)))))))

theorem C_s_neGood {Q : Bool → World → Prop} {x0_0 : Sl} {x0_1 : Sl} {x0_2 : Sl} {w : World} (h : V_s_neGood Q x0_0 x0_1 x0_2 w) : Calls Tryz.prog F.s_neGood #[.agg #[x0_0.v, x0_1.v, x0_2.v]] w (Ret [.at .bool] Q) :=
  mkC (hint := hint) (ann := annOf [(4, ⟨[(39, .int .i64)], [2, 3, 4, 5, 6, 40, 41, 42, 43, 44, 45, 46, 47, 48, 49, 50, 51, 52, 53, 54, 55, 56, 57, 58, 59, 60, 61, 62, 63, 64, 65, 66, 67, 68, 69, 70, 71, 72, 73, 74, 75, 76, 77, 78, 79, 80, 81, 82, 83, 84, 85, 86, 87, 88, 89, 90, 91, 92, 93]⟩), (9, ⟨[(49, .int .i64)], [2, 5, 6, 50, 51, 52, 53, 54, 55, 56, 57, 58, 59, 60, 61, 62, 63, 64, 65, 66, 67, 68, 69, 70, 71, 72, 73, 74, 75, 76, 77, 78, 79, 80, 81, 82, 83, 84, 85, 86, 87, 88, 89, 90, 91, 92]⟩)]) (args := [.agg #[x0_0.v, x0_1.v, x0_2.v]]) (rs := [.at .bool]) Tryz.func15 (by kernel_rfl) (by kernel_rfl) h

def V_s_clAsked (Q : Bool → World → Prop) (n_0 : Sl) (n_1 : Sl) (n_2 : Sl) (l : Sl) (k : Int) (a : Int) (w : World) : Prop :=
  NEW T.t_i_Network #[n_0.v, n_1.v, n_2.v] w fun (p_n : Addr) w1 =>
  LD [.sl, .sl, .sl] p_n w1 fun (x9_0 : Sl) (x9_1 : Sl) (x9_2 : Sl) =>
  Calls Tryz.prog F.s_neGood #[.agg #[x9_0.v, x9_1.v, x9_2.v]] w1 (Ret [.at .bool] fun (x10 : Bool) w2 =>
  cond x10 (
  Calls Tryz.prog F.s_clPalette #[.int .i64 k, .int .i64 a] w2 (Ret [.at .bool] fun (x14 : Bool) w3 =>
  cond x14 (
  LD [.sl, .sl, .sl] p_n w3 fun (x17_0 : Sl) (x17_1 : Sl) (x17_2 : Sl) =>
  Calls Tryz.prog F.s_clProper #[.agg #[x17_0.v, x17_1.v, x17_2.v], l.v] w3 (Ret [.at .bool] fun (x19 : Bool) w4 =>
  cond x19 (
  Calls Tryz.prog F.s_l1All #[l.v, .int .i64 0, .int .i64 (IntKind.i64.wrap (k - 1))] w4 (Ret [.at .bool] fun (x25 : Bool) w5 =>
  cond x25 (
  LD [.sl, .sl, .sl] p_n w5 fun (x28_0 : Sl) (x28_1 : Sl) (x28_2 : Sl) =>
  Calls Tryz.prog F.s_neDegrees #[.agg #[x28_0.v, x28_1.v, x28_2.v]] w5 (Ret [.at .sl] fun (x29 : Sl) w6 =>
  Calls Tryz.prog F.s_meMost #[x29.v] w6 (Ret [.at (.int .i64)] fun (x30 : Int) w7 =>
  Q (decide ((x30 : Int) ≤ a)) w7))) (
  Q false w5))) (
  Q false w4))) (
  Q false w3))) (
  Q false w2))

theorem C_s_clAsked {Q : Bool → World → Prop} {n_0 : Sl} {n_1 : Sl} {n_2 : Sl} {l : Sl} {k : Int} {a : Int} {w : World} (h : V_s_clAsked Q n_0 n_1 n_2 l k a w) : Calls Tryz.prog F.s_clAsked #[.agg #[n_0.v, n_1.v, n_2.v], l.v, .int .i64 k, .int .i64 a] w (Ret [.at .bool] Q) :=
  mkC (hint := hint) (ann := annOf []) (args := [.agg #[n_0.v, n_1.v, n_2.v], l.v, .int .i64 k, .int .i64 a]) (rs := [.at .bool]) Tryz.func16 (by kernel_rfl) (by kernel_rfl) h

def V_s_clByIds (Q : Sl → Int → World → Prop) (x0_0 : Sl) (x0_1 : Sl) (x0_2 : Sl) (x1 : Int) (w : World) : Prop :=
  NEW T.t_i_Network #[x0_0.v, x0_1.v, x0_2.v] w fun (px2 : Addr) w1 =>
  LD [.sl] (px2.add 1) w1 fun (x13 : Sl) =>
  Calls Tryz.prog F.s_clParameters #[.int .i64 1000000, .int .i64 x1] w1 (Ret [.at (.int .i64), .at (.int .i64)] fun (x17_0 : Int) (x17_1 : Int) w2 =>
  ∃ (I3 : Sl → Int → Int → Int → Int → World → Prop) (m3 : Sl → Int → Int → Int → Int → World → Nat), I3 x13 1000000 0 x17_0 x17_1 w2 ∧ ∀ (x6 : Sl) (x7 : Int) (x8 : Int) (x9 : Int) (x10 : Int) w3, I3 x6 x7 x8 x9 x10 w3 → ∀ _ _ _ _ _ _ _ _ _ _ _ _ _ _ _ _ _ _ _ _ _ : Value,
  cond (decide (((IntKind.i64.wrap (x9 * x9)) : Int) < x7)) (
  LD [.sl, .sl, .sl] px2 w3 fun (x31_0 : Sl) (x31_1 : Sl) (x31_2 : Sl) =>
  Calls Tryz.prog F.s_clStep #[.agg #[x31_0.v, x31_1.v, x31_2.v], x6.v, .int .i64 x9, .int .i64 x10] w3 (Ret [.at .sl] fun (x35 : Sl) w4 =>
  Calls Tryz.prog F.s_clParameters #[.int .i64 (IntKind.i64.wrap (x9 * x9)), .int .i64 x1] w4 (Ret [.at (.int .i64), .at (.int .i64)] fun (x28_0 : Int) (x28_1 : Int) w5 =>
  I3 x35 (IntKind.i64.wrap (x9 * x9)) (IntKind.i64.wrap (x8 + 1)) x28_0 x28_1 w5 ∧ m3 x35 (IntKind.i64.wrap (x9 * x9)) (IntKind.i64.wrap (x8 + 1)) x28_0 x28_1 w5 < m3 x6 x7 x8 x9 x10 w3))) (
  ∃ (I8 : Sl → Int → Int → World → Prop) (m8 : Sl → Int → Int → World → Nat), I8 x6 x7 x8 w3 ∧ ∀ (x6_2 : Sl) (x7_2 : Int) (x8_2 : Int) w6, I8 x6_2 x7_2 x8_2 w6 → ∀ _ _ _ _ _ _ _ _ _ _ _ _ _ _ _ _ _ : Value,
  cond (decide ((x7_2 : Int) > (IntKind.i64.wrap (2 * (IntKind.i64.wrap (x1 + 1)))))) (
  LD [.sl, .sl, .sl] px2 w6 fun (x47_0 : Sl) (x47_1 : Sl) (x47_2 : Sl) =>
  Calls Tryz.prog F.s_clHalve #[.agg #[x47_0.v, x47_1.v, x47_2.v], x6_2.v, .int .i64 x7_2, .int .i64 x1] w6 (Ret [.at .sl, .at (.int .i64)] fun (x51_0 : Sl) (x51_1 : Int) w7 =>
  I8 x51_0 x51_1 (IntKind.i64.wrap (x8_2 + (IntKind.i64.wrap (x1 + 1)))) w7 ∧ m8 x51_0 x51_1 (IntKind.i64.wrap (x8_2 + (IntKind.i64.wrap (x1 + 1)))) w7 < m8 x6_2 x7_2 x8_2 w6)) (
  LD [.sl, .sl, .sl] px2 w6 fun (x59_0 : Sl) (x59_1 : Sl) (x59_2 : Sl) =>
  Calls Tryz.prog F.s_clGreedy #[.agg #[x59_0.v, x59_1.v, x59_2.v], x6_2.v, .int .i64 x7_2, .int .i64 x1] w6 (Ret [.at .sl, .at (.int .i64)] fun (x63_0 : Sl) (x63_1 : Int) w8 =>
  Q x63_0 (IntKind.i64.wrap (x8_2 + x63_1)) w8))))

theorem C_s_clByIds {Q : Sl → Int → World → Prop} {x0_0 : Sl} {x0_1 : Sl} {x0_2 : Sl} {x1 : Int} {w : World} (h : V_s_clByIds Q x0_0 x0_1 x0_2 x1 w) : Calls Tryz.prog F.s_clByIds #[.agg #[x0_0.v, x0_1.v, x0_2.v], .int .i64 x1] w (Ret [.at .sl, .at (.int .i64)] Q) :=
  mkC (hint := hint) (ann := annOf [(3, ⟨[(6, .sl), (7, .int .i64), (8, .int .i64), (9, .int .i64), (10, .int .i64)], [20, 21, 22, 23, 24, 25, 26, 27, 28, 29, 30, 31, 32, 33, 34, 35, 36, 37, 38, 39, 40]⟩), (8, ⟨[(6, .sl), (7, .int .i64), (8, .int .i64)], [41, 42, 43, 44, 45, 46, 47, 48, 49, 50, 51, 52, 53, 54, 55, 56, 57]⟩)]) (args := [.agg #[x0_0.v, x0_1.v, x0_2.v], .int .i64 x1]) (rs := [.at .sl, .at (.int .i64)]) Tryz.func17 (by kernel_rfl) (by kernel_rfl) h

def V_l_toEndSS (Q : Sl → World → Prop) (a : Sl) (w : World) : Prop :=
  RUN Tryz.prog (.at .sl) (Instr.makeSlice T.t_sl_sl_i_End (.int .i64 a.len) (.int .i64 a.len)) w fun (x7 : Sl) w1 =>
  ∃ (I3 : Int → World → Prop) (m3 : Int → World → Nat), I3 0 w1 ∧ ∀ (i : Int) w2, I3 i w2 → ∀ _ _ _ _ _ _ _ _ _ _ _ _ _ _ : Value,
  cond (decide ((i : Int) < a.len)) (
  IX a i 1 fun (px18 : Addr) =>
  LD [.sl] px18 w2 fun (x19 : Sl) =>
  Calls Tryz.prog F.l_toEndS #[x19.v] w2 (Ret [.at .sl] fun (x20 : Sl) w3 =>
  IX x7 i 1 fun (px21 : Addr) =>
  ST px21 0 [x20.v] w3 fun w4 =>
  I3 (IntKind.i64.wrap (i + 1)) w4 ∧ m3 (IntKind.i64.wrap (i + 1)) w4 < m3 i w2)) (
  Q x7 w2)

theorem C_l_toEndSS {Q : Sl → World → Prop} {a : Sl} {w : World} (h : V_l_toEndSS Q a w) : Calls Tryz.prog F.l_toEndSS #[a.v] w (Ret [.at .sl] Q) :=
  mkC (hint := hint) (ann := annOf [(3, ⟨[(4, .int .i64)], [8, 9, 10, 11, 12, 13, 14, 15, 16, 17, 18, 19, 20, 21]⟩)]) (args := [a.v]) (rs := [.at .sl]) Tryz.func18 (by kernel_rfl) (by kernel_rfl) h

def V_l_toIntS (Q : Sl → World → Prop) (a : Sl) (w : World) : Prop :=
  RUN Tryz.prog (.at .sl) (Instr.makeSlice T.t_sl_int (.int .i64 a.len) (.int .i64 a.len)) w fun (x7 : Sl) w1 =>
  ∃ (I3 : Int → World → Prop) (m3 : Int → World → Nat), I3 0 w1 ∧ ∀ (i : Int) w2, I3 i w2 → ∀ _ _ _ _ _ _ _ _ _ _ _ _ _ : Value,
  cond (decide ((i : Int) < a.len)) (
  IX a i 1 fun (px18 : Addr) =>
  LD [.int .i64] px18 w2 fun (x19 : Int) =>
  IX x7 i 1 fun (px20 : Addr) =>
  ST px20 0 [.int .i64 x19] w2 fun w3 =>
  I3 (IntKind.i64.wrap (i + 1)) w3 ∧ m3 (IntKind.i64.wrap (i + 1)) w3 < m3 i w2) (
  Q x7 w2)

theorem C_l_toIntS {Q : Sl → World → Prop} {a : Sl} {w : World} (h : V_l_toIntS Q a w) : Calls Tryz.prog F.l_toIntS #[a.v] w (Ret [.at .sl] Q) :=
  mkC (hint := hint) (ann := annOf [(3, ⟨[(4, .int .i64)], [8, 9, 10, 11, 12, 13, 14, 15, 16, 17, 18, 19, 20]⟩)]) (args := [a.v]) (rs := [.at .sl]) Tryz.func19 (by kernel_rfl) (by kernel_rfl) h

def V_i_IsNetwork_k1 (Q : Bool → World → Prop) (px1 : Addr) (w5 : World) : Prop :=
  LD [.sl] (px1.add 0) w5 fun (x31 : Sl) =>
  ∃ (I4 : Int → World → Prop) (m4 : Int → World → Nat), I4 0 w5 ∧ ∀ (x33 : Int) w6, I4 x33 w6 → ∀ _ _ _ _ _ _ _ _ _ _ _ _ _ _ _ _ _ _ _ _ _ _ _ _ _ _ _ _ _ _ _ _ _ _ _ _ _ _ _ _ _ _ _ _ : Value,
  cond (decide ((x33 : Int) < x31.len)) (
  IX x31 x33 1 fun (px36 : Addr) =>
  LD [.sl] px36 w6 fun (x37 : Sl) =>
  cond (decide ((x37.len : Int) > 6)) (
  Q false w6) (
  ∃ (I9 : Int → World → Prop) (m9 : Int → World → Nat), I9 0 w6 ∧ ∀ (x43 : Int) w7, I9 x43 w7 → ∀ _ _ _ _ _ _ _ _ _ _ _ _ _ _ _ _ _ _ _ _ _ _ _ _ _ _ _ _ _ _ _ : Value,
  cond (decide ((x43 : Int) < x37.len)) (
  IX x37 x43 2 fun (px46 : Addr) =>
  LD [.int .i64, .int .i64] px46 w7 fun (x47_0 : Int) (x47_1 : Int) =>
  NEW T.t_i_End #[.int .i64 0, .int .i64 0] w7 fun (px6 : Addr) w8 =>
  ST px6 0 [.int .i64 x47_0, .int .i64 x47_1] w8 fun w9 =>
  LD [.sl, .sl, .sl] px1 w9 fun (x48_0 : Sl) (x48_1 : Sl) (x48_2 : Sl) =>
  LD [.int .i64] (px6.add 0) w9 fun (x50 : Int) =>
  LD [.int .i64] (px6.add 1) w9 fun (x52 : Int) =>
  QCALL Tryz.prog F.i_Network_hasPort #[.agg #[x48_0.v, x48_1.v, x48_2.v], .int .i64 x50, .int .i64 x52] w9 [.at .bool] fun (x53 : Bool) =>
  cond (!x53) (
  ∀ w10, Ext w9 w10 →
  Q false w10) (
  LD [.sl] (px1.add 0) w9 fun (x57 : Sl) =>
  LD [.int .i64] (px6.add 0) w9 fun (x59 : Int) =>
  IX x57 x59 1 fun (px60 : Addr) =>
  LD [.sl] px60 w9 fun (x61 : Sl) =>
  LD [.int .i64] (px6.add 1) w9 fun (x63 : Int) =>
  IX x61 x63 2 fun (px64 : Addr) =>
  LD [.int .i64, .int .i64] px64 w9 fun (x65_0 : Int) (x65_1 : Int) =>
  AEQ Tryz.prog (do eqGuard .neq T.t_i_End (.tmp 65) (.tmp 68) (.agg #[.int .i64 x65_0, .int .i64 x65_1]) (.agg #[.int .i64 x33, .int .i64 x43]); binOp .neq T.t_i_End (.agg #[.int .i64 x65_0, .int .i64 x65_1]) (.agg #[.int .i64 x33, .int .i64 x43])) fun (x69 : Bool) =>
  ∀ w11, Ext w9 w11 →
  cond x69 (
  Q false w11) (
  I9 (IntKind.i64.wrap (x43 + 1)) w11 ∧ m9 (IntKind.i64.wrap (x43 + 1)) w11 < m9 x43 w7))) (
  I4 (IntKind.i64.wrap (x33 + 1)) w7 ∧ m4 (IntKind.i64.wrap (x33 + 1)) w7 < m4 x33 w6))) (
  Q true w6)

def V_i_IsNetwork (Q : Bool → World → Prop) (x0_0 : Sl) (x0_1 : Sl) (x0_2 : Sl) (w : World) : Prop :=
  NEW T.t_i_Network #[x0_0.v, x0_1.v, x0_2.v] w fun (px1 : Addr) w1 =>
  LD [.sl] (px1.add 0) w1 fun (x8 : Sl) =>
  Calls Tryz.prog F.i_within #[.int .i64 x8.len, .int .i64 1, .int .i64 40] w1 (Ret [.at .bool] fun (x10 : Bool) w2 =>
  cond (!x10) (
  Q false w2) (
  LD [.sl] (px1.add 1) w2 fun (x14 : Sl) =>
  LD [.sl] (px1.add 0) w2 fun (x16 : Sl) =>
  Calls Tryz.prog F.i_idsOk #[x14.v, .int .i64 x16.len] w2 (Ret [.at .bool] fun (x18 : Bool) w3 =>
  cond (!x18) (
  Q false w3) (
  LD [.sl] (px1.add 2) w3 fun (x23 : Sl) =>
  LD [.sl] (px1.add 0) w3 fun (x25 : Sl) =>
  Calls Tryz.prog F.i_inputsOk #[x23.v, .int .i64 x25.len] w3 (Ret [.at .bool] fun (x27 : Bool) w4 =>
  cond (!x27) (
  Q false w4) (
  V_i_IsNetwork_k1 Q px1 w4))))))

theorem C_i_IsNetwork {Q : Bool → World → Prop} {x0_0 : Sl} {x0_1 : Sl} {x0_2 : Sl} {w : World} (h : V_i_IsNetwork Q x0_0 x0_1 x0_2 w) : Calls Tryz.prog F.i_IsNetwork #[.agg #[x0_0.v, x0_1.v, x0_2.v]] w (Ret [.at .bool] Q) :=
  mkC (hint := hint) (ann := annOf [(4, ⟨[(33, .int .i64)], [2, 3, 4, 5, 6, 34, 35, 36, 37, 38, 39, 40, 41, 42, 43, 44, 45, 46, 47, 48, 49, 50, 51, 52, 53, 54, 55, 56, 57, 58, 59, 60, 61, 62, 63, 64, 65, 66, 67, 68, 69, 70, 71, 72]⟩), (9, ⟨[(43, .int .i64)], [2, 5, 6, 44, 45, 46, 47, 48, 49, 50, 51, 52, 53, 54, 55, 56, 57, 58, 59, 60, 61, 62, 63, 64, 65, 66, 67, 68, 69, 70, 71]⟩)]) (args := [.agg #[x0_0.v, x0_1.v, x0_2.v]]) (rs := [.at .bool]) Tryz.func20 (by kernel_rfl) (by kernel_rfl) h

def V_i_paletteOk (Q : Bool → World → Prop) (n_0 : Sl) (n_1 : Sl) (n_2 : Sl) (colours : Sl) (k : Int) (a : Int) (w : World) : Prop :=
  NEW T.t_i_Network #[n_0.v, n_1.v, n_2.v] w fun (p_n : Addr) w1 =>
  LD [.sl, .sl, .sl] p_n w1 fun (x9_0 : Sl) (x9_1 : Sl) (x9_2 : Sl) =>
  Calls Tryz.prog F.i_IsNetwork #[.agg #[x9_0.v, x9_1.v, x9_2.v]] w1 (Ret [.at .bool] fun (x10 : Bool) w2 =>
  cond x10 (
  Calls Tryz.prog F.i_within #[.int .i64 k, .int .i64 1, .int .i64 1000000000000] w2 (Ret [.at .bool] fun (x13 : Bool) w3 =>
  cond x13 (
  LD [.sl, .sl, .sl] p_n w3 fun (x16_0 : Sl) (x16_1 : Sl) (x16_2 : Sl) =>
  Calls Tryz.prog F.i_isColouring #[.agg #[x16_0.v, x16_1.v, x16_2.v], colours.v] w3 (Ret [.at .bool] fun (x18 : Bool) w4 =>
  cond x18 (
  Calls Tryz.prog F.i_allWithin #[colours.v, .int .i64 0, .int .i64 (IntKind.i64.wrap (k - 1))] w4 (Ret [.at .bool] fun (x24 : Bool) w5 =>
  cond x24 (
  LD [.sl, .sl, .sl] p_n w5 fun (x27_0 : Sl) (x27_1 : Sl) (x27_2 : Sl) =>
  Calls Tryz.prog F.i_isBound #[.agg #[x27_0.v, x27_1.v, x27_2.v], .int .i64 a] w5 (Ret [.at .bool] fun (x29 : Bool) w6 =>
  Q x29 w6)) (
  Q false w5))) (
  Q false w4))) (
  Q false w3))) (
  Q false w2))

theorem C_i_paletteOk {Q : Bool → World → Prop} {n_0 : Sl} {n_1 : Sl} {n_2 : Sl} {colours : Sl} {k : Int} {a : Int} {w : World} (h : V_i_paletteOk Q n_0 n_1 n_2 colours k a w) : Calls Tryz.prog F.i_paletteOk #[.agg #[n_0.v, n_1.v, n_2.v], colours.v, .int .i64 k, .int .i64 a] w (Ret [.at .bool] Q) :=
  mkC (hint := hint) (ann := annOf []) (args := [.agg #[n_0.v, n_1.v, n_2.v], colours.v, .int .i64 k, .int .i64 a]) (rs := [.at .bool]) Tryz.func21 (by kernel_rfl) (by kernel_rfl) h

def V_slices_Clone_sl_int_int (Q : Sl → World → Prop) (s : Sl) (w : World) : Prop :=
  cond s.a.isNone (
  Q (⟨none, 0, 0⟩) w) (
  RUN Tryz.prog (.at .sl) (Instr.buildSlice T.t_sl_int 0 #[]) w fun (x5 : Sl) w1 =>
  RUN Tryz.prog (.at .sl) (bsem .append #[T.t_sl_int, T.t_sl_int] T.t_sl_int #[x5.v, s.v]) w1 fun (x7 : Sl) w2 =>
  Q x7 w2)

theorem C_slices_Clone_sl_int_int {Q : Sl → World → Prop} {s : Sl} {w : World} (h : V_slices_Clone_sl_int_int Q s w) : Calls Tryz.prog F.slices_Clone_sl_int_int #[s.v] w (Ret [.at .sl] Q) :=
  mkC (hint := hint) (ann := annOf []) (args := [s.v]) (rs := [.at .sl]) Tryz.func22 (by kernel_rfl) (by kernel_rfl) h

def V_i_polynomialParameters_k1 (I3 : Int → World → Prop) (m3 : Int → World → Nat) (q : Int) (w1 : World) (w6 : World) : Prop :=
  I3 (IntKind.i64.wrap (q + 1)) w6 ∧ m3 (IntKind.i64.wrap (q + 1)) w6 < m3 q w1

def V_i_polynomialParameters (Q : Int → Int → World → Prop) (k : Int) (a : Int) (w : World) : Prop :=
  ∃ (I3 : Int → World → Prop) (m3 : Int → World → Nat), I3 2 w ∧ ∀ (q : Int) w1, I3 q w1 → ∀ _ _ _ _ _ _ _ _ _ _ _ _ _ _ _ _ _ _ _ _ _ _ _ _ _ _ _ _ _ _ _ _ _ _ _ _ _ _ _ _ : Value,
  Calls Tryz.prog F.i_isPrime #[.int .i64 q] w1 (Ret [.at .bool] fun (x12 : Bool) w2 =>
  cond (!x12) (
  V_i_polynomialParameters_k1 I3 m3 q w1 w2) (
  ∃ (I6 : Int → Int → World → Prop) (m6 : Int → Int → World → Nat), I6 q 1 w2 ∧ ∀ (power : Int) (d : Int) w3, I6 power d w3 → ∀ _ _ _ _ _ _ _ _ _ _ _ _ _ _ _ _ _ _ _ _ _ _ _ : Value,
  cond (decide (((IntKind.i64.wrap (a * d)) : Int) < q)) (
  cond (decide ((power : Int) < k)) (
  RUN Tryz.prog (.at (.int .i64)) (bsem .min #[T.t_int, T.t_int] T.t_int #[.int .i64 (IntKind.i64.wrap (power * q)), .int .i64 1000000000000]) w3 fun (x30_2 : Int) w5 =>
  cond (decide ((x30_2 : Int) ≥ k)) (
  Q q d w5) (
  I6 x30_2 (IntKind.i64.wrap (d + 1)) w5 ∧ m6 x30_2 (IntKind.i64.wrap (d + 1)) w5 < m6 power d w3)) (
  cond (decide ((power : Int) ≥ k)) (
  cond (decide ((a : Int) < q)) (
  Q q 1 w3) (
  V_i_polynomialParameters_k1 I3 m3 q w1 w3)) (
  V_i_polynomialParameters_k1 I3 m3 q w1 w3))) (
  cond (decide ((power : Int) ≥ k)) (
  cond (decide ((a : Int) < q)) (
  Q q 1 w3) (
  V_i_polynomialParameters_k1 I3 m3 q w1 w3)) (
  V_i_polynomialParameters_k1 I3 m3 q w1 w3))))

theorem C_i_polynomialParameters {Q : Int → Int → World → Prop} {k : Int} {a : Int} {w : World} (h : V_i_polynomialParameters Q k a w) : Calls Tryz.prog F.i_polynomialParameters #[.int .i64 k, .int .i64 a] w (Ret [.at (.int .i64), .at (.int .i64)] Q) :=
  mkC (hint := hint) (ann := annOf [(3, ⟨[(6, .int .i64)], [4, 5, 7, 8, 9, 10, 11, 12, 13, 14, 15, 16, 17, 18, 19, 20, 21, 22, 23, 24, 25, 26, 27, 28, 29, 30, 31, 32, 33, 34, 35, 36, 37, 38, 39, 40, 41, 42, 43, 44]⟩), (6, ⟨[(7, .int .i64), (8, .int .i64)], [4, 5, 15, 16, 17, 18, 19, 20, 21, 22, 23, 24, 25, 26, 27, 28, 29, 30, 31, 32, 33, 34, 35]⟩)]) (args := [.int .i64 k, .int .i64 a]) (rs := [.at (.int .i64), .at (.int .i64)]) Tryz.func23 (by kernel_rfl) (by kernel_rfl) h

def V_i_polynomialStep (Q : Sl → Int → World → Prop) (x0_0 : Sl) (x0_1 : Sl) (x0_2 : Sl) (x1 : Sl) (x2 : Int) (x3 : Int) (w : World) : Prop :=
  NEW T.t_i_Network #[x0_0.v, x0_1.v, x0_2.v] w fun (px4 : Addr) w1 =>
  Calls Tryz.prog F.i_polynomialParameters #[.int .i64 x2, .int .i64 x3] w1 (Ret [.at (.int .i64), .at (.int .i64)] fun (x27_0 : Int) (x27_1 : Int) w2 =>
  RUN Tryz.prog (.at .sl) (Instr.makeSlice T.t_sl_sl_int (.int .i64 x1.len) (.int .i64 x1.len)) w2 fun (x32 : Sl) w3 =>
  NEW T.t_sl_sl_int #[.slice none 0 0] w3 fun (px12 : Addr) w4 =>
  ST px12 0 [x32.v] w4 fun w5 =>
  ∃ (I4 : Int → World → Prop) (m4 : Int → World → Nat), I4 0 w5 ∧ ∀ (x35 : Int) w6, I4 x35 w6 → ∀ _ _ _ _ _ _ _ _ _ _ _ _ _ _ _ _ _ _ _ _ _ _ _ _ _ _ _ _ _ _ _ _ _ _ _ _ _ _ _ _ _ _ : Value,
  cond (decide ((x35 : Int) < x1.len)) (
  IX x1 x35 1 fun (px38 : Addr) =>
  LD [.int .i64] px38 w6 fun (x39 : Int) =>
  Calls Tryz.prog F.i_DigitsOf #[.int .i64 x39, .int .i64 x27_0, .int .i64 (IntKind.i64.wrap (x27_1 + 1))] w6 (Ret [.at .sl, .at .bool] fun (x45_0 : Sl) (x45_1 : Bool) w7 =>
  ∃ (I8 : Int → World → Prop) (m8 : Int → World → Nat), I8 0 w7 ∧ ∀ (x49 : Int) w8, I8 x49 w8 → ∀ _ _ _ _ _ _ _ _ _ _ _ _ _ _ _ _ _ _ _ _ _ _ _ : Value,
  cond (decide ((x49 : Int) < x27_0)) (
  Calls Tryz.prog F.i_PolynomialAt #[.int .i64 x27_0, x45_0.v, .int .i64 x49] w8 (Ret [.at (.int .i64), .at .bool] fun (x56_0 : Int) (x56_1 : Bool) w9 =>
  ∀ w10, Ext w9 w10 → w10.heap = w9.heap → ∃ (D10 : Nat → Prop),
  ¬ D10 px12.block ∧ (
  LD [.sl] px12 w10 fun (x59 : Sl) =>
  ¬ D10 px12.block ∧ (
  LD [.sl] px12 w10 fun (x61 : Sl) =>
  IX x61 x35 1 fun (px63 : Addr) =>
  ¬ D10 px63.block ∧ (
  LD [.sl] px63 w10 fun (x64 : Sl) =>
  Chg w10 w10 D10 ∧ (
  RUN Tryz.prog (.at .sl) (Instr.buildSlice T.t_sl_int 1 #[(0, .int .i64 x56_0)]) w10 fun (x66 : Sl) w11 =>
  Chg w10 w11 D10 ∧ (
  RUN Tryz.prog (.at .sl) (bsem .append #[T.t_sl_int, T.t_sl_int] T.t_sl_int #[x64.v, x66.v]) w11 fun (x67 : Sl) w12 =>
  Chg w10 w12 D10 ∧ (
  IX x59 x35 1 fun (px68 : Addr) =>
  ST px68 0 [x67.v] w12 fun w13 =>
  I8 (IntKind.i64.wrap (x49 + 1)) w13 ∧ m8 (IntKind.i64.wrap (x49 + 1)) w13 < m8 x49 w8)))))))) (
  I4 (IntKind.i64.wrap (x35 + 1)) w8 ∧ m4 (IntKind.i64.wrap (x35 + 1)) w8 < m4 x35 w6))) (
  LD [.sl] (px4.add 0) w6 fun (x72 : Sl) =>
  ∃ (I16 : Sl → Int → World → Prop) (m16 : Sl → Int → World → Nat), I16 (⟨none, 0, 0⟩) 0 w6 ∧ ∀ (x20 : Sl) (x74 : Int) w14, I16 x20 x74 w14 → ∀ _ _ _ _ _ _ _ _ _ _ _ _ _ _ _ _ _ _ _ _ _ _ _ _ _ _ _ : Value,
  cond (decide ((x74 : Int) < x72.len)) (
  IX x72 x74 1 fun (px77 : Addr) =>
  LD [.sl] px77 w14 fun (x78 : Sl) =>
  NEW T.t_int #[.int .i64 0] w14 fun (px21 : Addr) w15 =>
  ST px21 0 [.int .i64 x74] w15 fun w16 =>
  NEW T.t_int #[.int .i64 0] w16 fun (px23 : Addr) w17 =>
  ST px23 0 [.int .i64 0] w17 fun w18 =>
  ∃ (I19 : World → Prop) (m19 : World → Nat), I19 w18 ∧ ∀  w19, I19 w19 → ∀ _ _ _ _ _ : Value,
  Calls Tryz.prog F.slices_ContainsFunc_sl_i_End_i_End #[x78.v, .func (.func F.i_polynomialStep_1) #[] #[.pointer (some px12), .pointer (some px23), .pointer (some px21)]] w19 (Ret [.at .bool] fun (x81 : Bool) w20 =>
  cond x81 (
  LD [.int .i64] px23 w20 fun (x82 : Int) =>
  ST px23 0 [.int .i64 (IntKind.i64.wrap (x82 + 1))] w20 fun w21 =>
  I19 w21 ∧ m19 w21 < m19 w19) (
  ∀ w22, Ext w20 w22 → w22.heap = w20.heap → ∃ (D22 : Nat → Prop),
  ¬ D22 px23.block ∧ (
  LD [.int .i64] px23 w22 fun (x85 : Int) =>
  ¬ D22 px12.block ∧ (
  LD [.sl] px12 w22 fun (x88 : Sl) =>
  ¬ D22 px21.block ∧ (
  LD [.int .i64] px21 w22 fun (x89 : Int) =>
  IX x88 x89 1 fun (px90 : Addr) =>
  ¬ D22 px90.block ∧ (
  LD [.sl] px90 w22 fun (x91 : Sl) =>
  LD [.int .i64] px23 w22 fun (x92 : Int) =>
  Chg w22 w22 D22 ∧ (
  IX x91 x92 1 fun (px93 : Addr) =>
  Chg w22 w22 D22 ∧ (
  LD [.int .i64] px93 w22 fun (x94 : Int) =>
  Chg w22 w22 D22 ∧ (
  Chg w22 w22 D22 ∧ (
  RUN Tryz.prog (.at .sl) (Instr.buildSlice T.t_sl_int 1 #[(0, .int .i64 (IntKind.i64.wrap ((IntKind.i64.wrap (x85 * x27_0)) + x94)))]) w22 fun (x96 : Sl) w23 =>
  Chg w22 w23 D22 ∧ (
  RUN Tryz.prog (.at .sl) (bsem .append #[T.t_sl_int, T.t_sl_int] T.t_sl_int #[x20.v, x96.v]) w23 fun (x97 : Sl) w24 =>
  Chg w22 w24 D22 ∧ (
  I16 x97 (IntKind.i64.wrap (x74 + 1)) w24 ∧ m16 x97 (IntKind.i64.wrap (x74 + 1)) w24 < m16 x20 x74 w14))))))))))))) (
  Q x20 (IntKind.i64.wrap (x27_0 * x27_0)) w14)))

theorem C_i_polynomialStep {Q : Sl → Int → World → Prop} {x0_0 : Sl} {x0_1 : Sl} {x0_2 : Sl} {x1 : Sl} {x2 : Int} {x3 : Int} {w : World} (h : V_i_polynomialStep Q x0_0 x0_1 x0_2 x1 x2 x3 w) : Calls Tryz.prog F.i_polynomialStep #[.agg #[x0_0.v, x0_1.v, x0_2.v], x1.v, .int .i64 x2, .int .i64 x3] w (Ret [.at .sl, .at (.int .i64)] Q) :=
  mkC (hint := hint) (ann := annOf [(4, ⟨[(35, .int .i64)], [13, 14, 15, 16, 17, 18, 19, 36, 37, 38, 39, 40, 41, 42, 43, 44, 45, 46, 47, 48, 49, 50, 51, 52, 53, 54, 55, 56, 57, 58, 59, 60, 61, 62, 63, 64, 65, 66, 67, 68, 69, 70]⟩), (8, ⟨[(49, .int .i64)], [17, 18, 19, 50, 51, 52, 53, 54, 55, 56, 57, 58, 59, 60, 61, 62, 63, 64, 65, 66, 67, 68, 69]⟩), (16, ⟨[(20, .sl), (74, .int .i64)], [21, 22, 23, 75, 76, 77, 78, 79, 80, 81, 82, 83, 84, 85, 86, 87, 88, 89, 90, 91, 92, 93, 94, 95, 96, 97, 98]⟩), (19, ⟨[], [79, 80, 81, 82, 83]⟩)]) (args := [.agg #[x0_0.v, x0_1.v, x0_2.v], x1.v, .int .i64 x2, .int .i64 x3]) (rs := [.at .sl, .at (.int .i64)]) Tryz.func24 (by kernel_rfl) (by kernel_rfl) h

def V_i_halveColours (Q : Sl → Int → World → Prop) (x0_0 : Sl) (x0_1 : Sl) (x0_2 : Sl) (x1 : Sl) (x2 : Int) (x3 : Int) (w : World) : Prop :=
  NEW T.t_i_Network #[x0_0.v, x0_1.v, x0_2.v] w fun (px4 : Addr) w1 =>
  Calls Tryz.prog F.slices_Clone_sl_int_int #[x1.v] w1 (Ret [.at .sl] fun (x25 : Sl) w2 =>
  ∃ (I4 : Int → World → Prop) (m4 : Int → World → Nat), I4 0 w2 ∧ ∀ (x28 : Int) w3, I4 x28 w3 → ∀ _ _ _ _ _ _ _ _ _ _ _ _ _ _ _ _ _ _ _ _ _ _ _ _ _ _ _ _ _ _ _ _ _ _ _ _ _ _ _ _ _ _ _ _ _ _ _ _ _ _ _ _ _ _ _ _ _ _ _ _ _ : Value,
  cond (decide ((x28 : Int) < (IntKind.i64.wrap (x3 + 1)))) (
  Calls Tryz.prog F.slices_Clone_sl_int_int #[x25.v] w3 (Ret [.at .sl] fun (x32 : Sl) w4 =>
  ∃ (I8 : Int → World → Prop) (m8 : Int → World → Nat), I8 0 w4 ∧ ∀ (x35 : Int) w5, I8 x35 w5 → ∀ _ _ _ _ _ _ _ _ _ _ _ _ _ _ _ _ _ _ _ _ _ _ _ _ _ _ _ _ _ _ _ _ _ _ _ _ _ _ _ _ _ _ _ _ _ _ _ _ _ _ _ : Value,
  cond (decide ((x35 : Int) < x32.len)) (
  IX x32 x35 1 fun (px38 : Addr) =>
  LD [.int .i64] px38 w5 fun (x39 : Int) =>
  ((IntKind.i64.wrap (2 * (IntKind.i64.wrap (x3 + 1)))) : Int) ≠ 0 ∧ (
  cond (((Int.tmod x39 (IntKind.i64.wrap (2 * (IntKind.i64.wrap (x3 + 1))))) : Int) != (IntKind.i64.wrap ((IntKind.i64.wrap (x3 + 1)) + x28))) (
  I8 (IntKind.i64.wrap (x35 + 1)) w5 ∧ m8 (IntKind.i64.wrap (x35 + 1)) w5 < m8 x35 w5) (
  LD [.sl, .sl, .sl] px4 w5 fun (x48_0 : Sl) (x48_1 : Sl) (x48_2 : Sl) =>
  Calls Tryz.prog F.i_near #[.agg #[x48_0.v, x48_1.v, x48_2.v], .int .i64 x35, x32.v] w5 (Ret [.at .sl] fun (x51 : Sl) w6 =>
  ∃ (I13 : Sl → Int → World → Prop) (m13 : Sl → Int → World → Nat), I13 (⟨none, 0, 0⟩) 0 w6 ∧ ∀ (x16 : Sl) (x53 : Int) w7, I13 x16 x53 w7 → ∀ _ _ _ _ _ _ _ _ _ _ _ _ _ _ _ _ _ _ : Value,
  cond (decide ((x53 : Int) < x51.len)) (
  IX x51 x53 1 fun (px55 : Addr) =>
  LD [.int .i64] px55 w7 fun (x56 : Int) =>
  ((IntKind.i64.wrap (2 * (IntKind.i64.wrap (x3 + 1)))) : Int) ≠ 0 ∧ (
  ((IntKind.i64.wrap (2 * (IntKind.i64.wrap (x3 + 1)))) : Int) ≠ 0 ∧ (
  ∀ w8, Ext w7 w8 →
  cond (((IntKind.i64.wrap (Int.tdiv x56 (IntKind.i64.wrap (2 * (IntKind.i64.wrap (x3 + 1)))))) : Int) == (IntKind.i64.wrap (Int.tdiv x39 (IntKind.i64.wrap (2 * (IntKind.i64.wrap (x3 + 1))))))) (
  ((IntKind.i64.wrap (2 * (IntKind.i64.wrap (x3 + 1)))) : Int) ≠ 0 ∧ (
  RUN Tryz.prog (.at .sl) (Instr.buildSlice T.t_sl_int 1 #[(0, .int .i64 (Int.tmod x56 (IntKind.i64.wrap (2 * (IntKind.i64.wrap (x3 + 1))))))]) w8 fun (x68 : Sl) w9 =>
  RUN Tryz.prog (.at .sl) (bsem .append #[T.t_sl_int, T.t_sl_int] T.t_sl_int #[x16.v, x68.v]) w9 fun (x69 : Sl) w10 =>
  I13 x69 (IntKind.i64.wrap (x53 + 1)) w10 ∧ m13 x69 (IntKind.i64.wrap (x53 + 1)) w10 < m13 x16 x53 w7)) (
  I13 x16 (IntKind.i64.wrap (x53 + 1)) w8 ∧ m13 x16 (IntKind.i64.wrap (x53 + 1)) w8 < m13 x16 x53 w7)))) (
  ∀ w11, Ext w7 w11 → w11.heap = w7.heap → ∃ (D11 : Nat → Prop),
  ((IntKind.i64.wrap (2 * (IntKind.i64.wrap (x3 + 1)))) : Int) ≠ 0 ∧ (
  Chg w11 w11 D11 ∧ (
  Calls Tryz.prog F.i_leastFree #[x16.v] w11 (Ret [.at (.int .i64)] fun (x79 : Int) w12 =>
  Chg w11 w12 D11 ∧ (
  Chg w11 w12 D11 ∧ (
  IX x25 x35 1 fun (px81 : Addr) =>
  ST px81 0 [.int .i64 (IntKind.i64.wrap ((IntKind.i64.wrap (x39 - (Int.tmod x39 (IntKind.i64.wrap (2 * (IntKind.i64.wrap (x3 + 1))))))) + x79))] w12 fun w13 =>
  I8 (IntKind.i64.wrap (x35 + 1)) w13 ∧ m8 (IntKind.i64.wrap (x35 + 1)) w13 < m8 x35 w5)))))))))) (
  I4 (IntKind.i64.wrap (x28 + 1)) w5 ∧ m4 (IntKind.i64.wrap (x28 + 1)) w5 < m4 x28 w3))) (
  ∃ (I22 : Int → World → Prop) (m22 : Int → World → Nat), I22 0 w3 ∧ ∀ (x86 : Int) w14, I22 x86 w14 → ∀ _ _ _ _ _ _ _ _ _ _ _ _ _ _ _ _ _ _ _ _ : Value,
  cond (decide ((x86 : Int) < x25.len)) (
  IX x25 x86 1 fun (px89 : Addr) =>
  LD [.int .i64] px89 w14 fun (x90 : Int) =>
  ∀ w15, Ext w14 w15 → w15.heap = w14.heap → ∃ (D15 : Nat → Prop),
  ((IntKind.i64.wrap (2 * (IntKind.i64.wrap (x3 + 1)))) : Int) ≠ 0 ∧ (
  Chg w15 w15 D15 ∧ (
  ((IntKind.i64.wrap (2 * (IntKind.i64.wrap (x3 + 1)))) : Int) ≠ 0 ∧ (
  Chg w15 w15 D15 ∧ (
  Chg w15 w15 D15 ∧ (
  IX x25 x86 1 fun (px103 : Addr) =>
  ST px103 0 [.int .i64 (IntKind.i64.wrap ((IntKind.i64.wrap ((IntKind.i64.wrap (Int.tdiv x90 (IntKind.i64.wrap (2 * (IntKind.i64.wrap (x3 + 1)))))) * (IntKind.i64.wrap (x3 + 1)))) + (Int.tmod x90 (IntKind.i64.wrap (2 * (IntKind.i64.wrap (x3 + 1)))))))] w15 fun w16 =>
  I22 (IntKind.i64.wrap (x86 + 1)) w16 ∧ m22 (IntKind.i64.wrap (x86 + 1)) w16 < m22 x86 w14)))))) (
  ((IntKind.i64.wrap (2 * (IntKind.i64.wrap (x3 + 1)))) : Int) ≠ 0 ∧ (
  ∀ w17, Ext w14 w17 →
  Q x25 (IntKind.i64.wrap ((IntKind.i64.wrap (x3 + 1)) * (IntKind.i64.wrap (Int.tdiv (IntKind.i64.wrap ((IntKind.i64.wrap (x2 + (IntKind.i64.wrap (2 * (IntKind.i64.wrap (x3 + 1)))))) - 1)) (IntKind.i64.wrap (2 * (IntKind.i64.wrap (x3 + 1)))))))) w17))))

theorem C_i_halveColours {Q : Sl → Int → World → Prop} {x0_0 : Sl} {x0_1 : Sl} {x0_2 : Sl} {x1 : Sl} {x2 : Int} {x3 : Int} {w : World} (h : V_i_halveColours Q x0_0 x0_1 x0_2 x1 x2 x3 w) : Calls Tryz.prog F.i_halveColours #[.agg #[x0_0.v, x0_1.v, x0_2.v], x1.v, .int .i64 x2, .int .i64 x3] w (Ret [.at .sl, .at (.int .i64)] Q) :=
  mkC (hint := hint) (ann := annOf [(4, ⟨[(28, .int .i64)], [12, 13, 14, 15, 16, 18, 29, 30, 31, 32, 33, 34, 35, 36, 37, 38, 39, 40, 41, 42, 43, 44, 45, 46, 47, 48, 49, 50, 51, 52, 53, 54, 55, 56, 57, 58, 59, 60, 61, 62, 63, 64, 65, 66, 67, 68, 69, 70, 71, 72, 73, 74, 75, 76, 77, 78, 79, 80, 81, 82, 83]⟩), (8, ⟨[(35, .int .i64)], [14, 15, 16, 18, 36, 37, 38, 39, 40, 41, 42, 43, 44, 45, 46, 47, 48, 49, 50, 51, 52, 53, 54, 55, 56, 57, 58, 59, 60, 61, 62, 63, 64, 65, 66, 67, 68, 69, 70, 71, 72, 73, 74, 75, 76, 77, 78, 79, 80, 81, 82]⟩), (13, ⟨[(16, .sl), (53, .int .i64)], [18, 54, 55, 56, 57, 58, 59, 60, 61, 62, 63, 64, 65, 66, 67, 68, 69, 70]⟩), (22, ⟨[(86, .int .i64)], [19, 20, 87, 88, 89, 90, 91, 92, 93, 94, 95, 96, 97, 98, 99, 100, 101, 102, 103, 104]⟩)]) (args := [.agg #[x0_0.v, x0_1.v, x0_2.v], x1.v, .int .i64 x2, .int .i64 x3]) (rs := [.at .sl, .at (.int .i64)]) Tryz.func25 (by kernel_rfl) (by kernel_rfl) h

def V_i_greedyReduce (Q : Sl → Int → World → Prop) (n_0 : Sl) (n_1 : Sl) (n_2 : Sl) (colours : Sl) (k : Int) (a : Int) (w : World) : Prop :=
  NEW T.t_i_Network #[n_0.v, n_1.v, n_2.v] w fun (p_n : Addr) w1 =>
  Calls Tryz.prog F.slices_Max_sl_int_int #[colours.v] w1 (Ret [.at (.int .i64)] fun (x12 : Int) w2 =>
  ∃ (I2 : Sl → Int → World → Prop) (m2 : Sl → Int → World → Nat), I2 colours x12 w2 ∧ ∀ (colours_2 : Sl) (greatest : Int) w3, I2 colours_2 greatest w3 → ∀ _ _ _ _ _ _ _ _ _ : Value,
  cond (decide ((greatest : Int) > a)) (
  LD [.sl, .sl, .sl] p_n w3 fun (x18_0 : Sl) (x18_1 : Sl) (x18_2 : Sl) =>
  Calls Tryz.prog F.i_dropColour #[.agg #[x18_0.v, x18_1.v, x18_2.v], colours_2.v, .int .i64 greatest] w3 (Ret [.at .sl] fun (x21 : Sl) w4 =>
  Calls Tryz.prog F.slices_Max_sl_int_int #[x21.v] w4 (Ret [.at (.int .i64)] fun (x17 : Int) w5 =>
  I2 x21 x17 w5 ∧ m2 x21 x17 w5 < m2 colours_2 greatest w3))) (
  Calls Tryz.prog F.slices_Clone_sl_int_int #[colours_2.v] w3 (Ret [.at .sl] fun (x23 : Sl) w6 =>
  RUN Tryz.prog (.at (.int .i64)) (bsem .max #[T.t_int, T.t_int] T.t_int #[.int .i64 (IntKind.i64.wrap ((IntKind.i64.wrap (k - 1)) - a)), .int .i64 0]) w6 fun (x28 : Int) w7 =>
  Q x23 x28 w7)))

theorem C_i_greedyReduce {Q : Sl → Int → World → Prop} {n_0 : Sl} {n_1 : Sl} {n_2 : Sl} {colours : Sl} {k : Int} {a : Int} {w : World} (h : V_i_greedyReduce Q n_0 n_1 n_2 colours k a w) : Calls Tryz.prog F.i_greedyReduce #[.agg #[n_0.v, n_1.v, n_2.v], colours.v, .int .i64 k, .int .i64 a] w (Ret [.at .sl, .at (.int .i64)] Q) :=
  mkC (hint := hint) (ann := annOf [(2, ⟨[(1, .sl), (10, .int .i64)], [13, 14, 15, 16, 17, 18, 19, 20, 21]⟩)]) (args := [.agg #[n_0.v, n_1.v, n_2.v], colours.v, .int .i64 k, .int .i64 a]) (rs := [.at .sl, .at (.int .i64)]) Tryz.func26 (by kernel_rfl) (by kernel_rfl) h

def V_l_eqEndSS (Q : Bool → World → Prop) (a : Sl) (b : Sl) (w : World) : Prop :=
  cond ((a.len : Int) != b.len) (
  Q false w) (
  ∃ (I4 : Int → World → Prop) (m4 : Int → World → Nat), I4 0 w ∧ ∀ (i : Int) w1, I4 i w1 → ∀ _ _ _ _ _ _ _ _ _ _ _ _ _ _ _ _ _ : Value,
  cond (decide ((i : Int) < a.len)) (
  IX a i 1 fun (px19 : Addr) =>
  LD [.sl] px19 w1 fun (x20 : Sl) =>
  IX b i 1 fun (px23 : Addr) =>
  LD [.sl] px23 w1 fun (x24 : Sl) =>
  QCALL Tryz.prog F.l_eqEndS #[x20.v, x24.v] w1 [.at .bool] fun (x25 : Bool) =>
  ∀ w2, Ext w1 w2 →
  cond (!x25) (
  Q false w2) (
  I4 (IntKind.i64.wrap (i + 1)) w2 ∧ m4 (IntKind.i64.wrap (i + 1)) w2 < m4 i w1)) (
  Q true w1))

theorem C_l_eqEndSS {Q : Bool → World → Prop} {a : Sl} {b : Sl} {w : World} (h : V_l_eqEndSS Q a b w) : Calls Tryz.prog F.l_eqEndSS #[a.v, b.v] w (Ret [.at .bool] Q) :=
  mkC (hint := hint) (ann := annOf [(4, ⟨[(5, .int .i64)], [4, 11, 12, 13, 14, 15, 16, 17, 18, 19, 20, 21, 22, 23, 24, 25, 26]⟩)]) (args := [a.v, b.v]) (rs := [.at .bool]) Tryz.func27 (by kernel_rfl) (by kernel_rfl) h

def V_l_markEndSS (Q : Int → World → Prop) (a : Sl) (k : Int) (w : World) : Prop :=
  ∃ (I2 : Int → Int → World → Prop) (m2 : Int → Int → World → Nat), I2 k 0 w ∧ ∀ (k_2 : Int) (i : Int) w1, I2 k_2 i w1 → ∀ _ _ _ _ _ _ _ _ _ _ _ _ : Value,
  cond (decide ((i : Int) < a.len)) (
  IX a i 1 fun (px14 : Addr) =>
  LD [.sl] px14 w1 fun (x15 : Sl) =>
  Calls Tryz.prog F.l_markEndS #[x15.v, .int .i64 k_2] w1 (Ret [.at (.int .i64)] fun (x17 : Int) w2 =>
  I2 x17 (IntKind.i64.wrap (i + 1)) w2 ∧ m2 x17 (IntKind.i64.wrap (i + 1)) w2 < m2 k_2 i w1)) (
  Q k_2 w1)

theorem C_l_markEndSS {Q : Int → World → Prop} {a : Sl} {k : Int} {w : World} (h : V_l_markEndSS Q a k w) : Calls Tryz.prog F.l_markEndSS #[a.v, .int .i64 k] w (Ret [.at (.int .i64)] Q) :=
  mkC (hint := hint) (ann := annOf [(2, ⟨[(1, .int .i64), (5, .int .i64)], [6, 7, 8, 9, 10, 11, 12, 13, 14, 15, 16, 17]⟩)]) (args := [a.v, .int .i64 k]) (rs := [.at (.int .i64)]) Tryz.func28 (by kernel_rfl) (by kernel_rfl) h

def V_l_szEndS (Q : Int → World → Prop) (a : Sl) (left : Int) (w : World) : Prop :=
  cond (decide (((IntKind.i64.wrap (left - a.len)) : Int) < 0)) (
  Q (-1) w) (
  Q (IntKind.i64.wrap (left - a.len)) w)

theorem C_l_szEndS {Q : Int → World → Prop} {a : Sl} {left : Int} {w : World} (h : V_l_szEndS Q a left w) : Calls Tryz.prog F.l_szEndS #[a.v, .int .i64 left] w (Ret [.at (.int .i64)] Q) :=
  mkC (hint := hint) (ann := annOf []) (args := [a.v, .int .i64 left]) (rs := [.at (.int .i64)]) Tryz.func29 (by kernel_rfl) (by kernel_rfl) h

def V_s_l1In (Q : Bool → World → Prop) (n : Int) (lo : Int) (hi : Int) (w : World) : Prop :=
  cond (decide ((n : Int) ≥ lo)) (
  Q (decide ((n : Int) ≤ hi)) w) (
  Q false w)

theorem C_s_l1In {Q : Bool → World → Prop} {n : Int} {lo : Int} {hi : Int} {w : World} (h : V_s_l1In Q n lo hi w) : Calls Tryz.prog F.s_l1In #[.int .i64 n, .int .i64 lo, .int .i64 hi] w (Ret [.at .bool] Q) :=
  mkC (hint := hint) (ann := annOf []) (args := [.int .i64 n, .int .i64 lo, .int .i64 hi]) (rs := [.at .bool]) Tryz.func30 (by kernel_rfl) (by kernel_rfl) h

def V_s_neIds (Q : Bool → World → Prop) (ids : Sl) (nodes : Int) (w : World) : Prop :=
  ∃ (I2 : Int → World → Prop) (m2 : Int → World → Nat), I2 0 w ∧ ∀ (x9 : Int) w1, I2 x9 w1 → ∀ _ _ _ _ _ _ _ _ _ _ _ _ _ _ _ _ _ _ : Value,
  cond (decide ((x9 : Int) < ids.len)) (
  IX ids x9 1 fun (px12 : Addr) =>
  LD [.int .i64] px12 w1 fun (x13 : Int) =>
  Calls Tryz.prog F.s_l1In #[.int .i64 x13, .int .i64 1, .int .i64 999999] w1 (Ret [.at .bool] fun (x15 : Bool) w2 =>
  cond (!x15) (
  Q false w2) (
  SLC ids none (some x9) 1 fun (x20 : Sl) =>
  Calls Tryz.prog F.s_l1Has #[x20.v, .int .i64 x13] w2 (Ret [.at .bool] fun (x22 : Bool) w3 =>
  cond x22 (
  Q false w3) (
  I2 (IntKind.i64.wrap (x9 + 1)) w3 ∧ m2 (IntKind.i64.wrap (x9 + 1)) w3 < m2 x9 w1))))) (
  cond ((ids.len : Int) == 0) (
  Q true w1) (
  Q ((ids.len : Int) == nodes) w1))

theorem C_s_neIds {Q : Bool → World → Prop} {ids : Sl} {nodes : Int} {w : World} (h : V_s_neIds Q ids nodes w) : Calls Tryz.prog F.s_neIds #[ids.v, .int .i64 nodes] w (Ret [.at .bool] Q) :=
  mkC (hint := hint) (ann := annOf [(2, ⟨[(9, .int .i64)], [4, 5, 6, 10, 11, 12, 13, 14, 15, 16, 17, 18, 19, 20, 21, 22, 23, 24]⟩)]) (args := [ids.v, .int .i64 nodes]) (rs := [.at .bool]) Tryz.func31 (by kernel_rfl) (by kernel_rfl) h

def V_s_l1All (Q : Bool → World → Prop) (l : Sl) (lo : Int) (hi : Int) (w : World) : Prop :=
  ∃ (I2 : Int → World → Prop) (m2 : Int → World → Nat), I2 0 w ∧ ∀ (x11 : Int) w1, I2 x11 w1 → ∀ _ _ _ _ _ _ _ _ _ _ _ : Value,
  cond (decide ((x11 : Int) < l.len)) (
  IX l x11 1 fun (px13 : Addr) =>
  LD [.int .i64] px13 w1 fun (x14 : Int) =>
  Calls Tryz.prog F.s_l1In #[.int .i64 x14, .int .i64 lo, .int .i64 hi] w1 (Ret [.at .bool] fun (x18 : Bool) w2 =>
  cond (!x18) (
  Q false w2) (
  I2 (IntKind.i64.wrap (x11 + 1)) w2 ∧ m2 (IntKind.i64.wrap (x11 + 1)) w2 < m2 x11 w1))) (
  Q true w1)

theorem C_s_l1All {Q : Bool → World → Prop} {l : Sl} {lo : Int} {hi : Int} {w : World} (h : V_s_l1All Q l lo hi w) : Calls Tryz.prog F.s_l1All #[l.v, .int .i64 lo, .int .i64 hi] w (Ret [.at .bool] Q) :=
  mkC (hint := hint) (ann := annOf [(2, ⟨[(11, .int .i64)], [6, 8, 12, 13, 14, 15, 16, 17, 18, 19, 20]⟩)]) (args := [l.v, .int .i64 lo, .int .i64 hi]) (rs := [.at .bool]) Tryz.func32 (by kernel_rfl) (by kernel_rfl) h

def V_s_clPalette (Q : Bool → World → Prop) (k : Int) (a : Int) (w : World) : Prop :=
  Calls Tryz.prog F.s_l1In #[.int .i64 k, .int .i64 1, .int .i64 1000000000000] w (Ret [.at .bool] fun (x6 : Bool) w1 =>
  cond x6 (
  Calls Tryz.prog F.s_l1In #[.int .i64 a, .int .i64 0, .int .i64 6] w1 (Ret [.at .bool] fun (x9 : Bool) w2 =>
  Q x9 w2)) (
  Q false w1))

theorem C_s_clPalette {Q : Bool → World → Prop} {k : Int} {a : Int} {w : World} (h : V_s_clPalette Q k a w) : Calls Tryz.prog F.s_clPalette #[.int .i64 k, .int .i64 a] w (Ret [.at .bool] Q) :=
  mkC (hint := hint) (ann := annOf []) (args := [.int .i64 k, .int .i64 a]) (rs := [.at .bool]) Tryz.func33 (by kernel_rfl) (by kernel_rfl) h

end Go.Proofs.YtoeaoinedidbiaaGreat
