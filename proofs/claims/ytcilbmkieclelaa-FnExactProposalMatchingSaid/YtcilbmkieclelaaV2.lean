/- What each function's code computes to. Printed by a program. -/
import Derived.Test.YtcilbmkieclelaaNames
namespace Go.Proofs.Ytcilbmkieclelaa
open Go.GX Go.RowKit
set_option linter.unusedVariables false
set_option maxRecDepth 100000

def V_s_IndependentByIds_k1 (Q : Sl → Int → Bool → World → Prop) (px1 : Addr) (w3 : World) : Prop :=
  LD [.sl] (px1.add 0) w3 fun (x28 : Sl) =>
  ∃ (I5 : Sl → Int → World → Prop) (m5 : Sl → Int → World → Nat), I5 (⟨none, 0, 0⟩) 0 w3 ∧ ∀ (x5 : Sl) (x30 : Int) w4, I5 x5 x30 w4 → ∀ _ _ _ _ _ _ _ _ _ _ _ _ : Value,
  cond (decide ((x30 : Int) < x28.len)) (
  LD [.sl, .sl, .sl] px1 w4 fun (x33_0 : Sl) (x33_1 : Sl) (x33_2 : Sl) =>
  Calls Try.prog F.s_mtOwn #[.agg #[x33_0.v, x33_1.v, x33_2.v], .int .i64 x30] w4 (Ret [.at .bool] fun (x35 : Bool) w5 =>
  cond (!x35) (
  RUN Try.prog (.at .sl) (Instr.buildSlice T.t_sl_int 1 #[(0, .int .i64 x30)]) w5 fun (x39 : Sl) w6 =>
  RUN Try.prog (.at .sl) (bsem .append #[T.t_sl_int, T.t_sl_int] T.t_sl_int #[x5.v, x39.v]) w6 fun (x40 : Sl) w7 =>
  I5 x40 (IntKind.i64.wrap (x30 + 1)) w7 ∧ m5 x40 (IntKind.i64.wrap (x30 + 1)) w7 < m5 x5 x30 w4) (
  I5 x5 (IntKind.i64.wrap (x30 + 1)) w5 ∧ m5 x5 (IntKind.i64.wrap (x30 + 1)) w5 < m5 x5 x30 w4))) (
  ∃ (I11 : Sl → Sl → Int → World → Prop) (m11 : Sl → Sl → Int → World → Nat), I11 x5 (⟨none, 0, 0⟩) 0 w4 ∧ ∀ (x5_2 : Sl) (x6 : Sl) (x8 : Int) w8, I11 x5_2 x6 x8 w8 → ∀ _ _ _ _ _ _ _ _ _ _ _ _ _ _ _ _ _ _ _ _ _ _ _ _ _ _ _ _ _ _ _ _ _ _ _ _ _ _ _ _ _ _ _ _ _ _ _ _ _ _ _ _ _ _ _ _ _ _ _ _ _ _ _ _ _ _ _ _ _ _ _ _ _ _ _ _ _ : Value,
  cond (decide ((x5_2.len : Int) > 0)) (
  ∃ (I15 : Sl → Sl → Int → World → Prop) (m15 : Sl → Sl → Int → World → Nat), I15 x6 (⟨none, 0, 0⟩) 0 w8 ∧ ∀ (x6_2 : Sl) (x9 : Sl) (x49 : Int) w9, I15 x6_2 x9 x49 w9 → ∀ _ _ _ _ _ _ _ _ _ _ _ _ _ _ _ _ _ _ _ _ _ _ _ _ _ _ _ _ _ _ _ _ _ _ _ _ _ _ _ _ _ _ _ _ : Value,
  cond (decide ((x49 : Int) < x5_2.len)) (
  IX x5_2 x49 1 fun (px51 : Addr) =>
  LD [.int .i64] px51 w9 fun (x52 : Int) =>
  LD [.sl, .sl, .sl] px1 w9 fun (x53_0 : Sl) (x53_1 : Sl) (x53_2 : Sl) =>
  Calls Try.prog F.s_neNear #[.agg #[x53_0.v, x53_1.v, x53_2.v], .int .i64 x52] w9 (Ret [.at .sl] fun (x55 : Sl) w10 =>
  ∃ (I19 : Bool → Int → World → Prop) (m19 : Bool → Int → World → Nat), I19 true 0 w10 ∧ ∀ (x12 : Bool) (x57 : Int) w11, I19 x12 x57 w11 → ∀ _ _ _ _ _ _ _ _ _ _ _ _ _ _ _ _ _ _ _ _ _ _ _ _ _ : Value,
  cond (decide ((x57 : Int) < x55.len)) (
  IX x55 x57 1 fun (px59 : Addr) =>
  LD [.int .i64] px59 w11 fun (x60 : Int) =>
  cond x12 (
  QCALL Try.prog F.s_l1Has #[x5_2.v, .int .i64 x60] w11 [.at .bool] fun (x65 : Bool) =>
  cond (!x65) (
  ∀ w12, Ext w11 w12 →
  I19 true (IntKind.i64.wrap (x57 + 1)) w12 ∧ m19 true (IntKind.i64.wrap (x57 + 1)) w12 < m19 x12 x57 w11) (
  LD [.sl] (px1.add 1) w11 fun (x69 : Sl) =>
  IX x69 x52 1 fun (px71 : Addr) =>
  LD [.int .i64] px71 w11 fun (x72 : Int) =>
  LD [.sl] (px1.add 1) w11 fun (x74 : Sl) =>
  IX x74 x60 1 fun (px76 : Addr) =>
  LD [.int .i64] px76 w11 fun (x77 : Int) =>
  ∀ w13, Ext w11 w13 →
  I19 (decide ((x72 : Int) < x77)) (IntKind.i64.wrap (x57 + 1)) w13 ∧ m19 (decide ((x72 : Int) < x77)) (IntKind.i64.wrap (x57 + 1)) w13 < m19 x12 x57 w11)) (
  ∀ w14, Ext w11 w14 →
  I19 false (IntKind.i64.wrap (x57 + 1)) w14 ∧ m19 false (IntKind.i64.wrap (x57 + 1)) w14 < m19 x12 x57 w11)) (
  cond x12 (
  RUN Try.prog (.at .sl) (Instr.buildSlice T.t_sl_int 1 #[(0, .int .i64 x52)]) w11 fun (x85 : Sl) w15 =>
  RUN Try.prog (.at .sl) (bsem .append #[T.t_sl_int, T.t_sl_int] T.t_sl_int #[x9.v, x85.v]) w15 fun (x86 : Sl) w16 =>
  Calls Try.prog F.s_l1Put #[x6_2.v, .int .i64 x52] w16 (Ret [.at .sl] fun (x89 : Sl) w17 =>
  I15 x89 x86 (IntKind.i64.wrap (x49 + 1)) w17 ∧ m15 x89 x86 (IntKind.i64.wrap (x49 + 1)) w17 < m15 x6_2 x9 x49 w9)) (
  I15 x6_2 x9 (IntKind.i64.wrap (x49 + 1)) w11 ∧ m15 x6_2 x9 (IntKind.i64.wrap (x49 + 1)) w11 < m15 x6_2 x9 x49 w9)))) (
  ∃ (I29 : Sl → Int → World → Prop) (m29 : Sl → Int → World → Nat), I29 (⟨none, 0, 0⟩) 0 w9 ∧ ∀ (x15 : Sl) (x93 : Int) w18, I29 x15 x93 w18 → ∀ _ _ _ _ _ _ _ _ _ _ _ _ _ _ _ _ _ _ _ : Value,
  cond (decide ((x93 : Int) < x5_2.len)) (
  IX x5_2 x93 1 fun (px95 : Addr) =>
  LD [.int .i64] px95 w18 fun (x96 : Int) =>
  Calls Try.prog F.s_l1Has #[x9.v, .int .i64 x96] w18 (Ret [.at .bool] fun (x99 : Bool) w19 =>
  cond (!x99) (
  LD [.sl, .sl, .sl] px1 w19 fun (x102_0 : Sl) (x102_1 : Sl) (x102_2 : Sl) =>
  Calls Try.prog F.s_mtApart #[.agg #[x102_0.v, x102_1.v, x102_2.v], .int .i64 x96, x9.v] w19 (Ret [.at .bool] fun (x105 : Bool) w20 =>
  cond x105 (
  RUN Try.prog (.at .sl) (Instr.buildSlice T.t_sl_int 1 #[(0, .int .i64 x96)]) w20 fun (x109 : Sl) w21 =>
  RUN Try.prog (.at .sl) (bsem .append #[T.t_sl_int, T.t_sl_int] T.t_sl_int #[x15.v, x109.v]) w21 fun (x110 : Sl) w22 =>
  I29 x110 (IntKind.i64.wrap (x93 + 1)) w22 ∧ m29 x110 (IntKind.i64.wrap (x93 + 1)) w22 < m29 x15 x93 w18) (
  I29 x15 (IntKind.i64.wrap (x93 + 1)) w20 ∧ m29 x15 (IntKind.i64.wrap (x93 + 1)) w20 < m29 x15 x93 w18))) (
  I29 x15 (IntKind.i64.wrap (x93 + 1)) w19 ∧ m29 x15 (IntKind.i64.wrap (x93 + 1)) w19 < m29 x15 x93 w18))) (
  I11 x15 x6_2 (IntKind.i64.wrap (x8 + 1)) w18 ∧ m11 x15 x6_2 (IntKind.i64.wrap (x8 + 1)) w18 < m11 x5_2 x6 x8 w8))) (
  Q x6 x8 true w8))

def V_s_IndependentByIds (Q : Sl → Int → Bool → World → Prop) (x0_0 : Sl) (x0_1 : Sl) (x0_2 : Sl) (w : World) : Prop :=
  NEW T.t_i_Network #[x0_0.v, x0_1.v, x0_2.v] w fun (px1 : Addr) w1 =>
  LD [.sl, .sl, .sl] px1 w1 fun (x18_0 : Sl) (x18_1 : Sl) (x18_2 : Sl) =>
  Calls Try.prog F.s_neGood #[.agg #[x18_0.v, x18_1.v, x18_2.v]] w1 (Ret [.at .bool] fun (x19 : Bool) w2 =>
  cond (!x19) (
  Q (⟨none, 0, 0⟩) 0 false w2) (
  LD [.sl] (px1.add 1) w2 fun (x23 : Sl) =>
  cond ((x23.len : Int) == 0) (
  Q (⟨none, 0, 0⟩) 0 false w2) (
  V_s_IndependentByIds_k1 Q px1 w2)))

theorem C_s_IndependentByIds {Q : Sl → Int → Bool → World → Prop} {x0_0 : Sl} {x0_1 : Sl} {x0_2 : Sl} {w : World} (h : V_s_IndependentByIds Q x0_0 x0_1 x0_2 w) : Calls Try.prog F.s_IndependentByIds #[.agg #[x0_0.v, x0_1.v, x0_2.v]] w (Ret [.at .sl, .at (.int .i64), .at .bool] Q) :=
  mkC (hint := hint) (ann := annOf [(5, ⟨[(5, .sl), (30, .int .i64)], [7, 31, 32, 33, 34, 35, 36, 37, 38, 39, 40, 41]⟩), (11, ⟨[(5, .sl), (6, .sl), (8, .int .i64)], [9, 11, 12, 14, 15, 17, 42, 43, 44, 45, 46, 47, 48, 49, 50, 51, 52, 53, 54, 55, 56, 57, 58, 59, 60, 61, 62, 63, 64, 65, 66, 67, 68, 69, 70, 71, 72, 73, 74, 75, 76, 77, 78, 79, 80, 81, 82, 83, 84, 85, 86, 87, 88, 89, 90, 91, 92, 93, 94, 95, 96, 97, 98, 99, 100, 101, 102, 103, 104, 105, 106, 107, 108, 109, 110, 111, 112]⟩), (15, ⟨[(6, .sl), (9, .sl), (49, .int .i64)], [11, 12, 14, 50, 51, 52, 53, 54, 55, 56, 57, 58, 59, 60, 61, 62, 63, 64, 65, 66, 67, 68, 69, 70, 71, 72, 73, 74, 75, 76, 77, 78, 79, 80, 81, 82, 83, 84, 85, 86, 87, 88, 89, 90]⟩), (19, ⟨[(12, .bool), (57, .int .i64)], [14, 58, 59, 60, 61, 62, 63, 64, 65, 66, 67, 68, 69, 70, 71, 72, 73, 74, 75, 76, 77, 78, 79, 80, 81]⟩), (29, ⟨[(15, .sl), (93, .int .i64)], [17, 94, 95, 96, 97, 98, 99, 100, 101, 102, 103, 104, 105, 106, 107, 108, 109, 110, 111]⟩)]) (args := [.agg #[x0_0.v, x0_1.v, x0_2.v]]) (rs := [.at .sl, .at (.int .i64), .at .bool]) Try.func43 (by kernel_rfl) (by kernel_rfl) h

def V_i_IndependentByIds (Q : Sl → Int → Bool → World → Prop) (n_0 : Sl) (n_1 : Sl) (n_2 : Sl) (w : World) : Prop :=
  NEW T.t_i_Network #[n_0.v, n_1.v, n_2.v] w fun (p_n : Addr) w1 =>
  LD [.sl, .sl, .sl] p_n w1 fun (x7_0 : Sl) (x7_1 : Sl) (x7_2 : Sl) =>
  Calls Try.prog F.i_IsNetwork #[.agg #[x7_0.v, x7_1.v, x7_2.v]] w1 (Ret [.at .bool] fun (x8 : Bool) w2 =>
  cond (!x8) (
  Q (⟨none, 0, 0⟩) 0 false w2) (
  LD [.sl] (p_n.add 1) w2 fun (x12 : Sl) =>
  cond ((x12.len : Int) == 0) (
  Q (⟨none, 0, 0⟩) 0 false w2) (
  LD [.sl, .sl, .sl] p_n w2 fun (x17_0_2 : Sl) (x17_1_2 : Sl) (x17_2_2 : Sl) =>
  Calls Try.prog F.i_independentByIds #[.agg #[x17_0_2.v, x17_1_2.v, x17_2_2.v]] w2 (Ret [.at .sl, .at (.int .i64)] fun (x18_0_2 : Sl) (x18_1_2 : Int) w4 =>
  Q x18_0_2 x18_1_2 true w4))))

theorem C_i_IndependentByIds {Q : Sl → Int → Bool → World → Prop} {n_0 : Sl} {n_1 : Sl} {n_2 : Sl} {w : World} (h : V_i_IndependentByIds Q n_0 n_1 n_2 w) : Calls Try.prog F.i_IndependentByIds #[.agg #[n_0.v, n_1.v, n_2.v]] w (Ret [.at .sl, .at (.int .i64), .at .bool] Q) :=
  mkC (hint := hint) (ann := annOf []) (args := [.agg #[n_0.v, n_1.v, n_2.v]]) (rs := [.at .sl, .at (.int .i64), .at .bool]) Try.func44 (by kernel_rfl) (by kernel_rfl) h

def V_s_ProposalMatching (Q : Sl → Int → Bool → World → Prop) (n_0 : Sl) (n_1 : Sl) (n_2 : Sl) (sides : Sl) (w : World) : Prop :=
  NEW T.t_i_Network #[n_0.v, n_1.v, n_2.v] w fun (p_n : Addr) w1 =>
  LD [.sl, .sl, .sl] p_n w1 fun (x9_0 : Sl) (x9_1 : Sl) (x9_2 : Sl) =>
  Calls Try.prog F.s_neGood #[.agg #[x9_0.v, x9_1.v, x9_2.v]] w1 (Ret [.at .bool] fun (x10 : Bool) w2 =>
  cond (!x10) (
  Q (⟨none, 0, 0⟩) 0 false w2) (
  LD [.sl, .sl, .sl] p_n w2 fun (x13_0 : Sl) (x13_1 : Sl) (x13_2 : Sl) =>
  Calls Try.prog F.s_mtSides #[.agg #[x13_0.v, x13_1.v, x13_2.v], sides.v] w2 (Ret [.at .bool] fun (x15 : Bool) w3 =>
  cond (!x15) (
  Q (⟨none, 0, 0⟩) 0 false w3) (
  LD [.sl, .sl, .sl] p_n w3 fun (x19_0_2 : Sl) (x19_1_2 : Sl) (x19_2_2 : Sl) =>
  Calls Try.prog F.s_mtProposals #[.agg #[x19_0_2.v, x19_1_2.v, x19_2_2.v], sides.v] w3 (Ret [.at .sl, .at (.int .i64)] fun (x21_0_2 : Sl) (x21_1_2 : Int) w5 =>
  Q x21_0_2 x21_1_2 true w5)))))

theorem C_s_ProposalMatching {Q : Sl → Int → Bool → World → Prop} {n_0 : Sl} {n_1 : Sl} {n_2 : Sl} {sides : Sl} {w : World} (h : V_s_ProposalMatching Q n_0 n_1 n_2 sides w) : Calls Try.prog F.s_ProposalMatching #[.agg #[n_0.v, n_1.v, n_2.v], sides.v] w (Ret [.at .sl, .at (.int .i64), .at .bool] Q) :=
  mkC (hint := hint) (ann := annOf []) (args := [.agg #[n_0.v, n_1.v, n_2.v], sides.v]) (rs := [.at .sl, .at (.int .i64), .at .bool]) Try.func45 (by kernel_rfl) (by kernel_rfl) h

def V_i_ProposalMatching_k1 (Q : Sl → Int → Bool → World → Prop) (p_n : Addr) (p_sides : Addr) (w5 : World) : Prop :=
  LD [.sl, .sl, .sl] p_n w5 fun (x25_0 : Sl) (x25_1 : Sl) (x25_2 : Sl) =>
  Calls Try.prog F.i_Network_edges #[.agg #[x25_0.v, x25_1.v, x25_2.v]] w5 (Ret [.at .sl] fun (x26 : Sl) w6 =>
  Calls Try.prog F.slices_ContainsFunc_sl_i_edge_i_edge #[x26.v, .func (.func F.i_ProposalMatching_1) #[] #[.pointer (some p_sides)]] w6 (Ret [.at .bool] fun (x28 : Bool) w7 =>
  cond x28 (
  Q (⟨none, 0, 0⟩) 0 false w7) (
  LD [.sl, .sl, .sl] p_n w7 fun (x30_0 : Sl) (x30_1 : Sl) (x30_2 : Sl) =>
  LD [.sl] p_sides w7 fun (x31 : Sl) =>
  Calls Try.prog F.i_proposalMatching #[.agg #[x30_0.v, x30_1.v, x30_2.v], x31.v] w7 (Ret [.at .sl, .at (.int .i64)] fun (x32_0 : Sl) (x32_1 : Int) w8 =>
  Q x32_0 x32_1 true w8))))

def V_i_ProposalMatching (Q : Sl → Int → Bool → World → Prop) (n_0 : Sl) (n_1 : Sl) (n_2 : Sl) (sides : Sl) (w : World) : Prop :=
  NEW T.t_i_Network #[n_0.v, n_1.v, n_2.v] w fun (p_n : Addr) w1 =>
  NEW T.t_sl_int #[sides.v] w1 fun (p_sides : Addr) w2 =>
  LD [.sl, .sl, .sl] p_n w2 fun (x9_0 : Sl) (x9_1 : Sl) (x9_2 : Sl) =>
  Calls Try.prog F.i_IsNetwork #[.agg #[x9_0.v, x9_1.v, x9_2.v]] w2 (Ret [.at .bool] fun (x10 : Bool) w3 =>
  cond (!x10) (
  Q (⟨none, 0, 0⟩) 0 false w3) (
  LD [.sl] p_sides w3 fun (x13 : Sl) =>
  LD [.sl] (p_n.add 0) w3 fun (x16 : Sl) =>
  cond ((x13.len : Int) != x16.len) (
  Q (⟨none, 0, 0⟩) 0 false w3) (
  LD [.sl] p_sides w3 fun (x21 : Sl) =>
  Calls Try.prog F.i_allWithin #[x21.v, .int .i64 0, .int .i64 1] w3 (Ret [.at .bool] fun (x22 : Bool) w4 =>
  cond (!x22) (
  Q (⟨none, 0, 0⟩) 0 false w4) (
  V_i_ProposalMatching_k1 Q p_n p_sides w4)))))

theorem C_i_ProposalMatching {Q : Sl → Int → Bool → World → Prop} {n_0 : Sl} {n_1 : Sl} {n_2 : Sl} {sides : Sl} {w : World} (h : V_i_ProposalMatching Q n_0 n_1 n_2 sides w) : Calls Try.prog F.i_ProposalMatching #[.agg #[n_0.v, n_1.v, n_2.v], sides.v] w (Ret [.at .sl, .at (.int .i64), .at .bool] Q) :=
  mkC (hint := hint) (ann := annOf []) (args := [.agg #[n_0.v, n_1.v, n_2.v], sides.v]) (rs := [.at .sl, .at (.int .i64), .at .bool]) Try.func46 (by kernel_rfl) (by kernel_rfl) h

def V_l_szEndSS (Q : Int → World → Prop) (a : Sl) (left : Int) (w : World) : Prop :=
  cond (decide (((IntKind.i64.wrap (left - a.len)) : Int) < 0)) (
  Q (-1) w) (
  ∃ (I5 : Int → Int → World → Prop) (m5 : Int → Int → World → Nat), I5 (IntKind.i64.wrap (left - a.len)) 0 w ∧ ∀ (left_2 : Int) (i : Int) w1, I5 left_2 i w1 → ∀ _ _ _ _ _ _ _ _ _ _ _ _ _ _ _ : Value,
  cond (decide ((i : Int) < a.len)) (
  IX a i 1 fun (px20 : Addr) =>
  LD [.sl] px20 w1 fun (x21 : Sl) =>
  Calls Try.prog F.l_szEndS #[x21.v, .int .i64 left_2] w1 (Ret [.at (.int .i64)] fun (x23 : Int) w2 =>
  cond (decide ((x23 : Int) < 0)) (
  Q (-1) w2) (
  I5 x23 (IntKind.i64.wrap (i + 1)) w2 ∧ m5 x23 (IntKind.i64.wrap (i + 1)) w2 < m5 left_2 i w1))) (
  Q left_2 w1))

theorem C_l_szEndSS {Q : Int → World → Prop} {a : Sl} {left : Int} {w : World} (h : V_l_szEndSS Q a left w) : Calls Try.prog F.l_szEndSS #[a.v, .int .i64 left] w (Ret [.at (.int .i64)] Q) :=
  mkC (hint := hint) (ann := annOf [(5, ⟨[(1, .int .i64), (5, .int .i64)], [4, 12, 13, 14, 15, 16, 17, 18, 19, 20, 21, 22, 23, 24, 25]⟩)]) (args := [a.v, .int .i64 left]) (rs := [.at (.int .i64)]) Try.func47 (by kernel_rfl) (by kernel_rfl) h

def V_l_szIntS (Q : Int → World → Prop) (a : Sl) (left : Int) (w : World) : Prop :=
  cond (decide (((IntKind.i64.wrap (left - a.len)) : Int) < 0)) (
  Q (-1) w) (
  Q (IntKind.i64.wrap (left - a.len)) w)

theorem C_l_szIntS {Q : Int → World → Prop} {a : Sl} {left : Int} {w : World} (h : V_l_szIntS Q a left w) : Calls Try.prog F.l_szIntS #[a.v, .int .i64 left] w (Ret [.at (.int .i64)] Q) :=
  mkC (hint := hint) (ann := annOf []) (args := [a.v, .int .i64 left]) (rs := [.at (.int .i64)]) Try.func48 (by kernel_rfl) (by kernel_rfl) h

def V_s_neGood_k1 (Q : Bool → World → Prop) (px1 : Addr) (w5 : World) : Prop :=
  LD [.sl] (px1.add 0) w5 fun (x37 : Sl) =>
  ∃ (I4 : Int → World → Prop) (m4 : Int → World → Nat), I4 0 w5 ∧ ∀ (x39 : Int) w6, I4 x39 w6 → ∀ _ _ _ _ _ _ _ _ _ _ _ _ _ _ _ _ _ _ _ _ _ _ _ _ _ _ _ _ _ _ _ _ _ _ _ _ _ _ _ _ _ _ _ _ _ _ _ _ _ _ _ _ _ _ _ _ _ _ _ : Value,
  cond (decide ((x39 : Int) < x37.len)) (
  IX x37 x39 1 fun (px42 : Addr) =>
  LD [.sl] px42 w6 fun (x43 : Sl) =>
  cond (decide ((x43.len : Int) > 6)) (
  Q false w6) (
  ∃ (I9 : Int → World → Prop) (m9 : Int → World → Nat), I9 0 w6 ∧ ∀ (x49 : Int) w7, I9 x49 w7 → ∀ _ _ _ _ _ _ _ _ _ _ _ _ _ _ _ _ _ _ _ _ _ _ _ _ _ _ _ _ _ _ _ _ _ _ _ _ _ _ _ _ _ _ _ _ _ _ : Value,
  cond (decide ((x49 : Int) < x43.len)) (
  IX x43 x49 2 fun (px52 : Addr) =>
  LD [.int .i64, .int .i64] px52 w7 fun (x53_0 : Int) (x53_1 : Int) =>
  NEW T.t_i_End #[.int .i64 0, .int .i64 0] w7 fun (px6 : Addr) w8 =>
  ST px6 0 [.int .i64 x53_0, .int .i64 x53_1] w8 fun w9 =>
  LD [.int .i64] (px6.add 0) w9 fun (x55 : Int) =>
  LD [.sl] (px1.add 0) w9 fun (x57 : Sl) =>
  QCALL Try.prog F.s_l1In #[.int .i64 x55, .int .i64 0, .int .i64 (IntKind.i64.wrap (x57.len - 1))] w9 [.at .bool] fun (x60 : Bool) =>
  cond (!x60) (
  ∀ w10, Ext w9 w10 →
  Q false w10) (
  LD [.int .i64] (px6.add 1) w9 fun (x64 : Int) =>
  LD [.sl] (px1.add 0) w9 fun (x66 : Sl) =>
  LD [.int .i64] (px6.add 0) w9 fun (x68 : Int) =>
  IX x66 x68 1 fun (px69 : Addr) =>
  LD [.sl] px69 w9 fun (x70 : Sl) =>
  QCALL Try.prog F.s_l1In #[.int .i64 x64, .int .i64 0, .int .i64 (IntKind.i64.wrap (x70.len - 1))] w9 [.at .bool] fun (x73 : Bool) =>
  cond (!x73) (
  ∀ w11, Ext w9 w11 →
  Q false w11) (
  LD [.sl] (px1.add 0) w9 fun (x78 : Sl) =>
  LD [.int .i64] (px6.add 0) w9 fun (x80 : Int) =>
  IX x78 x80 1 fun (px81 : Addr) =>
  LD [.sl] px81 w9 fun (x82 : Sl) =>
  LD [.int .i64] (px6.add 1) w9 fun (x84 : Int) =>
  IX x82 x84 2 fun (px85 : Addr) =>
  LD [.int .i64, .int .i64] px85 w9 fun (x86_0 : Int) (x86_1 : Int) =>
  AEQ Try.prog (do eqGuard .neq T.t_i_End (.tmp 86) (.tmp 89) (.agg #[.int .i64 x86_0, .int .i64 x86_1]) (.agg #[.int .i64 x39, .int .i64 x49]); binOp .neq T.t_i_End (.agg #[.int .i64 x86_0, .int .i64 x86_1]) (.agg #[.int .i64 x39, .int .i64 x49])) fun (x90 : Bool) =>
  ∀ w12, Ext w9 w12 →
  cond x90 (
  Q false w12) (
  I9 (IntKind.i64.wrap (x49 + 1)) w12 ∧ m9 (IntKind.i64.wrap (x49 + 1)) w12 < m9 x49 w7)))) (
  I4 (IntKind.i64.wrap (x39 + 1)) w7 ∧ m4 (IntKind.i64.wrap (x39 + 1)) w7 < m4 x39 w6))) (
  Q true w6)

def V_s_neGood (Q : Bool → World → Prop) (x0_0 : Sl) (x0_1 : Sl) (x0_2 : Sl) (w : World) : Prop :=
  NEW T.t_i_Network #[x0_0.v, x0_1.v, x0_2.v] w fun (px1 : Addr) w1 =>
  LD [.sl] (px1.add 0) w1 fun (x8 : Sl) =>
  Calls Try.prog F.s_l1In #[.int .i64 x8.len, .int .i64 1, .int .i64 40] w1 (Ret [.at .bool] fun (x10 : Bool) w2 =>
  cond (!x10) (
  Q false w2) (
  LD [.sl] (px1.add 1) w2 fun (x14 : Sl) =>
  LD [.sl] (px1.add 0) w2 fun (x16 : Sl) =>
  Calls Try.prog F.s_neIds #[x14.v, .int .i64 x16.len] w2 (Ret [.at .bool] fun (x18 : Bool) w3 =>
  cond (!x18) (
  Q false w3) (
  LD [.sl] (px1.add 2) w3 fun (x23 : Sl) =>
  LD [.sl] (px1.add 0) w3 fun (x26 : Sl) =>
  cond ((x23.len : Int) != x26.len) (
  Q false w3) (
  LD [.sl] (px1.add 2) w3 fun (x32 : Sl) =>
  Calls Try.prog F.s_l1All #[x32.v, .int .i64 0, .int .i64 9] w3 (Ret [.at .bool] fun (x33 : Bool) w4 =>
  cond (!x33) (
  Q false w4) (
  V_s_neGood_k1 Q px1 w4)))))))

theorem C_s_neGood {Q : Bool → World → Prop} {x0_0 : Sl} {x0_1 : Sl} {x0_2 : Sl} {w : World} (h : V_s_neGood Q x0_0 x0_1 x0_2 w) : Calls Try.prog F.s_neGood #[.agg #[x0_0.v, x0_1.v, x0_2.v]] w (Ret [.at .bool] Q) :=
  mkC (hint := hint) (ann := annOf [(4, ⟨[(39, .int .i64)], [2, 3, 4, 5, 6, 40, 41, 42, 43, 44, 45, 46, 47, 48, 49, 50, 51, 52, 53, 54, 55, 56, 57, 58, 59, 60, 61, 62, 63, 64, 65, 66, 67, 68, 69, 70, 71, 72, 73, 74, 75, 76, 77, 78, 79, 80, 81, 82, 83, 84, 85, 86, 87, 88, 89, 90, 91, 92, 93]⟩), (9, ⟨[(49, .int .i64)], [2, 5, 6, 50, 51, 52, 53, 54, 55, 56, 57, 58, 59, 60, 61, 62, 63, 64, 65, 66, 67, 68, 69, 70, 71, 72, 73, 74, 75, 76, 77, 78, 79, 80, 81, 82, 83, 84, 85, 86, 87, 88, 89, 90, 91, 92]⟩)]) (args := [.agg #[x0_0.v, x0_1.v, x0_2.v]]) (rs := [.at .bool]) Try.func49 (by kernel_rfl) (by kernel_rfl) h

def V_s_clEdges (Q : Bool → World → Prop) (x0_0 : Sl) (x0_1 : Sl) (x0_2 : Sl) (x1 : Sl) (w : World) : Prop :=
  NEW T.t_i_Network #[x0_0.v, x0_1.v, x0_2.v] w fun (px2 : Addr) w1 =>
  LD [.sl] (px2.add 0) w1 fun (x16 : Sl) =>
  cond ((x1.len : Int) != x16.len) (
  Q false w1) (
  ∃ (I4 : Int → World → Prop) (m4 : Int → World → Nat), I4 0 w1 ∧ ∀ (x21 : Int) w2, I4 x21 w2 → ∀ _ _ _ _ _ _ _ _ _ _ _ _ _ _ _ _ _ _ _ _ _ _ _ _ _ _ _ _ _ _ _ _ _ _ _ _ _ : Value,
  cond (decide ((x21 : Int) < x1.len)) (
  IX x1 x21 1 fun (px24 : Addr) =>
  LD [.sl] px24 w2 fun (x25 : Sl) =>
  LD [.sl] (px2.add 0) w2 fun (x29 : Sl) =>
  IX x29 x21 1 fun (px31 : Addr) =>
  LD [.sl] px31 w2 fun (x32 : Sl) =>
  cond ((x25.len : Int) != x32.len) (
  Q false w2) (
  Calls Try.prog F.s_l1All #[x25.v, .int .i64 0, .int .i64 1000000000000] w2 (Ret [.at .bool] fun (x37 : Bool) w3 =>
  cond (!x37) (
  Q false w3) (
  ∃ (I9_2 : Int → World → Prop) (m9_2 : Int → World → Nat), I9_2 0 w3 ∧ ∀ (x42_2 : Int) w6, I9_2 x42_2 w6 → ∀ _ _ _ _ _ _ _ _ _ _ _ _ _ : Value,
  cond (decide ((x42_2 : Int) < x25.len)) (
  IX x25 x42_2 1 fun (px45_2 : Addr) =>
  LD [.int .i64] px45_2 w6 fun (x46_2 : Int) =>
  SLC x25 none (some x42_2) 1 fun (x49_2 : Sl) =>
  Calls Try.prog F.s_l1Has #[x49_2.v, .int .i64 x46_2] w6 (Ret [.at .bool] fun (x51_2 : Bool) w7 =>
  cond x51_2 (
  Q false w7) (
  I9_2 (IntKind.i64.wrap (x42_2 + 1)) w7 ∧ m9_2 (IntKind.i64.wrap (x42_2 + 1)) w7 < m9_2 x42_2 w6))) (
  I4 (IntKind.i64.wrap (x21 + 1)) w6 ∧ m4 (IntKind.i64.wrap (x21 + 1)) w6 < m4 x21 w2))))) (
  ∃ (I16 : Int → World → Prop) (m16 : Int → World → Nat), I16 0 w2 ∧ ∀ (x56 : Int) w8, I16 x56 w8 → ∀ _ _ _ _ _ _ _ _ _ _ _ _ _ _ _ _ _ _ _ _ _ _ _ _ _ _ _ _ _ _ _ _ _ _ _ _ : Value,
  cond (decide ((x56 : Int) < x1.len)) (
  IX x1 x56 1 fun (px59 : Addr) =>
  LD [.sl] px59 w8 fun (x60 : Sl) =>
  LD [.sl] (px2.add 0) w8 fun (x62 : Sl) =>
  IX x62 x56 1 fun (px64 : Addr) =>
  LD [.sl] px64 w8 fun (x65 : Sl) =>
  ∃ (I19 : Int → World → Prop) (m19 : Int → World → Nat), I19 0 w8 ∧ ∀ (x67 : Int) w9, I19 x67 w9 → ∀ _ _ _ _ _ _ _ _ _ _ _ _ _ _ _ _ _ _ _ _ _ _ : Value,
  cond (decide ((x67 : Int) < x65.len)) (
  IX x65 x67 2 fun (px70 : Addr) =>
  LD [.int .i64, .int .i64] px70 w9 fun (x71_0 : Int) (x71_1 : Int) =>
  NEW T.t_i_End #[.int .i64 0, .int .i64 0] w9 fun (px12 : Addr) w10 =>
  ST px12 0 [.int .i64 x71_0, .int .i64 x71_1] w10 fun w11 =>
  LD [.int .i64] (px12.add 0) w11 fun (x74 : Int) =>
  IX x1 x74 1 fun (px75 : Addr) =>
  LD [.sl] px75 w11 fun (x76 : Sl) =>
  LD [.int .i64] (px12.add 1) w11 fun (x78 : Int) =>
  IX x76 x78 1 fun (px79 : Addr) =>
  LD [.int .i64] px79 w11 fun (x80 : Int) =>
  IX x60 x67 1 fun (px83 : Addr) =>
  LD [.int .i64] px83 w11 fun (x84 : Int) =>
  ∀ w12, Ext w11 w12 →
  cond ((x80 : Int) != x84) (
  Q false w12) (
  I19 (IntKind.i64.wrap (x67 + 1)) w12 ∧ m19 (IntKind.i64.wrap (x67 + 1)) w12 < m19 x67 w9)) (
  I16 (IntKind.i64.wrap (x56 + 1)) w9 ∧ m16 (IntKind.i64.wrap (x56 + 1)) w9 < m16 x56 w8)) (
  Q true w8)))

theorem C_s_clEdges {Q : Bool → World → Prop} {x0_0 : Sl} {x0_1 : Sl} {x0_2 : Sl} {x1 : Sl} {w : World} (h : V_s_clEdges Q x0_0 x0_1 x0_2 x1 w) : Calls Try.prog F.s_clEdges #[.agg #[x0_0.v, x0_1.v, x0_2.v], x1.v] w (Ret [.at .bool] Q) :=
  mkC (hint := hint) (ann := annOf [(4, ⟨[(21, .int .i64)], [4, 5, 6, 7, 8, 22, 23, 24, 25, 26, 27, 28, 29, 30, 31, 32, 33, 34, 35, 36, 37, 38, 39, 40, 41, 42, 43, 44, 45, 46, 47, 48, 49, 50, 51, 52, 53]⟩), (9, ⟨[(42, .int .i64)], [4, 7, 8, 43, 44, 45, 46, 47, 48, 49, 50, 51, 52]⟩), (16, ⟨[(56, .int .i64)], [4, 9, 10, 11, 12, 57, 58, 59, 60, 61, 62, 63, 64, 65, 66, 67, 68, 69, 70, 71, 72, 73, 74, 75, 76, 77, 78, 79, 80, 81, 82, 83, 84, 85, 86, 87]⟩), (19, ⟨[(67, .int .i64)], [4, 11, 12, 68, 69, 70, 71, 72, 73, 74, 75, 76, 77, 78, 79, 80, 81, 82, 83, 84, 85, 86]⟩)]) (args := [.agg #[x0_0.v, x0_1.v, x0_2.v], x1.v]) (rs := [.at .bool]) Try.func50 (by kernel_rfl) (by kernel_rfl) h

def V_l_toEndSS (Q : Sl → World → Prop) (a : Sl) (w : World) : Prop :=
  RUN Try.prog (.at .sl) (Instr.makeSlice T.t_sl_sl_i_End (.int .i64 a.len) (.int .i64 a.len)) w fun (x7 : Sl) w1 =>
  ∃ (I3 : Int → World → Prop) (m3 : Int → World → Nat), I3 0 w1 ∧ ∀ (i : Int) w2, I3 i w2 → ∀ _ _ _ _ _ _ _ _ _ _ _ _ _ _ : Value,
  cond (decide ((i : Int) < a.len)) (
  IX a i 1 fun (px18 : Addr) =>
  LD [.sl] px18 w2 fun (x19 : Sl) =>
  Calls Try.prog F.l_toEndS #[x19.v] w2 (Ret [.at .sl] fun (x20 : Sl) w3 =>
  IX x7 i 1 fun (px21 : Addr) =>
  ST px21 0 [x20.v] w3 fun w4 =>
  I3 (IntKind.i64.wrap (i + 1)) w4 ∧ m3 (IntKind.i64.wrap (i + 1)) w4 < m3 i w2)) (
  Q x7 w2)

theorem C_l_toEndSS {Q : Sl → World → Prop} {a : Sl} {w : World} (h : V_l_toEndSS Q a w) : Calls Try.prog F.l_toEndSS #[a.v] w (Ret [.at .sl] Q) :=
  mkC (hint := hint) (ann := annOf [(3, ⟨[(4, .int .i64)], [8, 9, 10, 11, 12, 13, 14, 15, 16, 17, 18, 19, 20, 21]⟩)]) (args := [a.v]) (rs := [.at .sl]) Try.func51 (by kernel_rfl) (by kernel_rfl) h

def V_i_IsNetwork_k1 (Q : Bool → World → Prop) (px1 : Addr) (w5 : World) : Prop :=
  LD [.sl] (px1.add 0) w5 fun (x31 : Sl) =>
  ∃ (I4 : Int → World → Prop) (m4 : Int → World → Nat), I4 0 w5 ∧ ∀ (x33 : Int) w6, I4 x33 w6 → ∀ _ _ _ _ _ _ _ _ _ _ _ _ _ _ _ _ _ _ _ _ _ _ _ _ _ _ _ _ _ _ _ _ _ _ _ _ _ _ _ _ _ _ _ _ : Value,
  cond (decide ((x33 : Int) < x31.len)) (
  IX x31 x33 1 fun (px36 : Addr) =>
  LD [.sl] px36 w6 fun (x37 : Sl) =>
  cond (decide ((x37.len : Int) > 6)) (
  Q false w6) (
  ∃ (I9 : Int → World → Prop) (m9 : Int → World → Nat), I9 0 w6 ∧ ∀ (x43 : Int) w7, I9 x43 w7 → ∀ _ _ _ _ _ _ _ _ _ _ _ _ _ _ _ _ _ _ _ _ _ _ _ _ _ _ _ _ _ _ _ : Value,
  cond (decide ((x43 : Int) < x37.len)) (
  IX x37 x43 2 fun (px46 : Addr) =>
  LD [.int .i64, .int .i64] px46 w7 fun (x47_0 : Int) (x47_1 : Int) =>
  NEW T.t_i_End #[.int .i64 0, .int .i64 0] w7 fun (px6 : Addr) w8 =>
  ST px6 0 [.int .i64 x47_0, .int .i64 x47_1] w8 fun w9 =>
  LD [.sl, .sl, .sl] px1 w9 fun (x48_0 : Sl) (x48_1 : Sl) (x48_2 : Sl) =>
  LD [.int .i64] (px6.add 0) w9 fun (x50 : Int) =>
  LD [.int .i64] (px6.add 1) w9 fun (x52 : Int) =>
  QCALL Try.prog F.i_Network_hasPort #[.agg #[x48_0.v, x48_1.v, x48_2.v], .int .i64 x50, .int .i64 x52] w9 [.at .bool] fun (x53 : Bool) =>
  cond (!x53) (
  ∀ w10, Ext w9 w10 →
  Q false w10) (
  LD [.sl] (px1.add 0) w9 fun (x57 : Sl) =>
  LD [.int .i64] (px6.add 0) w9 fun (x59 : Int) =>
  IX x57 x59 1 fun (px60 : Addr) =>
  LD [.sl] px60 w9 fun (x61 : Sl) =>
  LD [.int .i64] (px6.add 1) w9 fun (x63 : Int) =>
  IX x61 x63 2 fun (px64 : Addr) =>
  LD [.int .i64, .int .i64] px64 w9 fun (x65_0 : Int) (x65_1 : Int) =>
  AEQ Try.prog (do eqGuard .neq T.t_i_End (.tmp 65) (.tmp 68) (.agg #[.int .i64 x65_0, .int .i64 x65_1]) (.agg #[.int .i64 x33, .int .i64 x43]); binOp .neq T.t_i_End (.agg #[.int .i64 x65_0, .int .i64 x65_1]) (.agg #[.int .i64 x33, .int .i64 x43])) fun (x69 : Bool) =>
  ∀ w11, Ext w9 w11 →
  cond x69 (
  Q false w11) (
  I9 (IntKind.i64.wrap (x43 + 1)) w11 ∧ m9 (IntKind.i64.wrap (x43 + 1)) w11 < m9 x43 w7))) (
  I4 (IntKind.i64.wrap (x33 + 1)) w7 ∧ m4 (IntKind.i64.wrap (x33 + 1)) w7 < m4 x33 w6))) (
  Q true w6)

def V_i_IsNetwork (Q : Bool → World → Prop) (x0_0 : Sl) (x0_1 : Sl) (x0_2 : Sl) (w : World) : Prop :=
  NEW T.t_i_Network #[x0_0.v, x0_1.v, x0_2.v] w fun (px1 : Addr) w1 =>
  LD [.sl] (px1.add 0) w1 fun (x8 : Sl) =>
  Calls Try.prog F.i_within #[.int .i64 x8.len, .int .i64 1, .int .i64 40] w1 (Ret [.at .bool] fun (x10 : Bool) w2 =>
  cond (!x10) (
  Q false w2) (
  LD [.sl] (px1.add 1) w2 fun (x14 : Sl) =>
  LD [.sl] (px1.add 0) w2 fun (x16 : Sl) =>
  Calls Try.prog F.i_idsOk #[x14.v, .int .i64 x16.len] w2 (Ret [.at .bool] fun (x18 : Bool) w3 =>
  cond (!x18) (
  Q false w3) (
  LD [.sl] (px1.add 2) w3 fun (x23 : Sl) =>
  LD [.sl] (px1.add 0) w3 fun (x25 : Sl) =>
  Calls Try.prog F.i_inputsOk #[x23.v, .int .i64 x25.len] w3 (Ret [.at .bool] fun (x27 : Bool) w4 =>
  cond (!x27) (
  Q false w4) (
  V_i_IsNetwork_k1 Q px1 w4))))))

theorem C_i_IsNetwork {Q : Bool → World → Prop} {x0_0 : Sl} {x0_1 : Sl} {x0_2 : Sl} {w : World} (h : V_i_IsNetwork Q x0_0 x0_1 x0_2 w) : Calls Try.prog F.i_IsNetwork #[.agg #[x0_0.v, x0_1.v, x0_2.v]] w (Ret [.at .bool] Q) :=
  mkC (hint := hint) (ann := annOf [(4, ⟨[(33, .int .i64)], [2, 3, 4, 5, 6, 34, 35, 36, 37, 38, 39, 40, 41, 42, 43, 44, 45, 46, 47, 48, 49, 50, 51, 52, 53, 54, 55, 56, 57, 58, 59, 60, 61, 62, 63, 64, 65, 66, 67, 68, 69, 70, 71, 72]⟩), (9, ⟨[(43, .int .i64)], [2, 5, 6, 44, 45, 46, 47, 48, 49, 50, 51, 52, 53, 54, 55, 56, 57, 58, 59, 60, 61, 62, 63, 64, 65, 66, 67, 68, 69, 70, 71]⟩)]) (args := [.agg #[x0_0.v, x0_1.v, x0_2.v]]) (rs := [.at .bool]) Try.func52 (by kernel_rfl) (by kernel_rfl) h

def V_i_isEdgeColouring (Q : Bool → World → Prop) (n_0 : Sl) (n_1 : Sl) (n_2 : Sl) (l : Sl) (w : World) : Prop :=
  NEW T.t_i_Network #[n_0.v, n_1.v, n_2.v] w fun (p_n : Addr) w1 =>
  LD [.sl, .sl, .sl] p_n w1 fun (x9_0 : Sl) (x9_1 : Sl) (x9_2 : Sl) =>
  Calls Try.prog F.i_portsOk #[.agg #[x9_0.v, x9_1.v, x9_2.v], l.v] w1 (Ret [.at .bool] fun (x11 : Bool) w2 =>
  cond (!x11) (
  Q false w2) (
  ∃ (I4 : Int → World → Prop) (m4 : Int → World → Nat), I4 0 w2 ∧ ∀ (x15 : Int) w3, I4 x15 w3 → ∀ _ _ _ _ _ _ _ _ _ _ _ _ _ _ _ _ _ _ _ _ _ _ _ _ _ _ _ _ _ _ _ _ _ _ _ _ _ _ _ _ _ : Value,
  cond (decide ((x15 : Int) < l.len)) (
  IX l x15 1 fun (px18 : Addr) =>
  LD [.sl] px18 w3 fun (x19 : Sl) =>
  Calls Try.prog F.slices_Values_sl_int_int #[x19.v] w3 (Ret [.at .val] fun (x21 : Value) w4 =>
  Calls Try.prog F.slices_Sorted_int #[x21] w4 (Ret [.at .sl] fun (x22 : Sl) w5 =>
  Calls Try.prog F.i_increasing #[x22.v, .int .i64 0, .int .i64 1000000000000] w5 (Ret [.at .bool] fun (x23 : Bool) w6 =>
  cond (!x23) (
  Q false w6) (
  LD [.sl] (p_n.add 0) w6 fun (x26 : Sl) =>
  IX x26 x15 1 fun (px28 : Addr) =>
  LD [.sl] px28 w6 fun (x29 : Sl) =>
  ∃ (I9 : Int → World → Prop) (m9 : Int → World → Nat), I9 0 w6 ∧ ∀ (x31 : Int) w7, I9 x31 w7 → ∀ _ _ _ _ _ _ _ _ _ _ _ _ _ _ _ _ _ _ _ _ _ _ : Value,
  cond (decide ((x31 : Int) < x29.len)) (
  IX x29 x31 2 fun (px34 : Addr) =>
  LD [.int .i64, .int .i64] px34 w7 fun (x35_0 : Int) (x35_1 : Int) =>
  NEW T.t_i_End #[.int .i64 0, .int .i64 0] w7 fun (p_e : Addr) w8 =>
  ST p_e 0 [.int .i64 x35_0, .int .i64 x35_1] w8 fun w9 =>
  IX x19 x31 1 fun (px38 : Addr) =>
  LD [.int .i64] px38 w9 fun (x39 : Int) =>
  LD [.int .i64] (p_e.add 0) w9 fun (x42 : Int) =>
  IX l x42 1 fun (px43 : Addr) =>
  LD [.sl] px43 w9 fun (x44 : Sl) =>
  LD [.int .i64] (p_e.add 1) w9 fun (x46 : Int) =>
  IX x44 x46 1 fun (px47 : Addr) =>
  LD [.int .i64] px47 w9 fun (x48 : Int) =>
  ∀ w10, Ext w9 w10 →
  cond ((x39 : Int) != x48) (
  Q false w10) (
  I9 (IntKind.i64.wrap (x31 + 1)) w10 ∧ m9 (IntKind.i64.wrap (x31 + 1)) w10 < m9 x31 w7)) (
  I4 (IntKind.i64.wrap (x15 + 1)) w7 ∧ m4 (IntKind.i64.wrap (x15 + 1)) w7 < m4 x15 w3)))))) (
  Q true w3)))

theorem C_i_isEdgeColouring {Q : Bool → World → Prop} {n_0 : Sl} {n_1 : Sl} {n_2 : Sl} {l : Sl} {w : World} (h : V_i_isEdgeColouring Q n_0 n_1 n_2 l w) : Calls Try.prog F.i_isEdgeColouring #[.agg #[n_0.v, n_1.v, n_2.v], l.v] w (Ret [.at .bool] Q) :=
  mkC (hint := hint) (ann := annOf [(4, ⟨[(15, .int .i64)], [4, 5, 6, 7, 8, 16, 17, 18, 19, 20, 21, 22, 23, 24, 25, 26, 27, 28, 29, 30, 31, 32, 33, 34, 35, 36, 37, 38, 39, 40, 41, 42, 43, 44, 45, 46, 47, 48, 49, 50, 51]⟩), (9, ⟨[(31, .int .i64)], [4, 7, 8, 32, 33, 34, 35, 36, 37, 38, 39, 40, 41, 42, 43, 44, 45, 46, 47, 48, 49, 50]⟩)]) (args := [.agg #[n_0.v, n_1.v, n_2.v], l.v]) (rs := [.at .bool]) Try.func53 (by kernel_rfl) (by kernel_rfl) h

def V_l_eqEndSS (Q : Bool → World → Prop) (a : Sl) (b : Sl) (w : World) : Prop :=
  cond ((a.len : Int) != b.len) (
  Q false w) (
  ∃ (I4 : Int → World → Prop) (m4 : Int → World → Nat), I4 0 w ∧ ∀ (i : Int) w1, I4 i w1 → ∀ _ _ _ _ _ _ _ _ _ _ _ _ _ _ _ _ _ : Value,
  cond (decide ((i : Int) < a.len)) (
  IX a i 1 fun (px19 : Addr) =>
  LD [.sl] px19 w1 fun (x20 : Sl) =>
  IX b i 1 fun (px23 : Addr) =>
  LD [.sl] px23 w1 fun (x24 : Sl) =>
  QCALL Try.prog F.l_eqEndS #[x20.v, x24.v] w1 [.at .bool] fun (x25 : Bool) =>
  ∀ w2, Ext w1 w2 →
  cond (!x25) (
  Q false w2) (
  I4 (IntKind.i64.wrap (i + 1)) w2 ∧ m4 (IntKind.i64.wrap (i + 1)) w2 < m4 i w1)) (
  Q true w1))

theorem C_l_eqEndSS {Q : Bool → World → Prop} {a : Sl} {b : Sl} {w : World} (h : V_l_eqEndSS Q a b w) : Calls Try.prog F.l_eqEndSS #[a.v, b.v] w (Ret [.at .bool] Q) :=
  mkC (hint := hint) (ann := annOf [(4, ⟨[(5, .int .i64)], [4, 11, 12, 13, 14, 15, 16, 17, 18, 19, 20, 21, 22, 23, 24, 25, 26]⟩)]) (args := [a.v, b.v]) (rs := [.at .bool]) Try.func54 (by kernel_rfl) (by kernel_rfl) h

def V_s_ruColours (Q : Bool → World → Prop) (n_0 : Sl) (n_1 : Sl) (n_2 : Sl) (l : Sl) (w : World) : Prop :=
  NEW T.t_i_Network #[n_0.v, n_1.v, n_2.v] w fun (p_n : Addr) w1 =>
  LD [.sl, .sl, .sl] p_n w1 fun (x5_0 : Sl) (x5_1 : Sl) (x5_2 : Sl) =>
  Calls Try.prog F.s_neGood #[.agg #[x5_0.v, x5_1.v, x5_2.v]] w1 (Ret [.at .bool] fun (x6 : Bool) w2 =>
  cond x6 (
  LD [.sl] (p_n.add 0) w2 fun (x11 : Sl) =>
  cond ((l.len : Int) == x11.len) (
  Calls Try.prog F.s_l1All #[l.v, .int .i64 0, .int .i64 1000000000000] w2 (Ret [.at .bool] fun (x17 : Bool) w3 =>
  Q x17 w3)) (
  Q false w2)) (
  Q false w2))

theorem C_s_ruColours {Q : Bool → World → Prop} {n_0 : Sl} {n_1 : Sl} {n_2 : Sl} {l : Sl} {w : World} (h : V_s_ruColours Q n_0 n_1 n_2 l w) : Calls Try.prog F.s_ruColours #[.agg #[n_0.v, n_1.v, n_2.v], l.v] w (Ret [.at .bool] Q) :=
  mkC (hint := hint) (ann := annOf []) (args := [.agg #[n_0.v, n_1.v, n_2.v], l.v]) (rs := [.at .bool]) Try.func55 (by kernel_rfl) (by kernel_rfl) h

def V_s_l1In (Q : Bool → World → Prop) (n : Int) (lo : Int) (hi : Int) (w : World) : Prop :=
  cond (decide ((n : Int) ≥ lo)) (
  Q (decide ((n : Int) ≤ hi)) w) (
  Q false w)

theorem C_s_l1In {Q : Bool → World → Prop} {n : Int} {lo : Int} {hi : Int} {w : World} (h : V_s_l1In Q n lo hi w) : Calls Try.prog F.s_l1In #[.int .i64 n, .int .i64 lo, .int .i64 hi] w (Ret [.at .bool] Q) :=
  mkC (hint := hint) (ann := annOf []) (args := [.int .i64 n, .int .i64 lo, .int .i64 hi]) (rs := [.at .bool]) Try.func56 (by kernel_rfl) (by kernel_rfl) h

def V_s_meFrom (Q : Sl → World → Prop) (x0_0 : Sl) (x0_1 : Sl) (x0_2 : Sl) (x1 : Int) (w : World) : Prop :=
  NEW T.t_i_Network #[x0_0.v, x0_1.v, x0_2.v] w fun (px2 : Addr) w1 =>
  LD [.sl] (px2.add 0) w1 fun (x12 : Sl) =>
  RUN Try.prog (.at .sl) (Instr.makeSlice T.t_sl_int (.int .i64 x12.len) (.int .i64 x12.len)) w1 fun (x14 : Sl) w2 =>
  ∃ (I3 : Int → World → Prop) (m3 : Int → World → Nat), I3 0 w2 ∧ ∀ (x17 : Int) w3, I3 x17 w3 → ∀ _ _ _ _ _ _ _ : Value,
  cond (decide ((x17 : Int) < x14.len)) (
  IX x14 x17 1 fun (px22 : Addr) =>
  ST px22 0 [.int .i64 (-1)] w3 fun w4 =>
  I3 (IntKind.i64.wrap (x17 + 1)) w4 ∧ m3 (IntKind.i64.wrap (x17 + 1)) w4 < m3 x17 w3) (
  IX x14 x1 1 fun (px26 : Addr) =>
  ST px26 0 [.int .i64 0] w3 fun w5 =>
  RUN Try.prog (.at .sl) (Instr.buildSlice T.t_sl_int 1 #[(0, .int .i64 x1)]) w5 fun (x28 : Sl) w6 =>
  ∃ (I10 : Sl → Int → World → Prop) (m10 : Sl → Int → World → Nat), I10 x28 0 w6 ∧ ∀ (x7 : Sl) (x8 : Int) w7, I10 x7 x8 w7 → ∀ _ _ _ _ _ _ _ _ _ _ _ _ _ _ _ _ _ _ _ _ _ _ _ _ _ _ _ _ _ _ _ _ _ _ _ _ _ _ _ : Value,
  cond (decide ((x8 : Int) < x7.len)) (
  ∀ w8, Ext w7 w8 → w8.heap = w7.heap →
  LD [.sl, .sl, .sl] px2 w8 fun (x35_0 : Sl) (x35_1 : Sl) (x35_2 : Sl) =>
  IX x7 x8 1 fun (px38 : Addr) =>
  LD [.int .i64] px38 w8 fun (x39 : Int) =>
  Calls Try.prog F.s_neNear #[.agg #[x35_0.v, x35_1.v, x35_2.v], .int .i64 x39] w8 (Ret [.at .sl] fun (x40 : Sl) w9 =>
  Ext w8 w9 ∧ (
  Ext w8 w9 ∧ (
  ∃ (I13 : Sl → Int → World → Prop) (m13 : Sl → Int → World → Nat), I13 x7 0 w9 ∧ ∀ (x7_2 : Sl) (x42 : Int) w10, I13 x7_2 x42 w10 → ∀ _ _ _ _ _ _ _ _ _ _ _ _ _ _ _ _ _ _ _ _ _ _ _ _ _ : Value,
  cond (decide ((x42 : Int) < x40.len)) (
  IX x40 x42 1 fun (px44 : Addr) =>
  LD [.int .i64] px44 w10 fun (x45 : Int) =>
  IX x14 x45 1 fun (px48 : Addr) =>
  LD [.int .i64] px48 w10 fun (x49 : Int) =>
  cond (decide ((x49 : Int) < 0)) (
  IX x7_2 x8 1 fun (px56 : Addr) =>
  LD [.int .i64] px56 w10 fun (x57 : Int) =>
  IX x14 x57 1 fun (px58 : Addr) =>
  LD [.int .i64] px58 w10 fun (x59 : Int) =>
  IX x14 x45 1 fun (px61 : Addr) =>
  ST px61 0 [.int .i64 (IntKind.i64.wrap (x59 + 1))] w10 fun w11 =>
  RUN Try.prog (.at .sl) (Instr.buildSlice T.t_sl_int 1 #[(0, .int .i64 x45)]) w11 fun (x64 : Sl) w12 =>
  RUN Try.prog (.at .sl) (bsem .append #[T.t_sl_int, T.t_sl_int] T.t_sl_int #[x7_2.v, x64.v]) w12 fun (x65 : Sl) w13 =>
  I13 x65 (IntKind.i64.wrap (x42 + 1)) w13 ∧ m13 x65 (IntKind.i64.wrap (x42 + 1)) w13 < m13 x7_2 x42 w10) (
  I13 x7_2 (IntKind.i64.wrap (x42 + 1)) w10 ∧ m13 x7_2 (IntKind.i64.wrap (x42 + 1)) w10 < m13 x7_2 x42 w10)) (
  I10 x7_2 (IntKind.i64.wrap (x8 + 1)) w10 ∧ m10 x7_2 (IntKind.i64.wrap (x8 + 1)) w10 < m10 x7 x8 w7))))) (
  Q x14 w7))

theorem C_s_meFrom {Q : Sl → World → Prop} {x0_0 : Sl} {x0_1 : Sl} {x0_2 : Sl} {x1 : Int} {w : World} (h : V_s_meFrom Q x0_0 x0_1 x0_2 x1 w) : Calls Try.prog F.s_meFrom #[.agg #[x0_0.v, x0_1.v, x0_2.v], .int .i64 x1] w (Ret [.at .sl] Q) :=
  mkC (hint := hint) (ann := annOf [(3, ⟨[(17, .int .i64)], [6, 18, 19, 20, 21, 22, 23]⟩), (10, ⟨[(7, .sl), (8, .int .i64)], [10, 29, 30, 31, 32, 33, 34, 35, 36, 37, 38, 39, 40, 41, 42, 43, 44, 45, 46, 47, 48, 49, 50, 51, 52, 53, 54, 55, 56, 57, 58, 59, 60, 61, 62, 63, 64, 65, 66]⟩), (13, ⟨[(7, .sl), (42, .int .i64)], [10, 43, 44, 45, 46, 47, 48, 49, 50, 51, 52, 53, 54, 55, 56, 57, 58, 59, 60, 61, 62, 63, 64, 65, 66]⟩)]) (args := [.agg #[x0_0.v, x0_1.v, x0_2.v], .int .i64 x1]) (rs := [.at .sl]) Try.func57 (by kernel_rfl) (by kernel_rfl) h

def V_i_areColours (Q : Bool → World → Prop) (n_0 : Sl) (n_1 : Sl) (n_2 : Sl) (colours : Sl) (w : World) : Prop :=
  NEW T.t_i_Network #[n_0.v, n_1.v, n_2.v] w fun (p_n : Addr) w1 =>
  LD [.sl, .sl, .sl] p_n w1 fun (x5_0 : Sl) (x5_1 : Sl) (x5_2 : Sl) =>
  Calls Try.prog F.i_IsNetwork #[.agg #[x5_0.v, x5_1.v, x5_2.v]] w1 (Ret [.at .bool] fun (x6 : Bool) w2 =>
  cond x6 (
  LD [.sl] (p_n.add 0) w2 fun (x11 : Sl) =>
  cond ((colours.len : Int) == x11.len) (
  Calls Try.prog F.i_allWithin #[colours.v, .int .i64 0, .int .i64 1000000000000] w2 (Ret [.at .bool] fun (x17 : Bool) w3 =>
  Q x17 w3)) (
  Q false w2)) (
  Q false w2))

theorem C_i_areColours {Q : Bool → World → Prop} {n_0 : Sl} {n_1 : Sl} {n_2 : Sl} {colours : Sl} {w : World} (h : V_i_areColours Q n_0 n_1 n_2 colours w) : Calls Try.prog F.i_areColours #[.agg #[n_0.v, n_1.v, n_2.v], colours.v] w (Ret [.at .bool] Q) :=
  mkC (hint := hint) (ann := annOf []) (args := [.agg #[n_0.v, n_1.v, n_2.v], colours.v]) (rs := [.at .bool]) Try.func58 (by kernel_rfl) (by kernel_rfl) h

def V_i_within (Q : Bool → World → Prop) (n : Int) (low : Int) (high : Int) (w : World) : Prop :=
  cond (decide ((low : Int) ≤ n)) (
  Q (decide ((n : Int) ≤ high)) w) (
  Q false w)

theorem C_i_within {Q : Bool → World → Prop} {n : Int} {low : Int} {high : Int} {w : World} (h : V_i_within Q n low high w) : Calls Try.prog F.i_within #[.int .i64 n, .int .i64 low, .int .i64 high] w (Ret [.at .bool] Q) :=
  mkC (hint := hint) (ann := annOf []) (args := [.int .i64 n, .int .i64 low, .int .i64 high]) (rs := [.at .bool]) Try.func59 (by kernel_rfl) (by kernel_rfl) h

def V_i_allDistances (Q : Sl → World → Prop) (n_0 : Sl) (n_1 : Sl) (n_2 : Sl) (w : World) : Prop :=
  NEW T.t_i_Network #[n_0.v, n_1.v, n_2.v] w fun (p_n : Addr) w1 =>
  LD [.sl] (p_n.add 0) w1 fun (x6 : Sl) =>
  ∃ (I3 : Sl → Int → World → Prop) (m3 : Sl → Int → World → Nat), I3 (⟨none, 0, 0⟩) 0 w1 ∧ ∀ (out : Sl) (x8 : Int) w2, I3 out x8 w2 → ∀ _ _ _ _ _ _ _ _ _ _ : Value,
  cond (decide ((x8 : Int) < x6.len)) (
  LD [.sl, .sl, .sl] p_n w2 fun (x12_0 : Sl) (x12_1 : Sl) (x12_2 : Sl) =>
  Calls Try.prog F.i_distancesFrom #[.agg #[x12_0.v, x12_1.v, x12_2.v], .int .i64 x8] w2 (Ret [.at .sl] fun (x14 : Sl) w3 =>
  RUN Try.prog (.at .sl) (Instr.buildSlice T.t_sl_sl_int 1 #[(0, x14.v)]) w3 fun (x15 : Sl) w4 =>
  RUN Try.prog (.at .sl) (bsem .append #[T.t_sl_sl_int, T.t_sl_sl_int] T.t_sl_sl_int #[out.v, x15.v]) w4 fun (x16 : Sl) w5 =>
  I3 x16 (IntKind.i64.wrap (x8 + 1)) w5 ∧ m3 x16 (IntKind.i64.wrap (x8 + 1)) w5 < m3 out x8 w2)) (
  Q out w2)

theorem C_i_allDistances {Q : Sl → World → Prop} {n_0 : Sl} {n_1 : Sl} {n_2 : Sl} {w : World} (h : V_i_allDistances Q n_0 n_1 n_2 w) : Calls Try.prog F.i_allDistances #[.agg #[n_0.v, n_1.v, n_2.v]] w (Ret [.at .sl] Q) :=
  mkC (hint := hint) (ann := annOf [(3, ⟨[(3, .sl), (8, .int .i64)], [4, 9, 10, 11, 12, 13, 14, 15, 16, 17]⟩)]) (args := [.agg #[n_0.v, n_1.v, n_2.v]]) (rs := [.at .sl]) Try.func60 (by kernel_rfl) (by kernel_rfl) h

def V_s_nePerm (Q : Bool → World → Prop) (perm : Sl) (n : Int) (w : World) : Prop :=
  ∃ (I2 : Int → World → Prop) (m2 : Int → World → Nat), I2 0 w ∧ ∀ (x9 : Int) w1, I2 x9 w1 → ∀ _ _ _ _ _ _ _ _ _ _ _ _ _ _ _ _ _ _ _ _ : Value,
  cond (decide ((x9 : Int) < perm.len)) (
  IX perm x9 1 fun (px12 : Addr) =>
  LD [.int .i64] px12 w1 fun (x13 : Int) =>
  Calls Try.prog F.s_l1In #[.int .i64 x13, .int .i64 0, .int .i64 (IntKind.i64.wrap (n - 1))] w1 (Ret [.at .bool] fun (x17 : Bool) w2 =>
  cond (!x17) (
  Q false w2) (
  SLC perm none (some x9) 1 fun (x22 : Sl) =>
  Calls Try.prog F.s_l1Has #[x22.v, .int .i64 x13] w2 (Ret [.at .bool] fun (x24 : Bool) w3 =>
  cond x24 (
  Q false w3) (
  I2 (IntKind.i64.wrap (x9 + 1)) w3 ∧ m2 (IntKind.i64.wrap (x9 + 1)) w3 < m2 x9 w1))))) (
  Q ((perm.len : Int) == n) w1)

theorem C_s_nePerm {Q : Bool → World → Prop} {perm : Sl} {n : Int} {w : World} (h : V_s_nePerm Q perm n w) : Calls Try.prog F.s_nePerm #[perm.v, .int .i64 n] w (Ret [.at .bool] Q) :=
  mkC (hint := hint) (ann := annOf [(2, ⟨[(9, .int .i64)], [4, 5, 6, 10, 11, 12, 13, 14, 15, 16, 17, 18, 19, 20, 21, 22, 23, 24, 25, 26]⟩)]) (args := [perm.v, .int .i64 n]) (rs := [.at .bool]) Try.func61 (by kernel_rfl) (by kernel_rfl) h

def V_s_mtGreedy (Q : Sl → World → Prop) (n_0 : Sl) (n_1 : Sl) (n_2 : Sl) (order : Sl) (w : World) : Prop :=
  NEW T.t_i_Network #[n_0.v, n_1.v, n_2.v] w fun (p_n : Addr) w1 =>
  ∃ (I3 : Sl → Int → World → Prop) (m3 : Sl → Int → World → Nat), I3 (⟨none, 0, 0⟩) 0 w1 ∧ ∀ (set1 : Sl) (x10 : Int) w2, I3 set1 x10 w2 → ∀ _ _ _ _ _ _ _ _ _ _ _ _ _ _ _ _ _ _ : Value,
  cond (decide ((x10 : Int) < order.len)) (
  IX order x10 1 fun (px12 : Addr) =>
  LD [.int .i64] px12 w2 fun (x13 : Int) =>
  LD [.sl, .sl, .sl] p_n w2 fun (x14_0 : Sl) (x14_1 : Sl) (x14_2 : Sl) =>
  Calls Try.prog F.s_mtOwn #[.agg #[x14_0.v, x14_1.v, x14_2.v], .int .i64 x13] w2 (Ret [.at .bool] fun (x16 : Bool) w3 =>
  cond (!x16) (
  LD [.sl, .sl, .sl] p_n w3 fun (x19_0 : Sl) (x19_1 : Sl) (x19_2 : Sl) =>
  Calls Try.prog F.s_mtApart #[.agg #[x19_0.v, x19_1.v, x19_2.v], .int .i64 x13, set1.v] w3 (Ret [.at .bool] fun (x22 : Bool) w4 =>
  cond x22 (
  Calls Try.prog F.s_l1Put #[set1.v, .int .i64 x13] w4 (Ret [.at .sl] fun (x26 : Sl) w5 =>
  I3 x26 (IntKind.i64.wrap (x10 + 1)) w5 ∧ m3 x26 (IntKind.i64.wrap (x10 + 1)) w5 < m3 set1 x10 w2)) (
  I3 set1 (IntKind.i64.wrap (x10 + 1)) w4 ∧ m3 set1 (IntKind.i64.wrap (x10 + 1)) w4 < m3 set1 x10 w2))) (
  I3 set1 (IntKind.i64.wrap (x10 + 1)) w3 ∧ m3 set1 (IntKind.i64.wrap (x10 + 1)) w3 < m3 set1 x10 w2))) (
  Q set1 w2)

theorem C_s_mtGreedy {Q : Sl → World → Prop} {n_0 : Sl} {n_1 : Sl} {n_2 : Sl} {order : Sl} {w : World} (h : V_s_mtGreedy Q n_0 n_1 n_2 order w) : Calls Try.prog F.s_mtGreedy #[.agg #[n_0.v, n_1.v, n_2.v], order.v] w (Ret [.at .sl] Q) :=
  mkC (hint := hint) (ann := annOf [(3, ⟨[(5, .sl), (10, .int .i64)], [7, 11, 12, 13, 14, 15, 16, 17, 18, 19, 20, 21, 22, 23, 24, 25, 26, 27]⟩)]) (args := [.agg #[n_0.v, n_1.v, n_2.v], order.v]) (rs := [.at .sl]) Try.func62 (by kernel_rfl) (by kernel_rfl) h

def V_i_isPermutation (Q : Bool → World → Prop) (list : Sl) (n : Int) (w : World) : Prop :=
  cond ((list.len : Int) != n) (
  Q false w) (
  RUN Try.prog (.at .sl) (Instr.makeSlice T.t_sl_bool (.int .i64 n) (.int .i64 n)) w fun (x13 : Sl) w1 =>
  ∃ (I5 : Int → World → Prop) (m5 : Int → World → Nat), I5 0 w1 ∧ ∀ (x16 : Int) w2, I5 x16 w2 → ∀ _ _ _ _ _ _ _ _ _ _ _ _ _ _ _ _ _ _ _ _ : Value,
  cond (decide ((x16 : Int) < list.len)) (
  IX list x16 1 fun (px18 : Addr) =>
  LD [.int .i64] px18 w2 fun (x19 : Int) =>
  Calls Try.prog F.i_within #[.int .i64 x19, .int .i64 0, .int .i64 (IntKind.i64.wrap (n - 1))] w2 (Ret [.at .bool] fun (x23 : Bool) w3 =>
  cond (!x23) (
  Q false w3) (
  IX x13 x19 1 fun (px28 : Addr) =>
  LD [.bool] px28 w3 fun (x29 : Bool) =>
  cond x29 (
  Q false w3) (
  IX x13 x19 1 fun (px33_2 : Addr) =>
  ST px33_2 0 [.bool true] w3 fun w5 =>
  I5 (IntKind.i64.wrap (x16 + 1)) w5 ∧ m5 (IntKind.i64.wrap (x16 + 1)) w5 < m5 x16 w2)))) (
  Q true w2))

theorem C_i_isPermutation {Q : Bool → World → Prop} {list : Sl} {n : Int} {w : World} (h : V_i_isPermutation Q list n w) : Calls Try.prog F.i_isPermutation #[list.v, .int .i64 n] w (Ret [.at .bool] Q) :=
  mkC (hint := hint) (ann := annOf [(5, ⟨[(16, .int .i64)], [4, 7, 17, 18, 19, 20, 21, 22, 23, 24, 25, 26, 27, 28, 29, 30, 31, 32, 33, 34]⟩)]) (args := [list.v, .int .i64 n]) (rs := [.at .bool]) Try.func63 (by kernel_rfl) (by kernel_rfl) h

def V_i_greedyIndependent (Q : Sl → World → Prop) (n_0 : Sl) (n_1 : Sl) (n_2 : Sl) (order : Sl) (w : World) : Prop :=
  NEW T.t_i_Network #[n_0.v, n_1.v, n_2.v] w fun (p_n : Addr) w1 =>
  ∃ (I3 : Sl → Int → World → Prop) (m3 : Sl → Int → World → Nat), I3 (⟨none, 0, 0⟩) 0 w1 ∧ ∀ (set1 : Sl) (x10 : Int) w2, I3 set1 x10 w2 → ∀ _ _ _ _ _ _ _ _ _ _ _ _ _ _ _ _ _ _ _ _ _ : Value,
  cond (decide ((x10 : Int) < order.len)) (
  IX order x10 1 fun (px12 : Addr) =>
  LD [.int .i64] px12 w2 fun (x13 : Int) =>
  LD [.sl, .sl, .sl] p_n w2 fun (x14_0 : Sl) (x14_1 : Sl) (x14_2 : Sl) =>
  Calls Try.prog F.i_areJoined #[.agg #[x14_0.v, x14_1.v, x14_2.v], .int .i64 x13, .int .i64 x13] w2 (Ret [.at .bool] fun (x17 : Bool) w3 =>
  cond (!x17) (
  LD [.sl, .sl, .sl] p_n w3 fun (x20_0 : Sl) (x20_1 : Sl) (x20_2 : Sl) =>
  Calls Try.prog F.i_hasNear #[.agg #[x20_0.v, x20_1.v, x20_2.v], .int .i64 x13, set1.v] w3 (Ret [.at .bool] fun (x23 : Bool) w4 =>
  cond (!x23) (
  RUN Try.prog (.at .sl) (Instr.buildSlice T.t_sl_int 1 #[(0, .int .i64 x13)]) w4 fun (x28 : Sl) w5 =>
  RUN Try.prog (.at .sl) (bsem .append #[T.t_sl_int, T.t_sl_int] T.t_sl_int #[set1.v, x28.v]) w5 fun (x29 : Sl) w6 =>
  I3 x29 (IntKind.i64.wrap (x10 + 1)) w6 ∧ m3 x29 (IntKind.i64.wrap (x10 + 1)) w6 < m3 set1 x10 w2) (
  I3 set1 (IntKind.i64.wrap (x10 + 1)) w4 ∧ m3 set1 (IntKind.i64.wrap (x10 + 1)) w4 < m3 set1 x10 w2))) (
  I3 set1 (IntKind.i64.wrap (x10 + 1)) w3 ∧ m3 set1 (IntKind.i64.wrap (x10 + 1)) w3 < m3 set1 x10 w2))) (
  Calls Try.prog F.slices_Sort_sl_int_int #[set1.v] w2 (Ret [] fun w7 =>
  Q set1 w7))

theorem C_i_greedyIndependent {Q : Sl → World → Prop} {n_0 : Sl} {n_1 : Sl} {n_2 : Sl} {order : Sl} {w : World} (h : V_i_greedyIndependent Q n_0 n_1 n_2 order w) : Calls Try.prog F.i_greedyIndependent #[.agg #[n_0.v, n_1.v, n_2.v], order.v] w (Ret [.at .sl] Q) :=
  mkC (hint := hint) (ann := annOf [(3, ⟨[(5, .sl), (10, .int .i64)], [7, 11, 12, 13, 14, 15, 16, 17, 18, 19, 20, 21, 22, 23, 24, 25, 26, 27, 28, 29, 30]⟩)]) (args := [.agg #[n_0.v, n_1.v, n_2.v], order.v]) (rs := [.at .sl]) Try.func64 (by kernel_rfl) (by kernel_rfl) h

def V_l_markEndSS (Q : Int → World → Prop) (a : Sl) (k : Int) (w : World) : Prop :=
  ∃ (I2 : Int → Int → World → Prop) (m2 : Int → Int → World → Nat), I2 k 0 w ∧ ∀ (k_2 : Int) (i : Int) w1, I2 k_2 i w1 → ∀ _ _ _ _ _ _ _ _ _ _ _ _ : Value,
  cond (decide ((i : Int) < a.len)) (
  IX a i 1 fun (px14 : Addr) =>
  LD [.sl] px14 w1 fun (x15 : Sl) =>
  Calls Try.prog F.l_markEndS #[x15.v, .int .i64 k_2] w1 (Ret [.at (.int .i64)] fun (x17 : Int) w2 =>
  I2 x17 (IntKind.i64.wrap (i + 1)) w2 ∧ m2 x17 (IntKind.i64.wrap (i + 1)) w2 < m2 k_2 i w1)) (
  Q k_2 w1)

theorem C_l_markEndSS {Q : Int → World → Prop} {a : Sl} {k : Int} {w : World} (h : V_l_markEndSS Q a k w) : Calls Try.prog F.l_markEndSS #[a.v, .int .i64 k] w (Ret [.at (.int .i64)] Q) :=
  mkC (hint := hint) (ann := annOf [(2, ⟨[(1, .int .i64), (5, .int .i64)], [6, 7, 8, 9, 10, 11, 12, 13, 14, 15, 16, 17]⟩)]) (args := [a.v, .int .i64 k]) (rs := [.at (.int .i64)]) Try.func65 (by kernel_rfl) (by kernel_rfl) h

def V_s_ruLeaves (Q : Bool → World → Prop) (n_0 : Sl) (n_1 : Sl) (n_2 : Sl) (in1 : Sl) (v : Int) (j : Int) (w : World) : Prop :=
  NEW T.t_i_Network #[n_0.v, n_1.v, n_2.v] w fun (p_n : Addr) w1 =>
  LD [.sl] (p_n.add 1) w1 fun (x13 : Sl) =>
  IX x13 v 1 fun (px15 : Addr) =>
  LD [.int .i64] px15 w1 fun (x16 : Int) =>
  Calls Try.prog F.s_nuBit #[.int .i64 x16, .int .i64 j] w1 (Ret [.at (.int .i64)] fun (x19 : Int) w2 =>
  cond ((x19 : Int) == 0) (
  Q false w2) (
  LD [.sl, .sl, .sl] p_n w2 fun (x21_0 : Sl) (x21_1 : Sl) (x21_2 : Sl) =>
  Calls Try.prog F.s_neNear #[.agg #[x21_0.v, x21_1.v, x21_2.v], .int .i64 v] w2 (Ret [.at .sl] fun (x23 : Sl) w3 =>
  ∃ (I5 : Int → World → Prop) (m5 : Int → World → Nat), I5 0 w3 ∧ ∀ (x25 : Int) w4, I5 x25 w4 → ∀ _ _ _ _ _ _ _ _ _ _ _ _ _ _ _ _ _ _ _ _ _ _ _ _ _ _ : Value,
  cond (decide ((x25 : Int) < x23.len)) (
  IX x23 x25 1 fun (px27 : Addr) =>
  LD [.int .i64] px27 w4 fun (x28 : Int) =>
  IX in1 x28 1 fun (px31 : Addr) =>
  LD [.bool] px31 w4 fun (x32 : Bool) =>
  cond x32 (
  LD [.sl] (p_n.add 1) w4 fun (x35 : Sl) =>
  IX x35 x28 1 fun (px37 : Addr) =>
  LD [.int .i64] px37 w4 fun (x38 : Int) =>
  (0 : Int) ≤ (IntKind.u64.wrap j) ∧ (
  (0 : Int) ≤ (IntKind.u64.wrap j) ∧ (
  cond (((shrI .i64 x38 (IntKind.u64.wrap j)) : Int) == (IntKind.i64.wrap ((shrI .i64 x16 (IntKind.u64.wrap j)) - 1))) (
  Q true w4) (
  I5 (IntKind.i64.wrap (x25 + 1)) w4 ∧ m5 (IntKind.i64.wrap (x25 + 1)) w4 < m5 x25 w4)))) (
  I5 (IntKind.i64.wrap (x25 + 1)) w4 ∧ m5 (IntKind.i64.wrap (x25 + 1)) w4 < m5 x25 w4)) (
  Q false w4))))

theorem C_s_ruLeaves {Q : Bool → World → Prop} {n_0 : Sl} {n_1 : Sl} {n_2 : Sl} {in1 : Sl} {v : Int} {j : Int} {w : World} (h : V_s_ruLeaves Q n_0 n_1 n_2 in1 v j w) : Calls Try.prog F.s_ruLeaves #[.agg #[n_0.v, n_1.v, n_2.v], in1.v, .int .i64 v, .int .i64 j] w (Ret [.at .bool] Q) :=
  mkC (hint := hint) (ann := annOf [(5, ⟨[(25, .int .i64)], [8, 11, 26, 27, 28, 29, 30, 31, 32, 33, 34, 35, 36, 37, 38, 39, 40, 41, 42, 43, 44, 45, 46, 47, 48, 49]⟩)]) (args := [.agg #[n_0.v, n_1.v, n_2.v], in1.v, .int .i64 v, .int .i64 j]) (rs := [.at .bool]) Try.func66 (by kernel_rfl) (by kernel_rfl) h

def V_i_numbersTo (Q : Sl → World → Prop) (n : Int) (w : World) : Prop :=
  RUN Try.prog (.at .sl) (Instr.makeSlice T.t_sl_int (.int .i64 n) (.int .i64 n)) w fun (x6 : Sl) w1 =>
  ∃ (I3 : Int → World → Prop) (m3 : Int → World → Nat), I3 0 w1 ∧ ∀ (x9 : Int) w2, I3 x9 w2 → ∀ _ _ _ _ _ _ _ _ : Value,
  cond (decide ((x9 : Int) < x6.len)) (
  IX x6 x9 1 fun (px15 : Addr) =>
  ST px15 0 [.int .i64 x9] w2 fun w3 =>
  I3 (IntKind.i64.wrap (x9 + 1)) w3 ∧ m3 (IntKind.i64.wrap (x9 + 1)) w3 < m3 x9 w2) (
  Q x6 w2)

theorem C_i_numbersTo {Q : Sl → World → Prop} {n : Int} {w : World} (h : V_i_numbersTo Q n w) : Calls Try.prog F.i_numbersTo #[.int .i64 n] w (Ret [.at .sl] Q) :=
  mkC (hint := hint) (ann := annOf [(3, ⟨[(9, .int .i64)], [4, 10, 11, 12, 13, 14, 15, 16]⟩)]) (args := [.int .i64 n]) (rs := [.at .sl]) Try.func67 (by kernel_rfl) (by kernel_rfl) h

def V_slices_Clone_sl_int_int (Q : Sl → World → Prop) (s : Sl) (w : World) : Prop :=
  cond s.a.isNone (
  Q (⟨none, 0, 0⟩) w) (
  RUN Try.prog (.at .sl) (Instr.buildSlice T.t_sl_int 0 #[]) w fun (x5 : Sl) w1 =>
  RUN Try.prog (.at .sl) (bsem .append #[T.t_sl_int, T.t_sl_int] T.t_sl_int #[x5.v, s.v]) w1 fun (x7 : Sl) w2 =>
  Q x7 w2)

theorem C_slices_Clone_sl_int_int {Q : Sl → World → Prop} {s : Sl} {w : World} (h : V_slices_Clone_sl_int_int Q s w) : Calls Try.prog F.slices_Clone_sl_int_int #[s.v] w (Ret [.at .sl] Q) :=
  mkC (hint := hint) (ann := annOf []) (args := [s.v]) (rs := [.at .sl]) Try.func68 (by kernel_rfl) (by kernel_rfl) h

def V_slices_DeleteFunc_sl_int_int (Q : Sl → World → Prop) (s : Sl) (del : Value) (w : World) : Prop :=
  Calls Try.prog F.slices_IndexFunc_sl_int_int #[s.v, del] w (Ret [.at (.int .i64)] fun (x10 : Int) w1 =>
  cond ((x10 : Int) == (-1)) (
  Q s w1) (
  ∃ (I5 : Int → Int → World → Prop) (m5 : Int → Int → World → Nat), I5 x10 (IntKind.i64.wrap (x10 + 1)) w1 ∧ ∀ (i : Int) (j : Int) w2, I5 i j w2 → ∀ _ _ _ _ _ _ _ _ _ _ _ _ _ _ _ _ _ _ _ _ _ : Value,
  cond (decide ((j : Int) < s.len)) (
  IX s j 1 fun (px24 : Addr) =>
  LD [.int .i64] px24 w2 fun (x25 : Int) =>
  CALLV Try.prog del #[.int .i64 x25] w2 (Ret [.at .bool] fun (x28 : Bool) w3 =>
  cond (!x28) (
  IX s i 1 fun (px33 : Addr) =>
  ST px33 0 [.int .i64 x25] w3 fun w4 =>
  I5 (IntKind.i64.wrap (i + 1)) (IntKind.i64.wrap (j + 1)) w4 ∧ m5 (IntKind.i64.wrap (i + 1)) (IntKind.i64.wrap (j + 1)) w4 < m5 i j w2) (
  I5 i (IntKind.i64.wrap (j + 1)) w3 ∧ m5 i (IntKind.i64.wrap (j + 1)) w3 < m5 i j w2))) (
  SLC s (some i) none 1 fun (x38 : Sl) =>
  RUN Try.prog (.at .val) (bsem .clear #[T.t_sl_int] T.t_unit #[x38.v]) w2 fun (x : Value) w5 =>
  SLC s none (some i) 1 fun (x41 : Sl) =>
  Q x41 w5)))

theorem C_slices_DeleteFunc_sl_int_int {Q : Sl → World → Prop} {s : Sl} {del : Value} {w : World} (h : V_slices_DeleteFunc_sl_int_int Q s del w) : Calls Try.prog F.slices_DeleteFunc_sl_int_int #[s.v, del] w (Ret [.at .sl] Q) :=
  mkC (hint := hint) (ann := annOf [(5, ⟨[(5, .int .i64), (6, .int .i64)], [7, 16, 17, 18, 19, 20, 21, 22, 23, 24, 25, 26, 27, 28, 29, 30, 31, 32, 33, 34, 35]⟩)]) (args := [s.v, del]) (rs := [.at .sl]) Try.func69 (by kernel_rfl) (by kernel_rfl) h

def V_i_RulingByIds_1 (Q : Bool → World → Prop) (v : Int) (cap0 : Addr) (cap1 : Addr) (cap2 : Addr) (w : World) : Prop :=
  NEW T.t_int #[.int .i64 v] w fun (p_v : Addr) w1 =>
  LD [.sl] (cap0.add 0) w1 fun (x7 : Sl) =>
  LD [.int .i64] p_v w1 fun (x8 : Int) =>
  IX x7 x8 1 fun (px9 : Addr) =>
  LD [.sl] px9 w1 fun (x10 : Sl) =>
  Calls Try.prog F.slices_ContainsFunc_sl_i_End_i_End #[x10.v, .func (.func F.i_RulingByIds_1_1) #[] #[.pointer (some cap1), .pointer (some cap0), .pointer (some p_v), .pointer (some cap2)]] w1 (Ret [.at .bool] fun (x12 : Bool) w2 =>
  Q x12 w2)

theorem C_i_RulingByIds_1 {Q : Bool → World → Prop} {v : Int} {cap0 : Addr} {cap1 : Addr} {cap2 : Addr} {w : World} (h : V_i_RulingByIds_1 Q v cap0 cap1 cap2 w) : Calls Try.prog F.i_RulingByIds_1 #[.int .i64 v, .pointer (some cap0), .pointer (some cap1), .pointer (some cap2)] w (Ret [.at .bool] Q) :=
  mkC (hint := hint) (ann := annOf []) (args := [.int .i64 v, .pointer (some cap0), .pointer (some cap1), .pointer (some cap2)]) (rs := [.at .bool]) Try.func70 (by kernel_rfl) (by kernel_rfl) h

def V_slices_ContainsFunc_sl_i_End_i_End (Q : Bool → World → Prop) (s : Sl) (f : Value) (w : World) : Prop :=
  Calls Try.prog F.slices_IndexFunc_sl_i_End_i_End #[s.v, f] w (Ret [.at (.int .i64)] fun (x7 : Int) w1 =>
  Q (decide ((x7 : Int) ≥ 0)) w1)

theorem C_slices_ContainsFunc_sl_i_End_i_End {Q : Bool → World → Prop} {s : Sl} {f : Value} {w : World} (h : V_slices_ContainsFunc_sl_i_End_i_End Q s f w) : Calls Try.prog F.slices_ContainsFunc_sl_i_End_i_End #[s.v, f] w (Ret [.at .bool] Q) :=
  mkC (hint := hint) (ann := annOf []) (args := [s.v, f]) (rs := [.at .bool]) Try.func71 (by kernel_rfl) (by kernel_rfl) h

def V_i_RulingByIds_1_1 (Q : Bool → World → Prop) (e_0 : Int) (e_1 : Int) (cap0 : Addr) (cap1 : Addr) (cap2 : Addr) (cap3 : Addr) (w : World) : Prop :=
  NEW T.t_i_End #[.int .i64 e_0, .int .i64 e_1] w fun (p_e : Addr) w1 =>
  LD [.sl] cap0 w1 fun (x7 : Sl) =>
  LD [.int .i64] (p_e.add 0) w1 fun (x9 : Int) =>
  QCALL Try.prog F.slices_Contains_sl_int_int #[x7.v, .int .i64 x9] w1 [.at .bool] fun (x10 : Bool) =>
  cond x10 (
  LD [.sl] (cap1.add 1) w1 fun (x13 : Sl) =>
  LD [.int .i64] cap2 w1 fun (x14 : Int) =>
  IX x13 x14 1 fun (px15 : Addr) =>
  LD [.int .i64] px15 w1 fun (x16 : Int) =>
  LD [.int .i64] cap3 w1 fun (x17 : Int) =>
  (0 : Int) ≤ x17 ∧ (
  LD [.sl] (cap1.add 1) w1 fun (x20 : Sl) =>
  LD [.int .i64] (p_e.add 0) w1 fun (x22 : Int) =>
  IX x20 x22 1 fun (px23 : Addr) =>
  LD [.int .i64] px23 w1 fun (x24 : Int) =>
  LD [.int .i64] cap3 w1 fun (x25 : Int) =>
  (0 : Int) ≤ x25 ∧ (
  cond (((shrI .i64 x16 x17) : Int) == (IntKind.i64.wrap ((shrI .i64 x24 x25) + 1))) (
  LD [.sl] (cap1.add 1) w1 fun (x32 : Sl) =>
  LD [.int .i64] cap2 w1 fun (x33 : Int) =>
  IX x32 x33 1 fun (px34 : Addr) =>
  LD [.int .i64] px34 w1 fun (x35 : Int) =>
  LD [.int .i64] cap3 w1 fun (x36 : Int) =>
  (0 : Int) ≤ x36 ∧ (
  ∀ w2, Ext w1 w2 →
  Q (((bitAnd .i64 (shrI .i64 x35 x36) 1) : Int) == 1) w2)) (
  ∀ w3, Ext w1 w3 →
  Q false w3)))) (
  ∀ w4, Ext w1 w4 →
  Q false w4)

theorem C_i_RulingByIds_1_1 {Q : Bool → World → Prop} {e_0 : Int} {e_1 : Int} {cap0 : Addr} {cap1 : Addr} {cap2 : Addr} {cap3 : Addr} {w : World} (h : V_i_RulingByIds_1_1 Q e_0 e_1 cap0 cap1 cap2 cap3 w) : Calls Try.prog F.i_RulingByIds_1_1 #[.agg #[.int .i64 e_0, .int .i64 e_1], .pointer (some cap0), .pointer (some cap1), .pointer (some cap2), .pointer (some cap3)] w (Ret [.at .bool] Q) :=
  mkC (hint := hint) (ann := annOf []) (args := [.agg #[.int .i64 e_0, .int .i64 e_1], .pointer (some cap0), .pointer (some cap1), .pointer (some cap2), .pointer (some cap3)]) (rs := [.at .bool]) Try.func72 (by kernel_rfl) (by kernel_rfl) h

def V_slices_Contains_sl_int_int (Q : Bool → World → Prop) (s : Sl) (v : Int) (w : World) : Prop :=
  Calls Try.prog F.slices_Index_sl_int_int #[s.v, .int .i64 v] w (Ret [.at (.int .i64)] fun (x7 : Int) w1 =>
  Q (decide ((x7 : Int) ≥ 0)) w1)

theorem C_slices_Contains_sl_int_int {Q : Bool → World → Prop} {s : Sl} {v : Int} {w : World} (h : V_slices_Contains_sl_int_int Q s v w) : Calls Try.prog F.slices_Contains_sl_int_int #[s.v, .int .i64 v] w (Ret [.at .bool] Q) :=
  mkC (hint := hint) (ann := annOf []) (args := [s.v, .int .i64 v]) (rs := [.at .bool]) Try.func73 (by kernel_rfl) (by kernel_rfl) h

def V_s_mtAsked (Q : Bool → World → Prop) (n_0 : Sl) (n_1 : Sl) (n_2 : Sl) (m : Sl) (w : World) : Prop :=
  NEW T.t_i_Network #[n_0.v, n_1.v, n_2.v] w fun (p_n : Addr) w1 =>
  LD [.sl, .sl, .sl] p_n w1 fun (x5_0 : Sl) (x5_1 : Sl) (x5_2 : Sl) =>
  Calls Try.prog F.s_neGood #[.agg #[x5_0.v, x5_1.v, x5_2.v]] w1 (Ret [.at .bool] fun (x6 : Bool) w2 =>
  cond x6 (
  LD [.sl, .sl, .sl] p_n w2 fun (x8_0 : Sl) (x8_1 : Sl) (x8_2 : Sl) =>
  Calls Try.prog F.s_mtIs #[.agg #[x8_0.v, x8_1.v, x8_2.v], m.v] w2 (Ret [.at .bool] fun (x10 : Bool) w3 =>
  Q x10 w3)) (
  Q false w2))

theorem C_s_mtAsked {Q : Bool → World → Prop} {n_0 : Sl} {n_1 : Sl} {n_2 : Sl} {m : Sl} {w : World} (h : V_s_mtAsked Q n_0 n_1 n_2 m w) : Calls Try.prog F.s_mtAsked #[.agg #[n_0.v, n_1.v, n_2.v], m.v] w (Ret [.at .bool] Q) :=
  mkC (hint := hint) (ann := annOf []) (args := [.agg #[n_0.v, n_1.v, n_2.v], m.v]) (rs := [.at .bool]) Try.func74 (by kernel_rfl) (by kernel_rfl) h

def V_s_mtPort (Q : Int → World → Prop) (n_0 : Sl) (n_1 : Sl) (n_2 : Sl) (v : Int) (w1 : Int) (w : World) : Prop :=
  NEW T.t_i_Network #[n_0.v, n_1.v, n_2.v] w fun (p_n : Addr) w2 =>
  LD [.sl] (p_n.add 0) w2 fun (x10 : Sl) =>
  IX x10 v 1 fun (px12 : Addr) =>
  LD [.sl] px12 w2 fun (x13 : Sl) =>
  ∃ (I2 : Int → World → Prop) (m2 : Int → World → Nat), I2 0 w2 ∧ ∀ (x15 : Int) w3, I2 x15 w3 → ∀ _ _ _ _ _ _ _ _ _ _ _ _ _ : Value,
  cond (decide ((x15 : Int) < x13.len)) (
  IX x13 x15 2 fun (px18 : Addr) =>
  LD [.int .i64, .int .i64] px18 w3 fun (x19_0 : Int) (x19_1 : Int) =>
  NEW T.t_i_End #[.int .i64 0, .int .i64 0] w3 fun (p_e : Addr) w4 =>
  ST p_e 0 [.int .i64 x19_0, .int .i64 x19_1] w4 fun w5 =>
  LD [.int .i64] (p_e.add 0) w5 fun (x21 : Int) =>
  cond ((x21 : Int) == w1) (
  Q x15 w5) (
  I2 (IntKind.i64.wrap (x15 + 1)) w5 ∧ m2 (IntKind.i64.wrap (x15 + 1)) w5 < m2 x15 w3)) (
  Q (-1) w3)

theorem C_s_mtPort {Q : Int → World → Prop} {n_0 : Sl} {n_1 : Sl} {n_2 : Sl} {v : Int} {w1 : Int} {w : World} (h : V_s_mtPort Q n_0 n_1 n_2 v w1 w) : Calls Try.prog F.s_mtPort #[.agg #[n_0.v, n_1.v, n_2.v], .int .i64 v, .int .i64 w1] w (Ret [.at (.int .i64)] Q) :=
  mkC (hint := hint) (ann := annOf [(2, ⟨[(15, .int .i64)], [6, 7, 8, 16, 17, 18, 19, 20, 21, 22, 23, 24, 25]⟩)]) (args := [.agg #[n_0.v, n_1.v, n_2.v], .int .i64 v, .int .i64 w1]) (rs := [.at (.int .i64)]) Try.func75 (by kernel_rfl) (by kernel_rfl) h

end Go.Proofs.Ytcilbmkieclelaa
