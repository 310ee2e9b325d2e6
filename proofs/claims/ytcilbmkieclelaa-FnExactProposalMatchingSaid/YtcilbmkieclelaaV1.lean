/- What each function's code computes to. Printed by a program. -/
import Derived.Test.YtcilbmkieclelaaNames
namespace Go.Proofs.Ytcilbmkieclelaa
open Go.GX Go.RowKit
set_option linter.unusedVariables false
set_option maxRecDepth 100000

def V_l_eqNetwork (Q : Bool → World → Prop) (a_0 : Sl) (a_1 : Sl) (a_2 : Sl) (b_0 : Sl) (b_1 : Sl) (b_2 : Sl) (w : World) : Prop :=
  NEW T.t_i_Network #[a_0.v, a_1.v, a_2.v] w fun (p_a : Addr) w1 =>
  NEW T.t_i_Network #[b_0.v, b_1.v, b_2.v] w1 fun (p_b : Addr) w2 =>
  LD [.sl] (p_a.add 0) w2 fun (x6 : Sl) =>
  LD [.sl] (p_b.add 0) w2 fun (x8 : Sl) =>
  Calls Try.prog F.l_eqEndSS #[x6.v, x8.v] w2 (Ret [.at .bool] fun (x9 : Bool) w3 =>
  cond (!x9) (
  Q false w3) (
  LD [.sl] (p_a.add 1) w3 fun (x12 : Sl) =>
  LD [.sl] (p_b.add 1) w3 fun (x14 : Sl) =>
  Calls Try.prog F.l_eqIntS #[x12.v, x14.v] w3 (Ret [.at .bool] fun (x15 : Bool) w4 =>
  cond (!x15) (
  Q false w4) (
  LD [.sl] (p_a.add 2) w4 fun (x18 : Sl) =>
  LD [.sl] (p_b.add 2) w4 fun (x20 : Sl) =>
  Calls Try.prog F.l_eqIntS #[x18.v, x20.v] w4 (Ret [.at .bool] fun (x21 : Bool) w5 =>
  cond (!x21) (
  Q false w5) (
  Q true w5))))))

theorem C_l_eqNetwork {Q : Bool → World → Prop} {a_0 : Sl} {a_1 : Sl} {a_2 : Sl} {b_0 : Sl} {b_1 : Sl} {b_2 : Sl} {w : World} (h : V_l_eqNetwork Q a_0 a_1 a_2 b_0 b_1 b_2 w) : Calls Try.prog F.l_eqNetwork #[.agg #[a_0.v, a_1.v, a_2.v], .agg #[b_0.v, b_1.v, b_2.v]] w (Ret [.at .bool] Q) :=
  mkC (hint := hint) (ann := annOf []) (args := [.agg #[a_0.v, a_1.v, a_2.v], .agg #[b_0.v, b_1.v, b_2.v]]) (rs := [.at .bool]) Try.func20 (by kernel_rfl) (by kernel_rfl) h

def V_l_eqIntSS (Q : Bool → World → Prop) (a : Sl) (b : Sl) (w : World) : Prop :=
  cond ((a.len : Int) != b.len) (
  Q false w) (
  ∃ (I4 : Int → World → Prop) (m4 : Int → World → Nat), I4 0 w ∧ ∀ (i : Int) w1, I4 i w1 → ∀ _ _ _ _ _ _ _ _ _ _ _ _ _ _ _ _ _ : Value,
  cond (decide ((i : Int) < a.len)) (
  IX a i 1 fun (px19 : Addr) =>
  LD [.sl] px19 w1 fun (x20 : Sl) =>
  IX b i 1 fun (px23 : Addr) =>
  LD [.sl] px23 w1 fun (x24 : Sl) =>
  QCALL Try.prog F.l_eqIntS #[x20.v, x24.v] w1 [.at .bool] fun (x25 : Bool) =>
  ∀ w2, Ext w1 w2 →
  cond (!x25) (
  Q false w2) (
  I4 (IntKind.i64.wrap (i + 1)) w2 ∧ m4 (IntKind.i64.wrap (i + 1)) w2 < m4 i w1)) (
  Q true w1))

theorem C_l_eqIntSS {Q : Bool → World → Prop} {a : Sl} {b : Sl} {w : World} (h : V_l_eqIntSS Q a b w) : Calls Try.prog F.l_eqIntSS #[a.v, b.v] w (Ret [.at .bool] Q) :=
  mkC (hint := hint) (ann := annOf [(4, ⟨[(5, .int .i64)], [4, 11, 12, 13, 14, 15, 16, 17, 18, 19, 20, 21, 22, 23, 24, 25, 26]⟩)]) (args := [a.v, b.v]) (rs := [.at .bool]) Try.func21 (by kernel_rfl) (by kernel_rfl) h

def V_s_IsDistanceColouring_k1 (colours : Sl) (k : Int) (Q : Bool → Bool → World → Prop) (p_n : Addr) (w4 : World) : Prop :=
  ∃ (I4 : Int → World → Prop) (m4 : Int → World → Nat), I4 0 w4 ∧ ∀ (x23 : Int) w5, I4 x23 w5 → ∀ _ _ _ _ _ _ _ _ _ _ _ _ _ _ _ _ _ _ _ _ _ _ _ _ _ _ _ _ _ _ _ _ : Value,
  cond (decide ((x23 : Int) < colours.len)) (
  IX colours x23 1 fun (px26 : Addr) =>
  LD [.int .i64] px26 w5 fun (x27 : Int) =>
  LD [.sl, .sl, .sl] p_n w5 fun (x28_0 : Sl) (x28_1 : Sl) (x28_2 : Sl) =>
  Calls Try.prog F.s_meFrom #[.agg #[x28_0.v, x28_1.v, x28_2.v], .int .i64 x23] w5 (Ret [.at .sl] fun (x30 : Sl) w6 =>
  ∃ (I7 : Int → World → Prop) (m7 : Int → World → Nat), I7 0 w6 ∧ ∀ (x32 : Int) w7, I7 x32 w7 → ∀ _ _ _ _ _ _ _ _ _ _ _ _ _ _ _ _ _ _ _ _ : Value,
  cond (decide ((x32 : Int) < x30.len)) (
  IX x30 x32 1 fun (px35 : Addr) =>
  LD [.int .i64] px35 w7 fun (x36 : Int) =>
  Calls Try.prog F.s_l1In #[.int .i64 x36, .int .i64 1, .int .i64 k] w7 (Ret [.at .bool] fun (x39 : Bool) w8 =>
  cond x39 (
  IX colours x32 1 fun (px43 : Addr) =>
  LD [.int .i64] px43 w8 fun (x44 : Int) =>
  cond ((x44 : Int) == x27) (
  Q false true w8) (
  I7 (IntKind.i64.wrap (x32 + 1)) w8 ∧ m7 (IntKind.i64.wrap (x32 + 1)) w8 < m7 x32 w7)) (
  I7 (IntKind.i64.wrap (x32 + 1)) w8 ∧ m7 (IntKind.i64.wrap (x32 + 1)) w8 < m7 x32 w7))) (
  I4 (IntKind.i64.wrap (x23 + 1)) w7 ∧ m4 (IntKind.i64.wrap (x23 + 1)) w7 < m4 x23 w5))) (
  Q true true w5)

def V_s_IsDistanceColouring (Q : Bool → Bool → World → Prop) (n_0 : Sl) (n_1 : Sl) (n_2 : Sl) (colours : Sl) (k : Int) (w : World) : Prop :=
  NEW T.t_i_Network #[n_0.v, n_1.v, n_2.v] w fun (p_n : Addr) w1 =>
  LD [.sl, .sl, .sl] p_n w1 fun (x12_0 : Sl) (x12_1 : Sl) (x12_2 : Sl) =>
  Calls Try.prog F.s_ruColours #[.agg #[x12_0.v, x12_1.v, x12_2.v], colours.v] w1 (Ret [.at .bool] fun (x14 : Bool) w2 =>
  cond (!x14) (
  Q false false w2) (
  Calls Try.prog F.s_l1In #[.int .i64 k, .int .i64 1, .int .i64 40] w2 (Ret [.at .bool] fun (x18 : Bool) w3 =>
  cond (!x18) (
  Q false false w3) (
  V_s_IsDistanceColouring_k1 colours k Q p_n w3))))

theorem C_s_IsDistanceColouring {Q : Bool → Bool → World → Prop} {n_0 : Sl} {n_1 : Sl} {n_2 : Sl} {colours : Sl} {k : Int} {w : World} (h : V_s_IsDistanceColouring Q n_0 n_1 n_2 colours k w) : Calls Try.prog F.s_IsDistanceColouring #[.agg #[n_0.v, n_1.v, n_2.v], colours.v, .int .i64 k] w (Ret [.at .bool, .at .bool] Q) :=
  mkC (hint := hint) (ann := annOf [(4, ⟨[(23, .int .i64)], [6, 7, 8, 9, 10, 11, 24, 25, 26, 27, 28, 29, 30, 31, 32, 33, 34, 35, 36, 37, 38, 39, 40, 41, 42, 43, 44, 45, 46, 47, 48, 49]⟩), (7, ⟨[(32, .int .i64)], [6, 7, 10, 11, 33, 34, 35, 36, 37, 38, 39, 40, 41, 42, 43, 44, 45, 46, 47, 48]⟩)]) (args := [.agg #[n_0.v, n_1.v, n_2.v], colours.v, .int .i64 k]) (rs := [.at .bool, .at .bool]) Try.func22 (by kernel_rfl) (by kernel_rfl) h

def V_l_toIntS (Q : Sl → World → Prop) (a : Sl) (w : World) : Prop :=
  RUN Try.prog (.at .sl) (Instr.makeSlice T.t_sl_int (.int .i64 a.len) (.int .i64 a.len)) w fun (x7 : Sl) w1 =>
  ∃ (I3 : Int → World → Prop) (m3 : Int → World → Nat), I3 0 w1 ∧ ∀ (i : Int) w2, I3 i w2 → ∀ _ _ _ _ _ _ _ _ _ _ _ _ _ : Value,
  cond (decide ((i : Int) < a.len)) (
  IX a i 1 fun (px18 : Addr) =>
  LD [.int .i64] px18 w2 fun (x19 : Int) =>
  IX x7 i 1 fun (px20 : Addr) =>
  ST px20 0 [.int .i64 x19] w2 fun w3 =>
  I3 (IntKind.i64.wrap (i + 1)) w3 ∧ m3 (IntKind.i64.wrap (i + 1)) w3 < m3 i w2) (
  Q x7 w2)

theorem C_l_toIntS {Q : Sl → World → Prop} {a : Sl} {w : World} (h : V_l_toIntS Q a w) : Calls Try.prog F.l_toIntS #[a.v] w (Ret [.at .sl] Q) :=
  mkC (hint := hint) (ann := annOf [(3, ⟨[(4, .int .i64)], [8, 9, 10, 11, 12, 13, 14, 15, 16, 17, 18, 19, 20]⟩)]) (args := [a.v]) (rs := [.at .sl]) Try.func23 (by kernel_rfl) (by kernel_rfl) h

def V_i_IsDistanceColouring_k1 (colours : Sl) (k : Int) (Q : Bool → Bool → World → Prop) (p_n : Addr) (w4 : World) : Prop :=
  LD [.sl, .sl, .sl] p_n w4 fun (x21_0 : Sl) (x21_1 : Sl) (x21_2 : Sl) =>
  Calls Try.prog F.i_allDistances #[.agg #[x21_0.v, x21_1.v, x21_2.v]] w4 (Ret [.at .sl] fun (x22 : Sl) w5 =>
  ∃ (I4 : Int → World → Prop) (m4 : Int → World → Nat), I4 0 w5 ∧ ∀ (x24 : Int) w6, I4 x24 w6 → ∀ _ _ _ _ _ _ _ _ _ _ _ _ _ _ _ _ _ _ _ _ _ _ _ _ _ _ _ _ _ _ _ _ _ : Value,
  cond (decide ((x24 : Int) < x22.len)) (
  IX x22 x24 1 fun (px27 : Addr) =>
  LD [.sl] px27 w6 fun (x28 : Sl) =>
  ∃ (I7 : Int → World → Prop) (m7 : Int → World → Nat), I7 0 w6 ∧ ∀ (x31 : Int) w7, I7 x31 w7 → ∀ _ _ _ _ _ _ _ _ _ _ _ _ _ _ _ _ _ _ _ _ _ _ _ : Value,
  cond (decide ((x31 : Int) < x28.len)) (
  IX x28 x31 1 fun (px34 : Addr) =>
  LD [.int .i64] px34 w7 fun (x35 : Int) =>
  QCALL Try.prog F.i_within #[.int .i64 x35, .int .i64 1, .int .i64 k] w7 [.at .bool] fun (x38 : Bool) =>
  cond x38 (
  IX colours x24 1 fun (px42 : Addr) =>
  LD [.int .i64] px42 w7 fun (x43 : Int) =>
  IX colours x31 1 fun (px46 : Addr) =>
  LD [.int .i64] px46 w7 fun (x47 : Int) =>
  ∀ w8, Ext w7 w8 →
  cond ((x43 : Int) == x47) (
  Q false true w8) (
  I7 (IntKind.i64.wrap (x31 + 1)) w8 ∧ m7 (IntKind.i64.wrap (x31 + 1)) w8 < m7 x31 w7)) (
  ∀ w9, Ext w7 w9 →
  I7 (IntKind.i64.wrap (x31 + 1)) w9 ∧ m7 (IntKind.i64.wrap (x31 + 1)) w9 < m7 x31 w7)) (
  I4 (IntKind.i64.wrap (x24 + 1)) w7 ∧ m4 (IntKind.i64.wrap (x24 + 1)) w7 < m4 x24 w6)) (
  Q true true w6))

def V_i_IsDistanceColouring (Q : Bool → Bool → World → Prop) (n_0 : Sl) (n_1 : Sl) (n_2 : Sl) (colours : Sl) (k : Int) (w : World) : Prop :=
  NEW T.t_i_Network #[n_0.v, n_1.v, n_2.v] w fun (p_n : Addr) w1 =>
  LD [.sl, .sl, .sl] p_n w1 fun (x12_0 : Sl) (x12_1 : Sl) (x12_2 : Sl) =>
  Calls Try.prog F.i_areColours #[.agg #[x12_0.v, x12_1.v, x12_2.v], colours.v] w1 (Ret [.at .bool] fun (x14 : Bool) w2 =>
  cond (!x14) (
  Q false false w2) (
  Calls Try.prog F.i_within #[.int .i64 k, .int .i64 1, .int .i64 40] w2 (Ret [.at .bool] fun (x18 : Bool) w3 =>
  cond (!x18) (
  Q false false w3) (
  V_i_IsDistanceColouring_k1 colours k Q p_n w3))))

theorem C_i_IsDistanceColouring {Q : Bool → Bool → World → Prop} {n_0 : Sl} {n_1 : Sl} {n_2 : Sl} {colours : Sl} {k : Int} {w : World} (h : V_i_IsDistanceColouring Q n_0 n_1 n_2 colours k w) : Calls Try.prog F.i_IsDistanceColouring #[.agg #[n_0.v, n_1.v, n_2.v], colours.v, .int .i64 k] w (Ret [.at .bool, .at .bool] Q) :=
  mkC (hint := hint) (ann := annOf [(4, ⟨[(24, .int .i64)], [6, 7, 8, 9, 10, 11, 25, 26, 27, 28, 29, 30, 31, 32, 33, 34, 35, 36, 37, 38, 39, 40, 41, 42, 43, 44, 45, 46, 47, 48, 49, 50, 51]⟩), (7, ⟨[(31, .int .i64)], [6, 7, 10, 11, 32, 33, 34, 35, 36, 37, 38, 39, 40, 41, 42, 43, 44, 45, 46, 47, 48, 49, 50]⟩)]) (args := [.agg #[n_0.v, n_1.v, n_2.v], colours.v, .int .i64 k]) (rs := [.at .bool, .at .bool]) Try.func24 (by kernel_rfl) (by kernel_rfl) h

def V_l_eqIntS (Q : Bool → World → Prop) (a : Sl) (b : Sl) (w : World) : Prop :=
  cond ((a.len : Int) != b.len) (
  Q false w) (
  ∃ (I4 : Int → World → Prop) (m4 : Int → World → Nat), I4 0 w ∧ ∀ (i : Int) w1, I4 i w1 → ∀ _ _ _ _ _ _ _ _ _ _ _ _ _ _ _ _ : Value,
  cond (decide ((i : Int) < a.len)) (
  IX a i 1 fun (px19 : Addr) =>
  LD [.int .i64] px19 w1 fun (x20 : Int) =>
  IX b i 1 fun (px23 : Addr) =>
  LD [.int .i64] px23 w1 fun (x24 : Int) =>
  ∀ w2, Ext w1 w2 →
  cond ((x20 : Int) != x24) (
  Q false w2) (
  I4 (IntKind.i64.wrap (i + 1)) w2 ∧ m4 (IntKind.i64.wrap (i + 1)) w2 < m4 i w1)) (
  Q true w1))

theorem C_l_eqIntS {Q : Bool → World → Prop} {a : Sl} {b : Sl} {w : World} (h : V_l_eqIntS Q a b w) : Calls Try.prog F.l_eqIntS #[a.v, b.v] w (Ret [.at .bool] Q) :=
  mkC (hint := hint) (ann := annOf [(4, ⟨[(5, .int .i64)], [4, 11, 12, 13, 14, 15, 16, 17, 18, 19, 20, 21, 22, 23, 24, 25]⟩)]) (args := [a.v, b.v]) (rs := [.at .bool]) Try.func25 (by kernel_rfl) (by kernel_rfl) h

def V_s_GreedyIndependent (Q : Sl → Bool → World → Prop) (n_0 : Sl) (n_1 : Sl) (n_2 : Sl) (order : Sl) (w : World) : Prop :=
  NEW T.t_i_Network #[n_0.v, n_1.v, n_2.v] w fun (p_n : Addr) w1 =>
  LD [.sl, .sl, .sl] p_n w1 fun (x6_0 : Sl) (x6_1 : Sl) (x6_2 : Sl) =>
  Calls Try.prog F.s_neGood #[.agg #[x6_0.v, x6_1.v, x6_2.v]] w1 (Ret [.at .bool] fun (x7 : Bool) w2 =>
  cond (!x7) (
  Q (⟨none, 0, 0⟩) false w2) (
  LD [.sl] (p_n.add 0) w2 fun (x12 : Sl) =>
  Calls Try.prog F.s_nePerm #[order.v, .int .i64 x12.len] w2 (Ret [.at .bool] fun (x14 : Bool) w3 =>
  cond (!x14) (
  Q (⟨none, 0, 0⟩) false w3) (
  LD [.sl, .sl, .sl] p_n w3 fun (x17_0_2 : Sl) (x17_1_2 : Sl) (x17_2_2 : Sl) =>
  Calls Try.prog F.s_mtGreedy #[.agg #[x17_0_2.v, x17_1_2.v, x17_2_2.v], order.v] w3 (Ret [.at .sl] fun (x19_2 : Sl) w5 =>
  Q x19_2 true w5)))))

theorem C_s_GreedyIndependent {Q : Sl → Bool → World → Prop} {n_0 : Sl} {n_1 : Sl} {n_2 : Sl} {order : Sl} {w : World} (h : V_s_GreedyIndependent Q n_0 n_1 n_2 order w) : Calls Try.prog F.s_GreedyIndependent #[.agg #[n_0.v, n_1.v, n_2.v], order.v] w (Ret [.at .sl, .at .bool] Q) :=
  mkC (hint := hint) (ann := annOf []) (args := [.agg #[n_0.v, n_1.v, n_2.v], order.v]) (rs := [.at .sl, .at .bool]) Try.func26 (by kernel_rfl) (by kernel_rfl) h

def V_i_GreedyIndependent (Q : Sl → Bool → World → Prop) (n_0 : Sl) (n_1 : Sl) (n_2 : Sl) (order : Sl) (w : World) : Prop :=
  NEW T.t_i_Network #[n_0.v, n_1.v, n_2.v] w fun (p_n : Addr) w1 =>
  LD [.sl, .sl, .sl] p_n w1 fun (x6_0 : Sl) (x6_1 : Sl) (x6_2 : Sl) =>
  Calls Try.prog F.i_IsNetwork #[.agg #[x6_0.v, x6_1.v, x6_2.v]] w1 (Ret [.at .bool] fun (x7 : Bool) w2 =>
  cond (!x7) (
  Q (⟨none, 0, 0⟩) false w2) (
  LD [.sl] (p_n.add 0) w2 fun (x12 : Sl) =>
  Calls Try.prog F.i_isPermutation #[order.v, .int .i64 x12.len] w2 (Ret [.at .bool] fun (x14 : Bool) w3 =>
  cond (!x14) (
  Q (⟨none, 0, 0⟩) false w3) (
  LD [.sl, .sl, .sl] p_n w3 fun (x17_0_2 : Sl) (x17_1_2 : Sl) (x17_2_2 : Sl) =>
  Calls Try.prog F.i_greedyIndependent #[.agg #[x17_0_2.v, x17_1_2.v, x17_2_2.v], order.v] w3 (Ret [.at .sl] fun (x19_2 : Sl) w5 =>
  Q x19_2 true w5)))))

theorem C_i_GreedyIndependent {Q : Sl → Bool → World → Prop} {n_0 : Sl} {n_1 : Sl} {n_2 : Sl} {order : Sl} {w : World} (h : V_i_GreedyIndependent Q n_0 n_1 n_2 order w) : Calls Try.prog F.i_GreedyIndependent #[.agg #[n_0.v, n_1.v, n_2.v], order.v] w (Ret [.at .sl, .at .bool] Q) :=
  mkC (hint := hint) (ann := annOf []) (args := [.agg #[n_0.v, n_1.v, n_2.v], order.v]) (rs := [.at .sl, .at .bool]) Try.func27 (by kernel_rfl) (by kernel_rfl) h

def V_l_markNetwork (Q : Int → World → Prop) (a_0 : Sl) (a_1 : Sl) (a_2 : Sl) (k : Int) (w : World) : Prop :=
  NEW T.t_i_Network #[a_0.v, a_1.v, a_2.v] w fun (p_a : Addr) w1 =>
  LD [.sl] (p_a.add 0) w1 fun (x6 : Sl) =>
  Calls Try.prog F.l_markEndSS #[x6.v, .int .i64 k] w1 (Ret [.at (.int .i64)] fun (x8 : Int) w2 =>
  LD [.sl] (p_a.add 1) w2 fun (x10 : Sl) =>
  Calls Try.prog F.l_markIntS #[x10.v, .int .i64 x8] w2 (Ret [.at (.int .i64)] fun (x12 : Int) w3 =>
  LD [.sl] (p_a.add 2) w3 fun (x14 : Sl) =>
  Calls Try.prog F.l_markIntS #[x14.v, .int .i64 x12] w3 (Ret [.at (.int .i64)] fun (x16 : Int) w4 =>
  Q x16 w4)))

theorem C_l_markNetwork {Q : Int → World → Prop} {a_0 : Sl} {a_1 : Sl} {a_2 : Sl} {k : Int} {w : World} (h : V_l_markNetwork Q a_0 a_1 a_2 k w) : Calls Try.prog F.l_markNetwork #[.agg #[a_0.v, a_1.v, a_2.v], .int .i64 k] w (Ret [.at (.int .i64)] Q) :=
  mkC (hint := hint) (ann := annOf []) (args := [.agg #[a_0.v, a_1.v, a_2.v], .int .i64 k]) (rs := [.at (.int .i64)]) Try.func28 (by kernel_rfl) (by kernel_rfl) h

def V_l_markIntS (Q : Int → World → Prop) (a : Sl) (k : Int) (w : World) : Prop :=
  ∃ (I2 : Int → Int → World → Prop) (m2 : Int → Int → World → Nat), I2 k 0 w ∧ ∀ (k_2 : Int) (i : Int) w1, I2 k_2 i w1 → ∀ _ _ _ _ _ _ _ _ _ _ _ _ : Value,
  cond (decide ((i : Int) < a.len)) (
  IX a i 1 fun (px15 : Addr) =>
  ST px15 0 [.int .i64 k_2] w1 fun w2 =>
  I2 (IntKind.i64.wrap (k_2 + 1)) (IntKind.i64.wrap (i + 1)) w2 ∧ m2 (IntKind.i64.wrap (k_2 + 1)) (IntKind.i64.wrap (i + 1)) w2 < m2 k_2 i w1) (
  Q k_2 w1)

theorem C_l_markIntS {Q : Int → World → Prop} {a : Sl} {k : Int} {w : World} (h : V_l_markIntS Q a k w) : Calls Try.prog F.l_markIntS #[a.v, .int .i64 k] w (Ret [.at (.int .i64)] Q) :=
  mkC (hint := hint) (ann := annOf [(2, ⟨[(1, .int .i64), (5, .int .i64)], [6, 7, 8, 9, 10, 11, 12, 13, 14, 15, 16, 17]⟩)]) (args := [a.v, .int .i64 k]) (rs := [.at (.int .i64)]) Try.func29 (by kernel_rfl) (by kernel_rfl) h

def V_l_heldIntS (Q : Int → World → Prop) (a : Sl) (k : Int) (w : World) : Prop :=
  ∃ (I2 : Int → Int → World → Prop) (m2 : Int → Int → World → Nat), I2 k 0 w ∧ ∀ (k_2 : Int) (i : Int) w1, I2 k_2 i w1 → ∀ _ _ _ _ _ _ _ _ _ _ _ _ _ _ _ : Value,
  cond (decide ((i : Int) < a.len)) (
  IX a i 1 fun (px14 : Addr) =>
  LD [.int .i64] px14 w1 fun (x15 : Int) =>
  cond ((x15 : Int) != k_2) (
  Q (-1) w1) (
  I2 (IntKind.i64.wrap (k_2 + 1)) (IntKind.i64.wrap (i + 1)) w1 ∧ m2 (IntKind.i64.wrap (k_2 + 1)) (IntKind.i64.wrap (i + 1)) w1 < m2 k_2 i w1)) (
  Q k_2 w1)

theorem C_l_heldIntS {Q : Int → World → Prop} {a : Sl} {k : Int} {w : World} (h : V_l_heldIntS Q a k w) : Calls Try.prog F.l_heldIntS #[a.v, .int .i64 k] w (Ret [.at (.int .i64)] Q) :=
  mkC (hint := hint) (ann := annOf [(2, ⟨[(1, .int .i64), (5, .int .i64)], [4, 6, 7, 8, 9, 10, 11, 12, 13, 14, 15, 16, 17, 18, 19]⟩)]) (args := [a.v, .int .i64 k]) (rs := [.at (.int .i64)]) Try.func30 (by kernel_rfl) (by kernel_rfl) h

def V_s_RulingByIds_k1 (Q : Sl → Int → Bool → World → Prop) (px1 : Addr) (w3 : World) : Prop :=
  LD [.sl] (px1.add 0) w3 fun (x23 : Sl) =>
  RUN Try.prog (.at .sl) (Instr.makeSlice T.t_sl_bool (.int .i64 x23.len) (.int .i64 x23.len)) w3 fun (x25 : Sl) w4 =>
  ∃ (I5 : Int → World → Prop) (m5 : Int → World → Nat), I5 0 w4 ∧ ∀ (x28 : Int) w5, I5 x28 w5 → ∀ _ _ _ _ _ _ _ : Value,
  cond (decide ((x28 : Int) < x25.len)) (
  IX x25 x28 1 fun (px33 : Addr) =>
  ST px33 0 [.bool true] w5 fun w6 =>
  I5 (IntKind.i64.wrap (x28 + 1)) w6 ∧ m5 (IntKind.i64.wrap (x28 + 1)) w6 < m5 x28 w5) (
  ∃ (I10 : Sl → Int → World → Prop) (m10 : Sl → Int → World → Nat), I10 x25 0 w5 ∧ ∀ (x5 : Sl) (x7 : Int) w7, I10 x5 x7 w7 → ∀ _ _ _ _ _ _ _ _ _ _ _ _ _ _ _ _ _ _ _ _ _ _ _ _ _ _ _ _ _ _ _ : Value,
  cond (decide ((x7 : Int) < 20)) (
  RUN Try.prog (.at .sl) (Instr.buildSlice T.t_sl_bool 0 #[]) w7 fun (x39 : Sl) w8 =>
  RUN Try.prog (.at .sl) (bsem .append #[T.t_sl_bool, T.t_sl_bool] T.t_sl_bool #[x39.v, x5.v]) w8 fun (x41 : Sl) w9 =>
  ∃ (I14 : Int → World → Prop) (m14 : Int → World → Nat), I14 0 w9 ∧ ∀ (x44 : Int) w10, I14 x44 w10 → ∀ _ _ _ _ _ _ _ _ _ _ _ _ _ _ _ _ _ _ _ : Value,
  cond (decide ((x44 : Int) < x5.len)) (
  IX x5 x44 1 fun (px51 : Addr) =>
  LD [.bool] px51 w10 fun (x52 : Bool) =>
  cond x52 (
  LD [.sl, .sl, .sl] px1 w10 fun (x54_0 : Sl) (x54_1 : Sl) (x54_2 : Sl) =>
  Calls Try.prog F.s_ruLeaves #[.agg #[x54_0.v, x54_1.v, x54_2.v], x5.v, .int .i64 x44, .int .i64 x7] w10 (Ret [.at .bool] fun (x58 : Bool) w11 =>
  IX x41 x44 1 fun (px61 : Addr) =>
  ST px61 0 [.bool (!x58)] w11 fun w12 =>
  I14 (IntKind.i64.wrap (x44 + 1)) w12 ∧ m14 (IntKind.i64.wrap (x44 + 1)) w12 < m14 x44 w10)) (
  IX x41 x44 1 fun (px61_2 : Addr) =>
  ST px61_2 0 [.bool false] w10 fun w13 =>
  I14 (IntKind.i64.wrap (x44 + 1)) w13 ∧ m14 (IntKind.i64.wrap (x44 + 1)) w13 < m14 x44 w10)) (
  I10 x41 (IntKind.i64.wrap (x7 + 1)) w10 ∧ m10 x41 (IntKind.i64.wrap (x7 + 1)) w10 < m10 x5 x7 w7)) (
  ∃ (I21 : Sl → Int → World → Prop) (m21 : Sl → Int → World → Nat), I21 (⟨none, 0, 0⟩) 0 w7 ∧ ∀ (x10 : Sl) (x66 : Int) w14, I21 x10 x66 w14 → ∀ _ _ _ _ _ _ _ _ _ _ _ _ : Value,
  cond (decide ((x66 : Int) < x5.len)) (
  IX x5 x66 1 fun (px69 : Addr) =>
  LD [.bool] px69 w14 fun (x70 : Bool) =>
  cond x70 (
  RUN Try.prog (.at .sl) (Instr.buildSlice T.t_sl_int 1 #[(0, .int .i64 x66)]) w14 fun (x74 : Sl) w15 =>
  RUN Try.prog (.at .sl) (bsem .append #[T.t_sl_int, T.t_sl_int] T.t_sl_int #[x10.v, x74.v]) w15 fun (x75 : Sl) w16 =>
  I21 x75 (IntKind.i64.wrap (x66 + 1)) w16 ∧ m21 x75 (IntKind.i64.wrap (x66 + 1)) w16 < m21 x10 x66 w14) (
  I21 x10 (IntKind.i64.wrap (x66 + 1)) w14 ∧ m21 x10 (IntKind.i64.wrap (x66 + 1)) w14 < m21 x10 x66 w14)) (
  Q x10 20 true w14)))

def V_s_RulingByIds (Q : Sl → Int → Bool → World → Prop) (x0_0 : Sl) (x0_1 : Sl) (x0_2 : Sl) (w : World) : Prop :=
  NEW T.t_i_Network #[x0_0.v, x0_1.v, x0_2.v] w fun (px1 : Addr) w1 =>
  LD [.sl, .sl, .sl] px1 w1 fun (x13_0 : Sl) (x13_1 : Sl) (x13_2 : Sl) =>
  Calls Try.prog F.s_neGood #[.agg #[x13_0.v, x13_1.v, x13_2.v]] w1 (Ret [.at .bool] fun (x14 : Bool) w2 =>
  cond (!x14) (
  Q (⟨none, 0, 0⟩) 0 false w2) (
  LD [.sl] (px1.add 1) w2 fun (x18 : Sl) =>
  cond ((x18.len : Int) == 0) (
  Q (⟨none, 0, 0⟩) 0 false w2) (
  V_s_RulingByIds_k1 Q px1 w2)))

theorem C_s_RulingByIds {Q : Sl → Int → Bool → World → Prop} {x0_0 : Sl} {x0_1 : Sl} {x0_2 : Sl} {w : World} (h : V_s_RulingByIds Q x0_0 x0_1 x0_2 w) : Calls Try.prog F.s_RulingByIds #[.agg #[x0_0.v, x0_1.v, x0_2.v]] w (Ret [.at .sl, .at (.int .i64), .at .bool] Q) :=
  mkC (hint := hint) (ann := annOf [(5, ⟨[(28, .int .i64)], [6, 29, 30, 31, 32, 33, 34]⟩), (10, ⟨[(5, .sl), (7, .int .i64)], [8, 9, 35, 36, 37, 38, 39, 40, 41, 42, 43, 44, 45, 46, 47, 48, 49, 50, 51, 52, 53, 54, 55, 56, 57, 58, 59, 60, 61, 62, 63]⟩), (14, ⟨[(44, .int .i64)], [9, 45, 46, 47, 48, 49, 50, 51, 52, 53, 54, 55, 56, 57, 58, 59, 60, 61, 62]⟩), (21, ⟨[(10, .sl), (66, .int .i64)], [11, 12, 67, 68, 69, 70, 71, 72, 73, 74, 75, 76]⟩)]) (args := [.agg #[x0_0.v, x0_1.v, x0_2.v]]) (rs := [.at .sl, .at (.int .i64), .at .bool]) Try.func31 (by kernel_rfl) (by kernel_rfl) h

def V_i_RulingByIds_k1 (Q : Sl → Int → Bool → World → Prop) (p_n : Addr) (w3 : World) : Prop :=
  LD [.sl] (p_n.add 0) w3 fun (x18 : Sl) =>
  Calls Try.prog F.i_numbersTo #[.int .i64 x18.len] w3 (Ret [.at .sl] fun (x20 : Sl) w4 =>
  ∃ (I5 : Sl → Int → World → Prop) (m5 : Sl → Int → World → Nat), I5 x20 0 w4 ∧ ∀ (set1 : Sl) (x21 : Int) w5, I5 set1 x21 w5 → ∀ _ _ _ _ _ _ _ _ _ _ : Value,
  cond (decide ((x21 : Int) < 20)) (
  NEW T.t_int #[.int .i64 0] w5 fun (p_j : Addr) w6 =>
  ST p_j 0 [.int .i64 x21] w6 fun w7 =>
  Calls Try.prog F.slices_Clone_sl_int_int #[set1.v] w7 (Ret [.at .sl] fun (x25 : Sl) w8 =>
  NEW T.t_sl_int #[.slice none 0 0] w8 fun (p_before : Addr) w9 =>
  ST p_before 0 [x25.v] w9 fun w10 =>
  Calls Try.prog F.slices_DeleteFunc_sl_int_int #[set1.v, .func (.func F.i_RulingByIds_1) #[] #[.pointer (some p_n), .pointer (some p_before), .pointer (some p_j)]] w10 (Ret [.at .sl] fun (x28 : Sl) w11 =>
  I5 x28 (IntKind.i64.wrap (x21 + 1)) w11 ∧ m5 x28 (IntKind.i64.wrap (x21 + 1)) w11 < m5 set1 x21 w5))) (
  Q set1 20 true w5))

def V_i_RulingByIds (Q : Sl → Int → Bool → World → Prop) (n_0 : Sl) (n_1 : Sl) (n_2 : Sl) (w : World) : Prop :=
  NEW T.t_i_Network #[n_0.v, n_1.v, n_2.v] w fun (p_n : Addr) w1 =>
  LD [.sl, .sl, .sl] p_n w1 fun (x8_0 : Sl) (x8_1 : Sl) (x8_2 : Sl) =>
  Calls Try.prog F.i_IsNetwork #[.agg #[x8_0.v, x8_1.v, x8_2.v]] w1 (Ret [.at .bool] fun (x9 : Bool) w2 =>
  cond (!x9) (
  Q (⟨none, 0, 0⟩) 0 false w2) (
  LD [.sl] (p_n.add 1) w2 fun (x13 : Sl) =>
  cond ((x13.len : Int) == 0) (
  Q (⟨none, 0, 0⟩) 0 false w2) (
  V_i_RulingByIds_k1 Q p_n w2)))

theorem C_i_RulingByIds {Q : Sl → Int → Bool → World → Prop} {n_0 : Sl} {n_1 : Sl} {n_2 : Sl} {w : World} (h : V_i_RulingByIds Q n_0 n_1 n_2 w) : Calls Try.prog F.i_RulingByIds #[.agg #[n_0.v, n_1.v, n_2.v]] w (Ret [.at .sl, .at (.int .i64), .at .bool] Q) :=
  mkC (hint := hint) (ann := annOf [(5, ⟨[(5, .sl), (21, .int .i64)], [6, 7, 22, 23, 24, 25, 26, 27, 28, 29]⟩)]) (args := [.agg #[n_0.v, n_1.v, n_2.v]]) (rs := [.at .sl, .at (.int .i64), .at .bool]) Try.func32 (by kernel_rfl) (by kernel_rfl) h

def V_s_ImproveMatching_k11 (x1 : Sl) (Q : Sl → Bool → World → Prop) (px2 : Addr) (x18 : Int) (x24 : Int) (x57 : Int) (x61 : Int) (w10 : World) : Prop :=
  ∀ w11, Ext w10 w11 → w11.heap = w10.heap →
  LD [.sl, .sl, .sl] px2 w11 fun (x81_0 : Sl) (x81_1 : Sl) (x81_2 : Sl) =>
  LD [.sl, .sl, .sl] px2 w11 fun (x84_0 : Sl) (x84_1 : Sl) (x84_2 : Sl) =>
  Ext w11 w11 ∧ (
  Calls Try.prog F.s_mtPort #[.agg #[x84_0.v, x84_1.v, x84_2.v], .int .i64 x18, .int .i64 x24] w11 (Ret [.at (.int .i64)] fun (x87 : Int) w12 =>
  Ext w11 w12 ∧ (
  Calls Try.prog F.s_mtTake #[.agg #[x81_0.v, x81_1.v, x81_2.v], x1.v, .int .i64 x18, .int .i64 x87] w12 (Ret [.at .sl] fun (x88 : Sl) w13 =>
  Ext w11 w13 ∧ (
  ∀ w14, Ext w13 w14 → w14.heap = w13.heap →
  LD [.sl, .sl, .sl] px2 w14 fun (x89_0 : Sl) (x89_1 : Sl) (x89_2 : Sl) =>
  LD [.sl, .sl, .sl] px2 w14 fun (x92_0 : Sl) (x92_1 : Sl) (x92_2 : Sl) =>
  Ext w14 w14 ∧ (
  Calls Try.prog F.s_mtPort #[.agg #[x92_0.v, x92_1.v, x92_2.v], .int .i64 x57, .int .i64 x61] w14 (Ret [.at (.int .i64)] fun (x95 : Int) w15 =>
  Ext w14 w15 ∧ (
  Calls Try.prog F.s_mtTake #[.agg #[x89_0.v, x89_1.v, x89_2.v], x88.v, .int .i64 x57, .int .i64 x95] w15 (Ret [.at .sl] fun (x96 : Sl) w16 =>
  Ext w14 w16 ∧ (
  Q x96 true w16))))))))))

def V_s_ImproveMatching_k6 (I7 : Int → World → Prop) (m7 : Int → World → Nat) (x24 : Int) (w4 : World) (w17 : World) : Prop :=
  I7 (IntKind.i64.wrap (x24 + 1)) w17 ∧ m7 (IntKind.i64.wrap (x24 + 1)) w17 < m7 x24 w4

def V_s_ImproveMatching_k7 (I7 : Int → World → Prop) (m7 : Int → World → Nat) (w4 : World) (x1 : Sl) (Q : Sl → Bool → World → Prop) (px2 : Addr) (x18 : Int) (x24 : Int) (w6 : World) : Prop :=
  LD [.sl] (px2.add 0) w6 fun (x47 : Sl) =>
  IX x47 x24 1 fun (px49 : Addr) =>
  LD [.sl] px49 w6 fun (x50 : Sl) =>
  IX x1 x24 1 fun (px53 : Addr) =>
  LD [.int .i64] px53 w6 fun (x54 : Int) =>
  IX x50 x54 2 fun (px55 : Addr) =>
  LD [.int .i64] (px55.add 0) w6 fun (x57 : Int) =>
  ∀ w7, Ext w6 w7 →
  LD [.sl] (px2.add 0) w7 fun (x59 : Sl) =>
  ∃ (I12 : Int → World → Prop) (m12 : Int → World → Nat), I12 0 w7 ∧ ∀ (x61 : Int) w8, I12 x61 w8 → ∀ _ _ _ _ _ _ _ _ _ _ _ _ _ _ _ _ _ _ _ _ _ _ _ _ _ _ _ _ _ _ _ _ _ _ _ _ _ _ _ _ : Value,
  cond (decide ((x61 : Int) < x59.len)) (
  cond ((x61 : Int) == x18) (
  I12 (IntKind.i64.wrap (x61 + 1)) w8 ∧ m12 (IntKind.i64.wrap (x61 + 1)) w8 < m12 x61 w8) (
  IX x1 x61 1 fun (px70 : Addr) =>
  LD [.int .i64] px70 w8 fun (x71 : Int) =>
  cond (decide ((x71 : Int) ≥ 0)) (
  I12 (IntKind.i64.wrap (x61 + 1)) w8 ∧ m12 (IntKind.i64.wrap (x61 + 1)) w8 < m12 x61 w8) (
  LD [.sl, .sl, .sl] px2 w8 fun (x75_0 : Sl) (x75_1 : Sl) (x75_2 : Sl) =>
  Calls Try.prog F.s_mtPort #[.agg #[x75_0.v, x75_1.v, x75_2.v], .int .i64 x57, .int .i64 x61] w8 (Ret [.at (.int .i64)] fun (x78 : Int) w9 =>
  cond (decide ((x78 : Int) < 0)) (
  I12 (IntKind.i64.wrap (x61 + 1)) w9 ∧ m12 (IntKind.i64.wrap (x61 + 1)) w9 < m12 x61 w8) (
  V_s_ImproveMatching_k11 x1 Q px2 x18 x24 x57 x61 w9))))) (
  V_s_ImproveMatching_k6 I7 m7 x24 w4 w8)

def V_s_ImproveMatching (Q : Sl → Bool → World → Prop) (x0_0 : Sl) (x0_1 : Sl) (x0_2 : Sl) (x1 : Sl) (w : World) : Prop :=
  NEW T.t_i_Network #[x0_0.v, x0_1.v, x0_2.v] w fun (px2 : Addr) w1 =>
  LD [.sl, .sl, .sl] px2 w1 fun (x11_0 : Sl) (x11_1 : Sl) (x11_2 : Sl) =>
  Calls Try.prog F.s_mtAsked #[.agg #[x11_0.v, x11_1.v, x11_2.v], x1.v] w1 (Ret [.at .bool] fun (x13 : Bool) w2 =>
  cond (!x13) (
  Q (⟨none, 0, 0⟩) false w2) (
  LD [.sl] (px2.add 0) w2 fun (x16 : Sl) =>
  ∃ (I4 : Int → World → Prop) (m4 : Int → World → Nat), I4 0 w2 ∧ ∀ (x18 : Int) w3, I4 x18 w3 → ∀ _ _ _ _ _ _ _ _ _ _ _ _ _ _ _ _ _ _ _ _ _ _ _ _ _ _ _ _ _ _ _ _ _ _ _ _ _ _ _ _ _ _ _ _ _ _ _ _ _ _ _ _ _ _ _ _ _ _ _ _ _ _ _ _ _ _ _ _ _ _ _ _ _ _ _ _ _ _ _ _ _ _ _ _ _ _ _ _ : Value,
  cond (decide ((x18 : Int) < x16.len)) (
  LD [.sl] (px2.add 0) w3 fun (x22 : Sl) =>
  ∃ (I7 : Int → World → Prop) (m7 : Int → World → Nat), I7 0 w3 ∧ ∀ (x24 : Int) w4, I7 x24 w4 → ∀ _ _ _ _ _ _ _ _ _ _ _ _ _ _ _ _ _ _ _ _ _ _ _ _ _ _ _ _ _ _ _ _ _ _ _ _ _ _ _ _ _ _ _ _ _ _ _ _ _ _ _ _ _ _ _ _ _ _ _ _ _ _ _ _ _ _ _ _ _ _ _ _ _ _ _ _ _ _ _ _ : Value,
  cond (decide ((x24 : Int) < x22.len)) (
  IX x1 x18 1 fun (px29 : Addr) =>
  LD [.int .i64] px29 w4 fun (x30 : Int) =>
  cond (decide ((x30 : Int) ≥ 0)) (
  V_s_ImproveMatching_k6 I7 m7 x24 w4 w4) (
  IX x1 x24 1 fun (px35 : Addr) =>
  LD [.int .i64] px35 w4 fun (x36 : Int) =>
  cond (decide ((x36 : Int) < 0)) (
  V_s_ImproveMatching_k6 I7 m7 x24 w4 w4) (
  LD [.sl, .sl, .sl] px2 w4 fun (x40_0 : Sl) (x40_1 : Sl) (x40_2 : Sl) =>
  Calls Try.prog F.s_mtPort #[.agg #[x40_0.v, x40_1.v, x40_2.v], .int .i64 x18, .int .i64 x24] w4 (Ret [.at (.int .i64)] fun (x43 : Int) w5 =>
  cond (decide ((x43 : Int) < 0)) (
  V_s_ImproveMatching_k6 I7 m7 x24 w4 w5) (
  V_s_ImproveMatching_k7 I7 m7 w4 x1 Q px2 x18 x24 w5))))) (
  I4 (IntKind.i64.wrap (x18 + 1)) w4 ∧ m4 (IntKind.i64.wrap (x18 + 1)) w4 < m4 x18 w3)) (
  Q (⟨none, 0, 0⟩) false w3)))

theorem C_s_ImproveMatching {Q : Sl → Bool → World → Prop} {x0_0 : Sl} {x0_1 : Sl} {x0_2 : Sl} {x1 : Sl} {w : World} (h : V_s_ImproveMatching Q x0_0 x0_1 x0_2 x1 w) : Calls Try.prog F.s_ImproveMatching #[.agg #[x0_0.v, x0_1.v, x0_2.v], x1.v] w (Ret [.at .sl, .at .bool] Q) :=
  mkC (hint := hint) (ann := annOf [(4, ⟨[(18, .int .i64)], [4, 5, 6, 7, 8, 9, 10, 19, 20, 21, 22, 23, 24, 25, 26, 27, 28, 29, 30, 31, 32, 33, 34, 35, 36, 37, 38, 39, 40, 41, 42, 43, 44, 45, 46, 47, 48, 49, 50, 51, 52, 53, 54, 55, 56, 57, 58, 59, 60, 61, 62, 63, 64, 65, 66, 67, 68, 69, 70, 71, 72, 73, 74, 75, 76, 77, 78, 79, 80, 81, 82, 83, 84, 85, 86, 87, 88, 89, 90, 91, 92, 93, 94, 95, 96, 97, 98, 99]⟩), (7, ⟨[(24, .int .i64)], [4, 5, 7, 8, 9, 10, 25, 26, 27, 28, 29, 30, 31, 32, 33, 34, 35, 36, 37, 38, 39, 40, 41, 42, 43, 44, 45, 46, 47, 48, 49, 50, 51, 52, 53, 54, 55, 56, 57, 58, 59, 60, 61, 62, 63, 64, 65, 66, 67, 68, 69, 70, 71, 72, 73, 74, 75, 76, 77, 78, 79, 80, 81, 82, 83, 84, 85, 86, 87, 88, 89, 90, 91, 92, 93, 94, 95, 96, 97, 98]⟩), (12, ⟨[(61, .int .i64)], [4, 5, 9, 10, 62, 63, 64, 65, 66, 67, 68, 69, 70, 71, 72, 73, 74, 75, 76, 77, 78, 79, 80, 81, 82, 83, 84, 85, 86, 87, 88, 89, 90, 91, 92, 93, 94, 95, 96, 97]⟩)]) (args := [.agg #[x0_0.v, x0_1.v, x0_2.v], x1.v]) (rs := [.at .sl, .at .bool]) Try.func33 (by kernel_rfl) (by kernel_rfl) h

def V_i_ImproveMatching_k11 (x1 : Sl) (Q : Sl → Bool → World → Prop) (px2 : Addr) (x19 : Int) (x24 : Int) (x57 : Int) (x60 : Int) (w10 : World) : Prop :=
  Calls Try.prog F.slices_Clone_sl_int_int #[x1.v] w10 (Ret [.at .sl] fun (x81 : Sl) w11 =>
  LD [.sl, .sl, .sl] px2 w11 fun (x82_0 : Sl) (x82_1 : Sl) (x82_2 : Sl) =>
  QCALL Try.prog F.i_portTo #[.agg #[x82_0.v, x82_1.v, x82_2.v], .int .i64 x19, .int .i64 x24] w11 [.at (.int .i64)] fun (x85 : Int) =>
  LD [.sl, .sl, .sl] px2 w11 fun (x86_0 : Sl) (x86_1 : Sl) (x86_2 : Sl) =>
  QCALL Try.prog F.i_portTo #[.agg #[x86_0.v, x86_1.v, x86_2.v], .int .i64 x57, .int .i64 x60] w11 [.at (.int .i64)] fun (x89 : Int) =>
  ∀ w12, Ext w11 w12 →
  LD [.sl] (px2.add 0) w12 fun (x96 : Sl) =>
  IX x96 x19 1 fun (px98 : Addr) =>
  LD [.sl] px98 w12 fun (x99 : Sl) =>
  IX x99 x85 2 fun (px101 : Addr) =>
  LD [.int .i64] (px101.add 1) w12 fun (x103 : Int) =>
  IX x81 x19 1 fun (px104 : Addr) =>
  ST px104 0 [.int .i64 x85] w12 fun w13 =>
  IX x81 x24 1 fun (px105 : Addr) =>
  ST px105 0 [.int .i64 x103] w13 fun w14 =>
  LD [.sl] (px2.add 0) w14 fun (x112 : Sl) =>
  IX x112 x57 1 fun (px114 : Addr) =>
  LD [.sl] px114 w14 fun (x115 : Sl) =>
  IX x115 x89 2 fun (px117 : Addr) =>
  LD [.int .i64] (px117.add 1) w14 fun (x119 : Int) =>
  IX x81 x57 1 fun (px120 : Addr) =>
  ST px120 0 [.int .i64 x89] w14 fun w15 =>
  IX x81 x60 1 fun (px121 : Addr) =>
  ST px121 0 [.int .i64 x119] w15 fun w16 =>
  Q x81 true w16)

def V_i_ImproveMatching_k6 (I7 : Int → World → Prop) (m7 : Int → World → Nat) (x24 : Int) (w4 : World) (w17 : World) : Prop :=
  I7 (IntKind.i64.wrap (x24 + 1)) w17 ∧ m7 (IntKind.i64.wrap (x24 + 1)) w17 < m7 x24 w4

def V_i_ImproveMatching_k7 (I7 : Int → World → Prop) (m7 : Int → World → Nat) (w4 : World) (x1 : Sl) (Q : Sl → Bool → World → Prop) (px2 : Addr) (x19 : Int) (x24 : Int) (w6 : World) : Prop :=
  LD [.sl] (px2.add 0) w6 fun (x47 : Sl) =>
  IX x47 x24 1 fun (px49 : Addr) =>
  LD [.sl] px49 w6 fun (x50 : Sl) =>
  IX x1 x24 1 fun (px53 : Addr) =>
  LD [.int .i64] px53 w6 fun (x54 : Int) =>
  IX x50 x54 2 fun (px55 : Addr) =>
  LD [.int .i64] (px55.add 0) w6 fun (x57 : Int) =>
  ∀ w7, Ext w6 w7 →
  ∃ (I12 : Int → World → Prop) (m12 : Int → World → Nat), I12 0 w7 ∧ ∀ (x60 : Int) w8, I12 x60 w8 → ∀ _ _ _ _ _ _ _ _ _ _ _ _ _ _ _ _ _ _ _ _ _ _ _ _ _ _ _ _ _ _ _ _ _ _ _ _ _ _ _ _ _ _ _ _ _ _ _ _ _ _ _ _ _ _ _ _ _ _ _ _ _ _ _ _ _ _ _ _ _ : Value,
  cond (decide ((x60 : Int) < x1.len)) (
  IX x1 x60 1 fun (px65 : Addr) =>
  LD [.int .i64] px65 w8 fun (x66 : Int) =>
  cond (decide ((x66 : Int) ≥ 0)) (
  I12 (IntKind.i64.wrap (x60 + 1)) w8 ∧ m12 (IntKind.i64.wrap (x60 + 1)) w8 < m12 x60 w8) (
  cond ((x60 : Int) == x19) (
  I12 (IntKind.i64.wrap (x60 + 1)) w8 ∧ m12 (IntKind.i64.wrap (x60 + 1)) w8 < m12 x60 w8) (
  LD [.sl, .sl, .sl] px2 w8 fun (x74_0 : Sl) (x74_1 : Sl) (x74_2 : Sl) =>
  Calls Try.prog F.i_portTo #[.agg #[x74_0.v, x74_1.v, x74_2.v], .int .i64 x57, .int .i64 x60] w8 (Ret [.at (.int .i64)] fun (x77 : Int) w9 =>
  cond (decide ((x77 : Int) < 0)) (
  I12 (IntKind.i64.wrap (x60 + 1)) w9 ∧ m12 (IntKind.i64.wrap (x60 + 1)) w9 < m12 x60 w8) (
  V_i_ImproveMatching_k11 x1 Q px2 x19 x24 x57 x60 w9))))) (
  V_i_ImproveMatching_k6 I7 m7 x24 w4 w8)

def V_i_ImproveMatching (Q : Sl → Bool → World → Prop) (x0_0 : Sl) (x0_1 : Sl) (x0_2 : Sl) (x1 : Sl) (w : World) : Prop :=
  NEW T.t_i_Network #[x0_0.v, x0_1.v, x0_2.v] w fun (px2 : Addr) w1 =>
  LD [.sl, .sl, .sl] px2 w1 fun (x13_0 : Sl) (x13_1 : Sl) (x13_2 : Sl) =>
  Calls Try.prog F.i_matchingOk #[.agg #[x13_0.v, x13_1.v, x13_2.v], x1.v] w1 (Ret [.at .bool] fun (x15 : Bool) w2 =>
  cond (!x15) (
  Q (⟨none, 0, 0⟩) false w2) (
  ∃ (I4 : Int → World → Prop) (m4 : Int → World → Nat), I4 0 w2 ∧ ∀ (x19 : Int) w3, I4 x19 w3 → ∀ _ _ _ _ _ _ _ _ _ _ _ _ _ _ _ _ _ _ _ _ _ _ _ _ _ _ _ _ _ _ _ _ _ _ _ _ _ _ _ _ _ _ _ _ _ _ _ _ _ _ _ _ _ _ _ _ _ _ _ _ _ _ _ _ _ _ _ _ _ _ _ _ _ _ _ _ _ _ _ _ _ _ _ _ _ _ _ _ _ _ _ _ _ _ _ _ _ _ _ _ _ _ _ _ _ _ _ _ _ _ _ _ _ _ _ : Value,
  cond (decide ((x19 : Int) < x1.len)) (
  ∃ (I7 : Int → World → Prop) (m7 : Int → World → Nat), I7 0 w3 ∧ ∀ (x24 : Int) w4, I7 x24 w4 → ∀ _ _ _ _ _ _ _ _ _ _ _ _ _ _ _ _ _ _ _ _ _ _ _ _ _ _ _ _ _ _ _ _ _ _ _ _ _ _ _ _ _ _ _ _ _ _ _ _ _ _ _ _ _ _ _ _ _ _ _ _ _ _ _ _ _ _ _ _ _ _ _ _ _ _ _ _ _ _ _ _ _ _ _ _ _ _ _ _ _ _ _ _ _ _ _ _ _ _ _ _ _ _ _ _ _ _ _ _ : Value,
  cond (decide ((x24 : Int) < x1.len)) (
  IX x1 x19 1 fun (px29 : Addr) =>
  LD [.int .i64] px29 w4 fun (x30 : Int) =>
  cond (decide ((x30 : Int) ≥ 0)) (
  V_i_ImproveMatching_k6 I7 m7 x24 w4 w4) (
  IX x1 x24 1 fun (px35 : Addr) =>
  LD [.int .i64] px35 w4 fun (x36 : Int) =>
  cond (decide ((x36 : Int) < 0)) (
  V_i_ImproveMatching_k6 I7 m7 x24 w4 w4) (
  LD [.sl, .sl, .sl] px2 w4 fun (x40_0 : Sl) (x40_1 : Sl) (x40_2 : Sl) =>
  Calls Try.prog F.i_portTo #[.agg #[x40_0.v, x40_1.v, x40_2.v], .int .i64 x19, .int .i64 x24] w4 (Ret [.at (.int .i64)] fun (x43 : Int) w5 =>
  cond (decide ((x43 : Int) < 0)) (
  V_i_ImproveMatching_k6 I7 m7 x24 w4 w5) (
  V_i_ImproveMatching_k7 I7 m7 w4 x1 Q px2 x19 x24 w5))))) (
  I4 (IntKind.i64.wrap (x19 + 1)) w4 ∧ m4 (IntKind.i64.wrap (x19 + 1)) w4 < m4 x19 w3)) (
  Q (⟨none, 0, 0⟩) false w3)))

theorem C_i_ImproveMatching {Q : Sl → Bool → World → Prop} {x0_0 : Sl} {x0_1 : Sl} {x0_2 : Sl} {x1 : Sl} {w : World} (h : V_i_ImproveMatching Q x0_0 x0_1 x0_2 x1 w) : Calls Try.prog F.i_ImproveMatching #[.agg #[x0_0.v, x0_1.v, x0_2.v], x1.v] w (Ret [.at .sl, .at .bool] Q) :=
  mkC (hint := hint) (ann := annOf [(4, ⟨[(19, .int .i64)], [4, 5, 6, 7, 8, 9, 10, 11, 12, 20, 21, 22, 23, 24, 25, 26, 27, 28, 29, 30, 31, 32, 33, 34, 35, 36, 37, 38, 39, 40, 41, 42, 43, 44, 45, 46, 47, 48, 49, 50, 51, 52, 53, 54, 55, 56, 57, 58, 59, 60, 61, 62, 63, 64, 65, 66, 67, 68, 69, 70, 71, 72, 73, 74, 75, 76, 77, 78, 79, 80, 81, 82, 83, 84, 85, 86, 87, 88, 89, 90, 91, 92, 93, 94, 95, 96, 97, 98, 99, 100, 101, 102, 103, 104, 105, 106, 107, 108, 109, 110, 111, 112, 113, 114, 115, 116, 117, 118, 119, 120, 121, 122, 123, 124, 125]⟩), (7, ⟨[(24, .int .i64)], [4, 5, 7, 8, 9, 10, 11, 12, 25, 26, 27, 28, 29, 30, 31, 32, 33, 34, 35, 36, 37, 38, 39, 40, 41, 42, 43, 44, 45, 46, 47, 48, 49, 50, 51, 52, 53, 54, 55, 56, 57, 58, 59, 60, 61, 62, 63, 64, 65, 66, 67, 68, 69, 70, 71, 72, 73, 74, 75, 76, 77, 78, 79, 80, 81, 82, 83, 84, 85, 86, 87, 88, 89, 90, 91, 92, 93, 94, 95, 96, 97, 98, 99, 100, 101, 102, 103, 104, 105, 106, 107, 108, 109, 110, 111, 112, 113, 114, 115, 116, 117, 118, 119, 120, 121, 122, 123, 124]⟩), (12, ⟨[(60, .int .i64)], [4, 5, 9, 10, 11, 12, 61, 62, 63, 64, 65, 66, 67, 68, 69, 70, 71, 72, 73, 74, 75, 76, 77, 78, 79, 80, 81, 82, 83, 84, 85, 86, 87, 88, 89, 90, 91, 92, 93, 94, 95, 96, 97, 98, 99, 100, 101, 102, 103, 104, 105, 106, 107, 108, 109, 110, 111, 112, 113, 114, 115, 116, 117, 118, 119, 120, 121, 122, 123]⟩)]) (args := [.agg #[x0_0.v, x0_1.v, x0_2.v], x1.v]) (rs := [.at .sl, .at .bool]) Try.func34 (by kernel_rfl) (by kernel_rfl) h

def V_s_WeakFromSet (Q : Sl → Bool → World → Prop) (n_0 : Sl) (n_1 : Sl) (n_2 : Sl) (set1 : Sl) (w : World) : Prop :=
  NEW T.t_i_Network #[n_0.v, n_1.v, n_2.v] w fun (p_n : Addr) w1 =>
  LD [.sl, .sl, .sl] p_n w1 fun (x12_0 : Sl) (x12_1 : Sl) (x12_2 : Sl) =>
  Calls Try.prog F.s_IsMaximalIndependent #[.agg #[x12_0.v, x12_1.v, x12_2.v], set1.v] w1 (Ret [.at .bool, .at .bool] fun (x14_0 : Bool) (x14_1 : Bool) w2 =>
  cond (!x14_1) (
  Q (⟨none, 0, 0⟩) false w2) (
  cond (!x14_0) (
  Q (⟨none, 0, 0⟩) false w2) (
  LD [.sl] (p_n.add 0) w2 fun (x24_2 : Sl) =>
  RUN Try.prog (.at .sl) (Instr.makeSlice T.t_sl_int (.int .i64 x24_2.len) (.int .i64 x24_2.len)) w2 fun (x26_2 : Sl) w6 =>
  ∃ (I6_2 : Int → World → Prop) (m6_2 : Int → World → Nat), I6_2 0 w6 ∧ ∀ (x29_2 : Int) w7, I6_2 x29_2 w7 → ∀ _ _ _ _ _ _ _ _ : Value,
  cond (decide ((x29_2 : Int) < set1.len)) (
  IX set1 x29_2 1 fun (px31_2 : Addr) =>
  LD [.int .i64] px31_2 w7 fun (x32_2 : Int) =>
  IX x26_2 x32_2 1 fun (px35_2 : Addr) =>
  ST px35_2 0 [.int .i64 1] w7 fun w8 =>
  I6_2 (IntKind.i64.wrap (x29_2 + 1)) w8 ∧ m6_2 (IntKind.i64.wrap (x29_2 + 1)) w8 < m6_2 x29_2 w7) (
  Q x26_2 true w7))))

theorem C_s_WeakFromSet {Q : Sl → Bool → World → Prop} {n_0 : Sl} {n_1 : Sl} {n_2 : Sl} {set1 : Sl} {w : World} (h : V_s_WeakFromSet Q n_0 n_1 n_2 set1 w) : Calls Try.prog F.s_WeakFromSet #[.agg #[n_0.v, n_1.v, n_2.v], set1.v] w (Ret [.at .sl, .at .bool] Q) :=
  mkC (hint := hint) (ann := annOf [(6, ⟨[(29, .int .i64)], [10, 30, 31, 32, 33, 34, 35, 36]⟩)]) (args := [.agg #[n_0.v, n_1.v, n_2.v], set1.v]) (rs := [.at .sl, .at .bool]) Try.func35 (by kernel_rfl) (by kernel_rfl) h

def V_i_WeakFromSet (Q : Sl → Bool → World → Prop) (n_0 : Sl) (n_1 : Sl) (n_2 : Sl) (set1 : Sl) (w : World) : Prop :=
  NEW T.t_i_Network #[n_0.v, n_1.v, n_2.v] w fun (p_n : Addr) w1 =>
  LD [.sl, .sl, .sl] p_n w1 fun (x12_0 : Sl) (x12_1 : Sl) (x12_2 : Sl) =>
  Calls Try.prog F.i_IsMaximalIndependent #[.agg #[x12_0.v, x12_1.v, x12_2.v], set1.v] w1 (Ret [.at .bool, .at .bool] fun (x14_0 : Bool) (x14_1 : Bool) w2 =>
  cond (!x14_1) (
  Q (⟨none, 0, 0⟩) false w2) (
  cond (!x14_0) (
  Q (⟨none, 0, 0⟩) false w2) (
  LD [.sl] (p_n.add 0) w2 fun (x24_2 : Sl) =>
  RUN Try.prog (.at .sl) (Instr.makeSlice T.t_sl_int (.int .i64 x24_2.len) (.int .i64 x24_2.len)) w2 fun (x26_2 : Sl) w6 =>
  ∃ (I6_2 : Int → World → Prop) (m6_2 : Int → World → Nat), I6_2 0 w6 ∧ ∀ (x29_2 : Int) w7, I6_2 x29_2 w7 → ∀ _ _ _ _ _ _ _ _ : Value,
  cond (decide ((x29_2 : Int) < set1.len)) (
  IX set1 x29_2 1 fun (px31_2 : Addr) =>
  LD [.int .i64] px31_2 w7 fun (x32_2 : Int) =>
  IX x26_2 x32_2 1 fun (px35_2 : Addr) =>
  ST px35_2 0 [.int .i64 1] w7 fun w8 =>
  I6_2 (IntKind.i64.wrap (x29_2 + 1)) w8 ∧ m6_2 (IntKind.i64.wrap (x29_2 + 1)) w8 < m6_2 x29_2 w7) (
  Q x26_2 true w7))))

theorem C_i_WeakFromSet {Q : Sl → Bool → World → Prop} {n_0 : Sl} {n_1 : Sl} {n_2 : Sl} {set1 : Sl} {w : World} (h : V_i_WeakFromSet Q n_0 n_1 n_2 set1 w) : Calls Try.prog F.i_WeakFromSet #[.agg #[n_0.v, n_1.v, n_2.v], set1.v] w (Ret [.at .sl, .at .bool] Q) :=
  mkC (hint := hint) (ann := annOf [(6, ⟨[(29, .int .i64)], [10, 30, 31, 32, 33, 34, 35, 36]⟩)]) (args := [.agg #[n_0.v, n_1.v, n_2.v], set1.v]) (rs := [.at .sl, .at .bool]) Try.func36 (by kernel_rfl) (by kernel_rfl) h

def V_s_GreedyMatching_k4 (I5 : Sl → Int → World → Prop) (m5 : Sl → Int → World → Nat) (m : Sl) (x15 : Int) (w5 : World) (m_2 : Sl) (w11 : World) : Prop :=
  I5 m_2 (IntKind.i64.wrap (x15 + 1)) w11 ∧ m5 m_2 (IntKind.i64.wrap (x15 + 1)) w11 < m5 m x15 w5

def V_s_GreedyMatching (Q : Sl → Bool → World → Prop) (n_0 : Sl) (n_1 : Sl) (n_2 : Sl) (w : World) : Prop :=
  NEW T.t_i_Network #[n_0.v, n_1.v, n_2.v] w fun (p_n : Addr) w1 =>
  LD [.sl, .sl, .sl] p_n w1 fun (x7_0 : Sl) (x7_1 : Sl) (x7_2 : Sl) =>
  Calls Try.prog F.s_neGood #[.agg #[x7_0.v, x7_1.v, x7_2.v]] w1 (Ret [.at .bool] fun (x8 : Bool) w2 =>
  cond (!x8) (
  Q (⟨none, 0, 0⟩) false w2) (
  LD [.sl, .sl, .sl] p_n w2 fun (x10_0 : Sl) (x10_1 : Sl) (x10_2 : Sl) =>
  Calls Try.prog F.s_mtFree #[.agg #[x10_0.v, x10_1.v, x10_2.v]] w2 (Ret [.at .sl] fun (x11 : Sl) w3 =>
  LD [.sl, .sl, .sl] p_n w3 fun (x12_0 : Sl) (x12_1 : Sl) (x12_2 : Sl) =>
  Calls Try.prog F.s_neEdges #[.agg #[x12_0.v, x12_1.v, x12_2.v]] w3 (Ret [.at .sl] fun (x13 : Sl) w4 =>
  ∃ (I5 : Sl → Int → World → Prop) (m5 : Sl → Int → World → Nat), I5 x11 0 w4 ∧ ∀ (m : Sl) (x15 : Int) w5, I5 m x15 w5 → ∀ _ _ _ _ _ _ _ _ _ _ _ _ _ _ _ _ _ _ _ _ _ _ _ _ _ _ _ _ _ _ _ _ _ _ _ _ _ _ _ : Value,
  cond (decide ((x15 : Int) < x13.len)) (
  IX x13 x15 1 fun (px17 : Addr) =>
  LD [.sl] px17 w5 fun (x18 : Sl) =>
  IX x18 0 1 fun (px20 : Addr) =>
  LD [.int .i64] px20 w5 fun (x21 : Int) =>
  IX x18 2 1 fun (px23 : Addr) =>
  LD [.int .i64] px23 w5 fun (x24 : Int) =>
  cond ((x21 : Int) != x24) (
  IX x18 0 1 fun (px29 : Addr) =>
  LD [.int .i64] px29 w5 fun (x30 : Int) =>
  IX m x30 1 fun (px31 : Addr) =>
  LD [.int .i64] px31 w5 fun (x32 : Int) =>
  cond (decide ((x32 : Int) < 0)) (
  IX x18 2 1 fun (px38 : Addr) =>
  LD [.int .i64] px38 w5 fun (x39 : Int) =>
  IX m x39 1 fun (px40 : Addr) =>
  LD [.int .i64] px40 w5 fun (x41 : Int) =>
  ∀ w6, Ext w5 w6 →
  cond (decide ((x41 : Int) < 0)) (
  ∀ w9, Ext w6 w9 → w9.heap = w6.heap →
  LD [.sl, .sl, .sl] p_n w9 fun (x44_0 : Sl) (x44_1 : Sl) (x44_2 : Sl) =>
  IX x18 0 1 fun (px47 : Addr) =>
  LD [.int .i64] px47 w9 fun (x48 : Int) =>
  Ext w9 w9 ∧ (
  IX x18 1 1 fun (px50 : Addr) =>
  Ext w9 w9 ∧ (
  LD [.int .i64] px50 w9 fun (x51 : Int) =>
  Ext w9 w9 ∧ (
  Calls Try.prog F.s_mtTake #[.agg #[x44_0.v, x44_1.v, x44_2.v], m.v, .int .i64 x48, .int .i64 x51] w9 (Ret [.at .sl] fun (x52 : Sl) w10 =>
  Ext w9 w10 ∧ (
  V_s_GreedyMatching_k4 I5 m5 m x15 w5 x52 w10)))))) (
  V_s_GreedyMatching_k4 I5 m5 m x15 w5 m w6)) (
  ∀ w7, Ext w5 w7 →
  V_s_GreedyMatching_k4 I5 m5 m x15 w5 m w7)) (
  ∀ w8, Ext w5 w8 →
  V_s_GreedyMatching_k4 I5 m5 m x15 w5 m w8)) (
  Q m true w5)))))

theorem C_s_GreedyMatching {Q : Sl → Bool → World → Prop} {n_0 : Sl} {n_1 : Sl} {n_2 : Sl} {w : World} (h : V_s_GreedyMatching Q n_0 n_1 n_2 w) : Calls Try.prog F.s_GreedyMatching #[.agg #[n_0.v, n_1.v, n_2.v]] w (Ret [.at .sl, .at .bool] Q) :=
  mkC (hint := hint) (ann := annOf [(5, ⟨[(4, .sl), (15, .int .i64)], [6, 16, 17, 18, 19, 20, 21, 22, 23, 24, 25, 26, 27, 28, 29, 30, 31, 32, 33, 34, 35, 36, 37, 38, 39, 40, 41, 42, 43, 44, 45, 46, 47, 48, 49, 50, 51, 52, 53]⟩)]) (args := [.agg #[n_0.v, n_1.v, n_2.v]]) (rs := [.at .sl, .at .bool]) Try.func37 (by kernel_rfl) (by kernel_rfl) h

def V_i_GreedyMatching (Q : Sl → Bool → World → Prop) (n_0 : Sl) (n_1 : Sl) (n_2 : Sl) (w : World) : Prop :=
  NEW T.t_i_Network #[n_0.v, n_1.v, n_2.v] w fun (p_n : Addr) w1 =>
  LD [.sl, .sl, .sl] p_n w1 fun (x7_0 : Sl) (x7_1 : Sl) (x7_2 : Sl) =>
  Calls Try.prog F.i_IsNetwork #[.agg #[x7_0.v, x7_1.v, x7_2.v]] w1 (Ret [.at .bool] fun (x8 : Bool) w2 =>
  cond (!x8) (
  Q (⟨none, 0, 0⟩) false w2) (
  LD [.sl, .sl, .sl] p_n w2 fun (x10_0 : Sl) (x10_1 : Sl) (x10_2 : Sl) =>
  Calls Try.prog F.i_noMatching #[.agg #[x10_0.v, x10_1.v, x10_2.v]] w2 (Ret [.at .sl] fun (x11 : Sl) w3 =>
  LD [.sl, .sl, .sl] p_n w3 fun (x12_0 : Sl) (x12_1 : Sl) (x12_2 : Sl) =>
  Calls Try.prog F.i_Network_edges #[.agg #[x12_0.v, x12_1.v, x12_2.v]] w3 (Ret [.at .sl] fun (x13 : Sl) w4 =>
  ∃ (I5 : Int → World → Prop) (m5 : Int → World → Nat), I5 0 w4 ∧ ∀ (x15 : Int) w5, I5 x15 w5 → ∀ _ _ _ _ _ _ _ _ _ _ _ _ _ _ _ _ _ _ _ _ _ _ _ _ _ _ _ _ _ _ _ _ _ _ _ _ _ _ : Value,
  cond (decide ((x15 : Int) < x13.len)) (
  IX x13 x15 4 fun (px17 : Addr) =>
  LD [.int .i64, .int .i64, .int .i64, .int .i64] px17 w5 fun (x18_0 : Int) (x18_1 : Int) (x18_2 : Int) (x18_3 : Int) =>
  NEW T.t_i_edge #[.int .i64 0, .int .i64 0, .int .i64 0, .int .i64 0] w5 fun (p_e : Addr) w6 =>
  ST p_e 0 [.int .i64 x18_0, .int .i64 x18_1, .int .i64 x18_2, .int .i64 x18_3] w6 fun w7 =>
  LD [.int .i64] (p_e.add 0) w7 fun (x20 : Int) =>
  LD [.int .i64] (p_e.add 2) w7 fun (x22 : Int) =>
  cond ((x20 : Int) != x22) (
  LD [.int .i64] (p_e.add 0) w7 fun (x27 : Int) =>
  IX x11 x27 1 fun (px28 : Addr) =>
  LD [.int .i64] px28 w7 fun (x29 : Int) =>
  cond (decide ((x29 : Int) < 0)) (
  LD [.int .i64] (p_e.add 2) w7 fun (x35 : Int) =>
  IX x11 x35 1 fun (px36 : Addr) =>
  LD [.int .i64] px36 w7 fun (x37 : Int) =>
  cond (decide ((x37 : Int) < 0)) (
  ∀ w8, Ext w7 w8 → w8.heap = w7.heap → ∃ (D8 : Nat → Prop),
  ¬ D8 (p_e.add 0).block ∧ (
  LD [.int .i64] (p_e.add 0) w8 fun (x42 : Int) =>
  ¬ D8 (p_e.add 2).block ∧ (
  LD [.int .i64] (p_e.add 2) w8 fun (x45 : Int) =>
  ¬ D8 (p_e.add 1).block ∧ (
  LD [.int .i64] (p_e.add 1) w8 fun (x47 : Int) =>
  ¬ D8 (p_e.add 3).block ∧ (
  LD [.int .i64] (p_e.add 3) w8 fun (x49 : Int) =>
  IX x11 x42 1 fun (px50 : Addr) =>
  Chg w8 w8 D8 ∧ (
  ST px50 0 [.int .i64 x47] w8 fun w9 =>
  Chg w8 w9 D8 ∧ (
  IX x11 x45 1 fun (px51 : Addr) =>
  ST px51 0 [.int .i64 x49] w9 fun w10 =>
  I5 (IntKind.i64.wrap (x15 + 1)) w10 ∧ m5 (IntKind.i64.wrap (x15 + 1)) w10 < m5 x15 w5))))))) (
  I5 (IntKind.i64.wrap (x15 + 1)) w7 ∧ m5 (IntKind.i64.wrap (x15 + 1)) w7 < m5 x15 w5)) (
  I5 (IntKind.i64.wrap (x15 + 1)) w7 ∧ m5 (IntKind.i64.wrap (x15 + 1)) w7 < m5 x15 w5)) (
  I5 (IntKind.i64.wrap (x15 + 1)) w7 ∧ m5 (IntKind.i64.wrap (x15 + 1)) w7 < m5 x15 w5)) (
  Q x11 true w5)))))

theorem C_i_GreedyMatching {Q : Sl → Bool → World → Prop} {n_0 : Sl} {n_1 : Sl} {n_2 : Sl} {w : World} (h : V_i_GreedyMatching Q n_0 n_1 n_2 w) : Calls Try.prog F.i_GreedyMatching #[.agg #[n_0.v, n_1.v, n_2.v]] w (Ret [.at .sl, .at .bool] Q) :=
  mkC (hint := hint) (ann := annOf [(5, ⟨[(15, .int .i64)], [6, 16, 17, 18, 19, 20, 21, 22, 23, 24, 25, 26, 27, 28, 29, 30, 31, 32, 33, 34, 35, 36, 37, 38, 39, 40, 41, 42, 43, 44, 45, 46, 47, 48, 49, 50, 51, 52]⟩)]) (args := [.agg #[n_0.v, n_1.v, n_2.v]]) (rs := [.at .sl, .at .bool]) Try.func38 (by kernel_rfl) (by kernel_rfl) h

def V_s_DropColour (Q : Sl → Bool → World → Prop) (n_0 : Sl) (n_1 : Sl) (n_2 : Sl) (colours : Sl) (c : Int) (w : World) : Prop :=
  NEW T.t_i_Network #[n_0.v, n_1.v, n_2.v] w fun (p_n : Addr) w1 =>
  LD [.sl, .sl, .sl] p_n w1 fun (x8_0 : Sl) (x8_1 : Sl) (x8_2 : Sl) =>
  Calls Try.prog F.s_neGood #[.agg #[x8_0.v, x8_1.v, x8_2.v]] w1 (Ret [.at .bool] fun (x9 : Bool) w2 =>
  cond (!x9) (
  Q (⟨none, 0, 0⟩) false w2) (
  LD [.sl, .sl, .sl] p_n w2 fun (x12_0 : Sl) (x12_1 : Sl) (x12_2 : Sl) =>
  Calls Try.prog F.s_clProper #[.agg #[x12_0.v, x12_1.v, x12_2.v], colours.v] w2 (Ret [.at .bool] fun (x14 : Bool) w3 =>
  cond (!x14) (
  Q (⟨none, 0, 0⟩) false w3) (
  Calls Try.prog F.s_nuWhole #[.int .i64 c] w3 (Ret [.at .bool] fun (x19 : Bool) w4 =>
  cond (!x19) (
  Q (⟨none, 0, 0⟩) false w4) (
  LD [.sl, .sl, .sl] p_n w4 fun (x22_0_2 : Sl) (x22_1_2 : Sl) (x22_2_2 : Sl) =>
  Calls Try.prog F.s_clDrop #[.agg #[x22_0_2.v, x22_1_2.v, x22_2_2.v], colours.v, .int .i64 c] w4 (Ret [.at .sl] fun (x25_2 : Sl) w6 =>
  Q x25_2 true w6)))))))

theorem C_s_DropColour {Q : Sl → Bool → World → Prop} {n_0 : Sl} {n_1 : Sl} {n_2 : Sl} {colours : Sl} {c : Int} {w : World} (h : V_s_DropColour Q n_0 n_1 n_2 colours c w) : Calls Try.prog F.s_DropColour #[.agg #[n_0.v, n_1.v, n_2.v], colours.v, .int .i64 c] w (Ret [.at .sl, .at .bool] Q) :=
  mkC (hint := hint) (ann := annOf []) (args := [.agg #[n_0.v, n_1.v, n_2.v], colours.v, .int .i64 c]) (rs := [.at .sl, .at .bool]) Try.func39 (by kernel_rfl) (by kernel_rfl) h

def V_i_DropColour (Q : Sl → Bool → World → Prop) (n_0 : Sl) (n_1 : Sl) (n_2 : Sl) (colours : Sl) (c : Int) (w : World) : Prop :=
  NEW T.t_i_Network #[n_0.v, n_1.v, n_2.v] w fun (p_n : Addr) w1 =>
  LD [.sl, .sl, .sl] p_n w1 fun (x8_0 : Sl) (x8_1 : Sl) (x8_2 : Sl) =>
  Calls Try.prog F.i_IsNetwork #[.agg #[x8_0.v, x8_1.v, x8_2.v]] w1 (Ret [.at .bool] fun (x9 : Bool) w2 =>
  cond (!x9) (
  Q (⟨none, 0, 0⟩) false w2) (
  LD [.sl, .sl, .sl] p_n w2 fun (x12_0 : Sl) (x12_1 : Sl) (x12_2 : Sl) =>
  Calls Try.prog F.i_isColouring #[.agg #[x12_0.v, x12_1.v, x12_2.v], colours.v] w2 (Ret [.at .bool] fun (x14 : Bool) w3 =>
  cond (!x14) (
  Q (⟨none, 0, 0⟩) false w3) (
  Calls Try.prog F.i_isWhole #[.int .i64 c] w3 (Ret [.at .bool] fun (x19 : Bool) w4 =>
  cond (!x19) (
  Q (⟨none, 0, 0⟩) false w4) (
  LD [.sl, .sl, .sl] p_n w4 fun (x22_0_2 : Sl) (x22_1_2 : Sl) (x22_2_2 : Sl) =>
  Calls Try.prog F.i_dropColour #[.agg #[x22_0_2.v, x22_1_2.v, x22_2_2.v], colours.v, .int .i64 c] w4 (Ret [.at .sl] fun (x25_2 : Sl) w6 =>
  Q x25_2 true w6)))))))

theorem C_i_DropColour {Q : Sl → Bool → World → Prop} {n_0 : Sl} {n_1 : Sl} {n_2 : Sl} {colours : Sl} {c : Int} {w : World} (h : V_i_DropColour Q n_0 n_1 n_2 colours c w) : Calls Try.prog F.i_DropColour #[.agg #[n_0.v, n_1.v, n_2.v], colours.v, .int .i64 c] w (Ret [.at .sl, .at .bool] Q) :=
  mkC (hint := hint) (ann := annOf []) (args := [.agg #[n_0.v, n_1.v, n_2.v], colours.v, .int .i64 c]) (rs := [.at .sl, .at .bool]) Try.func40 (by kernel_rfl) (by kernel_rfl) h

def V_s_LeastCover_k5 (I6 : Sl → Bool → Int → World → Prop) (m6 : Sl → Bool → Int → World → Nat) (best : Sl) (found : Bool) (bits : Int) (w4 : World) (best_2 : Sl) (found_2 : Bool) (w8 : World) : Prop :=
  I6 best_2 found_2 (IntKind.i64.wrap (bits - 1)) w8 ∧ m6 best_2 found_2 (IntKind.i64.wrap (bits - 1)) w8 < m6 best found bits w4

def V_s_LeastCover_k1 (Q : Sl → Bool → World → Prop) (p_n : Addr) (w3 : World) : Prop :=
  LD [.sl] (p_n.add 0) w3 fun (x18 : Sl) =>
  (0 : Int) ≤ x18.len ∧ (
  ∃ (I6 : Sl → Bool → Int → World → Prop) (m6 : Sl → Bool → Int → World → Nat), I6 (⟨none, 0, 0⟩) false (IntKind.i64.wrap ((shlI .i64 1 x18.len) - 1)) w3 ∧ ∀ (best : Sl) (found : Bool) (bits : Int) w4, I6 best found bits w4 → ∀ _ _ _ _ _ _ _ _ _ _ _ _ _ _ _ _ _ _ _ _ _ _ _ _ _ : Value,
  cond (decide ((bits : Int) ≥ 0)) (
  LD [.sl] (p_n.add 0) w4 fun (x27 : Sl) =>
  Calls Try.prog F.s_mtChosen #[.int .i64 x27.len, .int .i64 bits] w4 (Ret [.at .sl] fun (x30 : Sl) w5 =>
  cond (!found) (
  LD [.sl, .sl, .sl] p_n w5 fun (x41_0 : Sl) (x41_1 : Sl) (x41_2 : Sl) =>
  Calls Try.prog F.s_mtCovers #[.agg #[x41_0.v, x41_1.v, x41_2.v], x30.v] w5 (Ret [.at .bool] fun (x43 : Bool) w6 =>
  cond x43 (
  V_s_LeastCover_k5 I6 m6 best found bits w4 x30 true w6) (
  V_s_LeastCover_k5 I6 m6 best found bits w4 best found w6))) (
  cond (decide ((x30.len : Int) < best.len)) (
  LD [.sl, .sl, .sl] p_n w5 fun (x41_0_2 : Sl) (x41_1_2 : Sl) (x41_2_2 : Sl) =>
  Calls Try.prog F.s_mtCovers #[.agg #[x41_0_2.v, x41_1_2.v, x41_2_2.v], x30.v] w5 (Ret [.at .bool] fun (x43_2 : Bool) w7 =>
  cond x43_2 (
  V_s_LeastCover_k5 I6 m6 best found bits w4 x30 true w7) (
  V_s_LeastCover_k5 I6 m6 best found bits w4 best found w7))) (
  V_s_LeastCover_k5 I6 m6 best found bits w4 best found w5)))) (
  Q best true w4))

def V_s_LeastCover (Q : Sl → Bool → World → Prop) (n_0 : Sl) (n_1 : Sl) (n_2 : Sl) (w : World) : Prop :=
  NEW T.t_i_Network #[n_0.v, n_1.v, n_2.v] w fun (p_n : Addr) w1 =>
  LD [.sl, .sl, .sl] p_n w1 fun (x8_0 : Sl) (x8_1 : Sl) (x8_2 : Sl) =>
  Calls Try.prog F.s_neGood #[.agg #[x8_0.v, x8_1.v, x8_2.v]] w1 (Ret [.at .bool] fun (x9 : Bool) w2 =>
  cond (!x9) (
  Q (⟨none, 0, 0⟩) false w2) (
  LD [.sl] (p_n.add 0) w2 fun (x13 : Sl) =>
  cond (decide ((x13.len : Int) > 14)) (
  Q (⟨none, 0, 0⟩) false w2) (
  V_s_LeastCover_k1 Q p_n w2)))

theorem C_s_LeastCover {Q : Sl → Bool → World → Prop} {n_0 : Sl} {n_1 : Sl} {n_2 : Sl} {w : World} (h : V_s_LeastCover Q n_0 n_1 n_2 w) : Calls Try.prog F.s_LeastCover #[.agg #[n_0.v, n_1.v, n_2.v]] w (Ret [.at .sl, .at .bool] Q) :=
  mkC (hint := hint) (ann := annOf [(6, ⟨[(4, .sl), (5, .bool), (6, .int .i64)], [7, 22, 23, 24, 25, 26, 27, 28, 29, 30, 31, 32, 33, 34, 35, 36, 37, 38, 39, 40, 41, 42, 43, 44, 45]⟩)]) (args := [.agg #[n_0.v, n_1.v, n_2.v]]) (rs := [.at .sl, .at .bool]) Try.func41 (by kernel_rfl) (by kernel_rfl) h

def V_i_LeastCover_k1 (Q : Sl → Bool → World → Prop) (p_n : Addr) (w3 : World) : Prop :=
  LD [.sl] (p_n.add 0) w3 fun (x18 : Sl) =>
  ∃ (I5 : Int → World → Prop) (m5 : Int → World → Nat), I5 0 w3 ∧ ∀ (x21 : Int) w4, I5 x21 w4 → ∀ _ _ _ _ _ _ _ _ _ _ _ _ _ _ _ _ _ _ _ _ _ _ _ : Value,
  cond (decide ((x21 : Int) < x18.len)) (
  Calls Try.prog F.i_binomial #[.int .i64 x18.len, .int .i64 x21] w4 (Ret [.at (.int .i64)] fun (x26 : Int) w5 =>
  ∃ (I8 : Int → World → Prop) (m8 : Int → World → Nat), I8 0 w5 ∧ ∀ (x27 : Int) w6, I8 x27 w6 → ∀ _ _ _ _ _ _ _ _ _ _ _ _ _ _ _ : Value,
  cond (decide ((x27 : Int) < x26)) (
  Calls Try.prog F.i_subsetAt #[.int .i64 x18.len, .int .i64 x21, .int .i64 x27] w6 (Ret [.at .sl] fun (x33 : Sl) w7 =>
  LD [.sl, .sl, .sl] p_n w7 fun (x34_0 : Sl) (x34_1 : Sl) (x34_2 : Sl) =>
  Calls Try.prog F.i_isCover #[.agg #[x34_0.v, x34_1.v, x34_2.v], x33.v] w7 (Ret [.at .bool] fun (x36 : Bool) w8 =>
  cond x36 (
  Q x33 true w8) (
  I8 (IntKind.i64.wrap (x27 + 1)) w8 ∧ m8 (IntKind.i64.wrap (x27 + 1)) w8 < m8 x27 w6)))) (
  I5 (IntKind.i64.wrap (x21 + 1)) w6 ∧ m5 (IntKind.i64.wrap (x21 + 1)) w6 < m5 x21 w4))) (
  Calls Try.prog F.i_numbersTo #[.int .i64 x18.len] w4 (Ret [.at .sl] fun (x41 : Sl) w9 =>
  Q x41 true w9))

def V_i_LeastCover (Q : Sl → Bool → World → Prop) (n_0 : Sl) (n_1 : Sl) (n_2 : Sl) (w : World) : Prop :=
  NEW T.t_i_Network #[n_0.v, n_1.v, n_2.v] w fun (p_n : Addr) w1 =>
  LD [.sl, .sl, .sl] p_n w1 fun (x8_0 : Sl) (x8_1 : Sl) (x8_2 : Sl) =>
  Calls Try.prog F.i_IsNetwork #[.agg #[x8_0.v, x8_1.v, x8_2.v]] w1 (Ret [.at .bool] fun (x9 : Bool) w2 =>
  cond (!x9) (
  Q (⟨none, 0, 0⟩) false w2) (
  LD [.sl] (p_n.add 0) w2 fun (x13 : Sl) =>
  cond (decide ((x13.len : Int) > 14)) (
  Q (⟨none, 0, 0⟩) false w2) (
  V_i_LeastCover_k1 Q p_n w2)))

theorem C_i_LeastCover {Q : Sl → Bool → World → Prop} {n_0 : Sl} {n_1 : Sl} {n_2 : Sl} {w : World} (h : V_i_LeastCover Q n_0 n_1 n_2 w) : Calls Try.prog F.i_LeastCover #[.agg #[n_0.v, n_1.v, n_2.v]] w (Ret [.at .sl, .at .bool] Q) :=
  mkC (hint := hint) (ann := annOf [(5, ⟨[(21, .int .i64)], [2, 3, 5, 6, 7, 22, 23, 24, 25, 26, 27, 28, 29, 30, 31, 32, 33, 34, 35, 36, 37, 38, 39]⟩), (8, ⟨[(27, .int .i64)], [2, 3, 6, 7, 28, 29, 30, 31, 32, 33, 34, 35, 36, 37, 38]⟩)]) (args := [.agg #[n_0.v, n_1.v, n_2.v]]) (rs := [.at .sl, .at .bool]) Try.func42 (by kernel_rfl) (by kernel_rfl) h

end Go.Proofs.Ytcilbmkieclelaa
