/- What each function's code computes to. Printed by a program. -/
import Derived.Test.YtoeaoinedidbiaaNames
namespace Go.Proofs.Ytoeaoinedidbiaa
open Go.GX Go.RowKit
set_option linter.unusedVariables false
set_option maxRecDepth 100000

def V_s_IsDistanceColouring_k1 (colours : Sl) (k : Int) (Q : Bool → Bool → World → Prop) (p_n : Addr) (w4 : World) : Prop :=
  ∃ (I4 : Int → World → Prop) (m4 : Int → World → Nat), I4 0 w4 ∧ ∀ (x23 : Int) w5, I4 x23 w5 → ∀ _ _ _ _ _ _ _ _ _ _ _ _ _ _ _ _ _ _ _ _ _ _ _ _ _ _ _ _ _ _ _ _ : Value,
  cond (decide ((x23 : Int) < colours.len)) (
  IX colours x23 1 fun (px26 : Addr) =>
  LD [.int .i64] px26 w5 fun (x27 : Int) =>
  LD [.sl, .sl, .sl] p_n w5 fun (x28_0 : Sl) (x28_1 : Sl) (x28_2 : Sl) =>
  Calls Try.prog F.s_meFrom #[.agg #[x28_0.v, x28_1.v, x28_2.v], .int .i64 x23] w5 (Ret [.at .sl] fun (x30 : Sl) w6 =>
  ∃ (I7 : Int → World → Prop) (m7 : Int → World → Nat), I7 0 w6 ∧ ∀ (x32 : Int) w7, I7 x32 w7 → ∀ _ _ _ _ _ _ _ _ _ _ _ _ _ _ _ _ _ _ _ _ : Value,
  cond (decide ((x32 : Int) < x30.len)) (
  IX x30 x32 1 fun (px35 : Addr) =>
  LD [.int .i64] px35 w7 fun (x36 : Int) =>
  Calls Try.prog F.s_l1In #[.int .i64 x36, .int .i64 1, .int .i64 k] w7 (Ret [.at .bool] fun (x39 : Bool) w8 =>
  cond x39 (
  IX colours x32 1 fun (px43 : Addr) =>
  LD [.int .i64] px43 w8 fun (x44 : Int) =>
  cond ((x44 : Int) == x27) (
  Q false true w8) (
  I7 (IntKind.i64.wrap (x32 + 1)) w8 ∧ m7 (IntKind.i64.wrap (x32 + 1)) w8 < m7 x32 w7)) (
  I7 (IntKind.i64.wrap (x32 + 1)) w8 ∧ m7 (IntKind.i64.wrap (x32 + 1)) w8 < m7 x32 w7))) (
  I4 (IntKind.i64.wrap (x23 + 1)) w7 ∧ m4 (IntKind.i64.wrap (x23 + 1)) w7 < m4 x23 w5))) (
  Q true true w5)

def V_s_IsDistanceColouring (Q : Bool → Bool → World → Prop) (n_0 : Sl) (n_1 : Sl) (n_2 : Sl) (colours : Sl) (k : Int) (w : World) : Prop :=
  NEW T.t_i_Network #[n_0.v, n_1.v, n_2.v] w fun (p_n : Addr) w1 =>
  LD [.sl, .sl, .sl] p_n w1 fun (x12_0 : Sl) (x12_1 : Sl) (x12_2 : Sl) =>
  Calls Try.prog F.s_ruColours #[.agg #[x12_0.v, x12_1.v, x12_2.v], colours.v] w1 (Ret [.at .bool] fun (x14 : Bool) w2 =>
  cond (!x14) (
  Q false false w2) (
  Calls Try.prog F.s_l1In #[.int .i64 k, .int .i64 1, .int .i64 40] w2 (Ret [.at .bool] fun (x18 : Bool) w3 =>
  cond (!x18) (
  Q false false w3) (
  V_s_IsDistanceColouring_k1 colours k Q p_n w3))))

theorem C_s_IsDistanceColouring {Q : Bool → Bool → World → Prop} {n_0 : Sl} {n_1 : Sl} {n_2 : Sl} {colours : Sl} {k : Int} {w : World} (h : V_s_IsDistanceColouring Q n_0 n_1 n_2 colours k w) : Calls Try.prog F.s_IsDistanceColouring #[.agg #[n_0.v, n_1.v, n_2.v], colours.v, .int .i64 k] w (Ret [.at .bool, .at .bool] Q) :=
  mkC (hint := hint) (ann := annOf [(4, ⟨[(23, .int .i64)], [6, 7, 8, 9, 10, 11, 24, 25, 26, 27, 28, 29, 30, 31, 32, 33, 34, 35, 36, 37, 38, 39, 40, 41, 42, 43, 44, 45, 46, 47, 48, 49]⟩), (7, ⟨[(32, .int .i64)], [6, 7, 10, 11, 33, 34, 35, 36, 37, 38, 39, 40, 41, 42, 43, 44, 45, 46, 47, 48]⟩)]) (args := [.agg #[n_0.v, n_1.v, n_2.v], colours.v, .int .i64 k]) (rs := [.at .bool, .at .bool]) Try.func21 (by kernel_rfl) (by kernel_rfl) h

def V_l_toIntS (Q : Sl → World → Prop) (a : Sl) (w : World) : Prop :=
  RUN Try.prog (.at .sl) (Instr.makeSlice T.t_sl_int (.int .i64 a.len) (.int .i64 a.len)) w fun (x7 : Sl) w1 =>
  ∃ (I3 : Int → World → Prop) (m3 : Int → World → Nat), I3 0 w1 ∧ ∀ (i : Int) w2, I3 i w2 → ∀ _ _ _ _ _ _ _ _ _ _ _ _ _ : Value,
  cond (decide ((i : Int) < a.len)) (
  IX a i 1 fun (px18 : Addr) =>
  LD [.int .i64] px18 w2 fun (x19 : Int) =>
  IX x7 i 1 fun (px20 : Addr) =>
  ST px20 0 [.int .i64 x19] w2 fun w3 =>
  I3 (IntKind.i64.wrap (i + 1)) w3 ∧ m3 (IntKind.i64.wrap (i + 1)) w3 < m3 i w2) (
  Q x7 w2)

theorem C_l_toIntS {Q : Sl → World → Prop} {a : Sl} {w : World} (h : V_l_toIntS Q a w) : Calls Try.prog F.l_toIntS #[a.v] w (Ret [.at .sl] Q) :=
  mkC (hint := hint) (ann := annOf [(3, ⟨[(4, .int .i64)], [8, 9, 10, 11, 12, 13, 14, 15, 16, 17, 18, 19, 20]⟩)]) (args := [a.v]) (rs := [.at .sl]) Try.func22 (by kernel_rfl) (by kernel_rfl) h

def V_i_IsDistanceColouring_k1 (colours : Sl) (k : Int) (Q : Bool → Bool → World → Prop) (p_n : Addr) (w4 : World) : Prop :=
  LD [.sl, .sl, .sl] p_n w4 fun (x21_0 : Sl) (x21_1 : Sl) (x21_2 : Sl) =>
  Calls Try.prog F.i_allDistances #[.agg #[x21_0.v, x21_1.v, x21_2.v]] w4 (Ret [.at .sl] fun (x22 : Sl) w5 =>
  ∃ (I4 : Int → World → Prop) (m4 : Int → World → Nat), I4 0 w5 ∧ ∀ (x24 : Int) w6, I4 x24 w6 → ∀ _ _ _ _ _ _ _ _ _ _ _ _ _ _ _ _ _ _ _ _ _ _ _ _ _ _ _ _ _ _ _ _ _ : Value,
  cond (decide ((x24 : Int) < x22.len)) (
  IX x22 x24 1 fun (px27 : Addr) =>
  LD [.sl] px27 w6 fun (x28 : Sl) =>
  ∃ (I7 : Int → World → Prop) (m7 : Int → World → Nat), I7 0 w6 ∧ ∀ (x31 : Int) w7, I7 x31 w7 → ∀ _ _ _ _ _ _ _ _ _ _ _ _ _ _ _ _ _ _ _ _ _ _ _ : Value,
  cond (decide ((x31 : Int) < x28.len)) (
  IX x28 x31 1 fun (px34 : Addr) =>
  LD [.int .i64] px34 w7 fun (x35 : Int) =>
  QCALL Try.prog F.i_within #[.int .i64 x35, .int .i64 1, .int .i64 k] w7 [.at .bool] fun (x38 : Bool) =>
  cond x38 (
  IX colours x24 1 fun (px42 : Addr) =>
  LD [.int .i64] px42 w7 fun (x43 : Int) =>
  IX colours x31 1 fun (px46 : Addr) =>
  LD [.int .i64] px46 w7 fun (x47 : Int) =>
  ∀ w8, Ext w7 w8 →
  cond ((x43 : Int) == x47) (
  Q false true w8) (
  I7 (IntKind.i64.wrap (x31 + 1)) w8 ∧ m7 (IntKind.i64.wrap (x31 + 1)) w8 < m7 x31 w7)) (
  ∀ w9, Ext w7 w9 →
  I7 (IntKind.i64.wrap (x31 + 1)) w9 ∧ m7 (IntKind.i64.wrap (x31 + 1)) w9 < m7 x31 w7)) (
  I4 (IntKind.i64.wrap (x24 + 1)) w7 ∧ m4 (IntKind.i64.wrap (x24 + 1)) w7 < m4 x24 w6)) (
  Q true true w6))

def V_i_IsDistanceColouring (Q : Bool → Bool → World → Prop) (n_0 : Sl) (n_1 : Sl) (n_2 : Sl) (colours : Sl) (k : Int) (w : World) : Prop :=
  NEW T.t_i_Network #[n_0.v, n_1.v, n_2.v] w fun (p_n : Addr) w1 =>
  LD [.sl, .sl, .sl] p_n w1 fun (x12_0 : Sl) (x12_1 : Sl) (x12_2 : Sl) =>
  Calls Try.prog F.i_areColours #[.agg #[x12_0.v, x12_1.v, x12_2.v], colours.v] w1 (Ret [.at .bool] fun (x14 : Bool) w2 =>
  cond (!x14) (
  Q false false w2) (
  Calls Try.prog F.i_within #[.int .i64 k, .int .i64 1, .int .i64 40] w2 (Ret [.at .bool] fun (x18 : Bool) w3 =>
  cond (!x18) (
  Q false false w3) (
  V_i_IsDistanceColouring_k1 colours k Q p_n w3))))

theorem C_i_IsDistanceColouring {Q : Bool → Bool → World → Prop} {n_0 : Sl} {n_1 : Sl} {n_2 : Sl} {colours : Sl} {k : Int} {w : World} (h : V_i_IsDistanceColouring Q n_0 n_1 n_2 colours k w) : Calls Try.prog F.i_IsDistanceColouring #[.agg #[n_0.v, n_1.v, n_2.v], colours.v, .int .i64 k] w (Ret [.at .bool, .at .bool] Q) :=
  mkC (hint := hint) (ann := annOf [(4, ⟨[(24, .int .i64)], [6, 7, 8, 9, 10, 11, 25, 26, 27, 28, 29, 30, 31, 32, 33, 34, 35, 36, 37, 38, 39, 40, 41, 42, 43, 44, 45, 46, 47, 48, 49, 50, 51]⟩), (7, ⟨[(31, .int .i64)], [6, 7, 10, 11, 32, 33, 34, 35, 36, 37, 38, 39, 40, 41, 42, 43, 44, 45, 46, 47, 48, 49, 50]⟩)]) (args := [.agg #[n_0.v, n_1.v, n_2.v], colours.v, .int .i64 k]) (rs := [.at .bool, .at .bool]) Try.func23 (by kernel_rfl) (by kernel_rfl) h

def V_l_eqIntS (Q : Bool → World → Prop) (a : Sl) (b : Sl) (w : World) : Prop :=
  cond ((a.len : Int) != b.len) (
  Q false w) (
  ∃ (I4 : Int → World → Prop) (m4 : Int → World → Nat), I4 0 w ∧ ∀ (i : Int) w1, I4 i w1 → ∀ _ _ _ _ _ _ _ _ _ _ _ _ _ _ _ _ : Value,
  cond (decide ((i : Int) < a.len)) (
  IX a i 1 fun (px19 : Addr) =>
  LD [.int .i64] px19 w1 fun (x20 : Int) =>
  IX b i 1 fun (px23 : Addr) =>
  LD [.int .i64] px23 w1 fun (x24 : Int) =>
  ∀ w2, Ext w1 w2 →
  cond ((x20 : Int) != x24) (
  Q false w2) (
  I4 (IntKind.i64.wrap (i + 1)) w2 ∧ m4 (IntKind.i64.wrap (i + 1)) w2 < m4 i w1)) (
  Q true w1))

theorem C_l_eqIntS {Q : Bool → World → Prop} {a : Sl} {b : Sl} {w : World} (h : V_l_eqIntS Q a b w) : Calls Try.prog F.l_eqIntS #[a.v, b.v] w (Ret [.at .bool] Q) :=
  mkC (hint := hint) (ann := annOf [(4, ⟨[(5, .int .i64)], [4, 11, 12, 13, 14, 15, 16, 17, 18, 19, 20, 21, 22, 23, 24, 25]⟩)]) (args := [a.v, b.v]) (rs := [.at .bool]) Try.func24 (by kernel_rfl) (by kernel_rfl) h

def V_s_LeastCover_k5 (I6 : Sl → Bool → Int → World → Prop) (m6 : Sl → Bool → Int → World → Nat) (best : Sl) (found : Bool) (bits : Int) (w4 : World) (best_2 : Sl) (found_2 : Bool) (w8 : World) : Prop :=
  I6 best_2 found_2 (IntKind.i64.wrap (bits - 1)) w8 ∧ m6 best_2 found_2 (IntKind.i64.wrap (bits - 1)) w8 < m6 best found bits w4

def V_s_LeastCover_k1 (Q : Sl → Bool → World → Prop) (p_n : Addr) (w3 : World) : Prop :=
  LD [.sl] (p_n.add 0) w3 fun (x18 : Sl) =>
  (0 : Int) ≤ x18.len ∧ (
  ∃ (I6 : Sl → Bool → Int → World → Prop) (m6 : Sl → Bool → Int → World → Nat), I6 (⟨none, 0, 0⟩) false (IntKind.i64.wrap ((shlI .i64 1 x18.len) - 1)) w3 ∧ ∀ (best : Sl) (found : Bool) (bits : Int) w4, I6 best found bits w4 → ∀ _ _ _ _ _ _ _ _ _ _ _ _ _ _ _ _ _ _ _ _ _ _ _ _ _ : Value,
  cond (decide ((bits : Int) ≥ 0)) (
  LD [.sl] (p_n.add 0) w4 fun (x27 : Sl) =>
  Calls Try.prog F.s_mtChosen #[.int .i64 x27.len, .int .i64 bits] w4 (Ret [.at .sl] fun (x30 : Sl) w5 =>
  cond (!found) (
  LD [.sl, .sl, .sl] p_n w5 fun (x41_0 : Sl) (x41_1 : Sl) (x41_2 : Sl) =>
  Calls Try.prog F.s_mtCovers #[.agg #[x41_0.v, x41_1.v, x41_2.v], x30.v] w5 (Ret [.at .bool] fun (x43 : Bool) w6 =>
  cond x43 (
  V_s_LeastCover_k5 I6 m6 best found bits w4 x30 true w6) (
  V_s_LeastCover_k5 I6 m6 best found bits w4 best found w6))) (
  cond (decide ((x30.len : Int) < best.len)) (
  LD [.sl, .sl, .sl] p_n w5 fun (x41_0_2 : Sl) (x41_1_2 : Sl) (x41_2_2 : Sl) =>
  Calls Try.prog F.s_mtCovers #[.agg #[x41_0_2.v, x41_1_2.v, x41_2_2.v], x30.v] w5 (Ret [.at .bool] fun (x43_2 : Bool) w7 =>
  cond x43_2 (
  V_s_LeastCover_k5 I6 m6 best found bits w4 x30 true w7) (
  V_s_LeastCover_k5 I6 m6 best found bits w4 best found w7))) (
  V_s_LeastCover_k5 I6 m6 best found bits w4 best found w5)))) (
  Q best true w4))

def V_s_LeastCover (Q : Sl → Bool → World → Prop) (n_0 : Sl) (n_1 : Sl) (n_2 : Sl) (w : World) : Prop :=
  NEW T.t_i_Network #[n_0.v, n_1.v, n_2.v] w fun (p_n : Addr) w1 =>
  LD [.sl, .sl, .sl] p_n w1 fun (x8_0 : Sl) (x8_1 : Sl) (x8_2 : Sl) =>
  Calls Try.prog F.s_neGood #[.agg #[x8_0.v, x8_1.v, x8_2.v]] w1 (Ret [.at .bool] fun (x9 : Bool) w2 =>
  cond (!x9) (
  Q (⟨none, 0, 0⟩) false w2) (
  LD [.sl] (p_n.add 0) w2 fun (x13 : Sl) =>
  cond (decide ((x13.len : Int) > 14)) (
  Q (⟨none, 0, 0⟩) false w2) (
  V_s_LeastCover_k1 Q p_n w2)))

theorem C_s_LeastCover {Q : Sl → Bool → World → Prop} {n_0 : Sl} {n_1 : Sl} {n_2 : Sl} {w : World} (h : V_s_LeastCover Q n_0 n_1 n_2 w) : Calls Try.prog F.s_LeastCover #[.agg #[n_0.v, n_1.v, n_2.v]] w (Ret [.at .sl, .at .bool] Q) :=
  mkC (hint := hint) (ann := annOf [(6, ⟨[(4, .sl), (5, .bool), (6, .int .i64)], [7, 22, 23, 24, 25, 26, 27, 28, 29, 30, 31, 32, 33, 34, 35, 36, 37, 38, 39, 40, 41, 42, 43, 44, 45]⟩)]) (args := [.agg #[n_0.v, n_1.v, n_2.v]]) (rs := [.at .sl, .at .bool]) Try.func25 (by kernel_rfl) (by kernel_rfl) h

def V_i_LeastCover_k1 (Q : Sl → Bool → World → Prop) (p_n : Addr) (w3 : World) : Prop :=
  LD [.sl] (p_n.add 0) w3 fun (x18 : Sl) =>
  ∃ (I5 : Int → World → Prop) (m5 : Int → World → Nat), I5 0 w3 ∧ ∀ (x21 : Int) w4, I5 x21 w4 → ∀ _ _ _ _ _ _ _ _ _ _ _ _ _ _ _ _ _ _ _ _ _ _ _ : Value,
  cond (decide ((x21 : Int) < x18.len)) (
  Calls Try.prog F.i_binomial #[.int .i64 x18.len, .int .i64 x21] w4 (Ret [.at (.int .i64)] fun (x26 : Int) w5 =>
  ∃ (I8 : Int → World → Prop) (m8 : Int → World → Nat), I8 0 w5 ∧ ∀ (x27 : Int) w6, I8 x27 w6 → ∀ _ _ _ _ _ _ _ _ _ _ _ _ _ _ _ : Value,
  cond (decide ((x27 : Int) < x26)) (
  Calls Try.prog F.i_subsetAt #[.int .i64 x18.len, .int .i64 x21, .int .i64 x27] w6 (Ret [.at .sl] fun (x33 : Sl) w7 =>
  LD [.sl, .sl, .sl] p_n w7 fun (x34_0 : Sl) (x34_1 : Sl) (x34_2 : Sl) =>
  Calls Try.prog F.i_isCover #[.agg #[x34_0.v, x34_1.v, x34_2.v], x33.v] w7 (Ret [.at .bool] fun (x36 : Bool) w8 =>
  cond x36 (
  Q x33 true w8) (
  I8 (IntKind.i64.wrap (x27 + 1)) w8 ∧ m8 (IntKind.i64.wrap (x27 + 1)) w8 < m8 x27 w6)))) (
  I5 (IntKind.i64.wrap (x21 + 1)) w6 ∧ m5 (IntKind.i64.wrap (x21 + 1)) w6 < m5 x21 w4))) (
  Calls Try.prog F.i_numbersTo #[.int .i64 x18.len] w4 (Ret [.at .sl] fun (x41 : Sl) w9 =>
  Q x41 true w9))

def V_i_LeastCover (Q : Sl → Bool → World → Prop) (n_0 : Sl) (n_1 : Sl) (n_2 : Sl) (w : World) : Prop :=
  NEW T.t_i_Network #[n_0.v, n_1.v, n_2.v] w fun (p_n : Addr) w1 =>
  LD [.sl, .sl, .sl] p_n w1 fun (x8_0 : Sl) (x8_1 : Sl) (x8_2 : Sl) =>
  Calls Try.prog F.i_IsNetwork #[.agg #[x8_0.v, x8_1.v, x8_2.v]] w1 (Ret [.at .bool] fun (x9 : Bool) w2 =>
  cond (!x9) (
  Q (⟨none, 0, 0⟩) false w2) (
  LD [.sl] (p_n.add 0) w2 fun (x13 : Sl) =>
  cond (decide ((x13.len : Int) > 14)) (
  Q (⟨none, 0, 0⟩) false w2) (
  V_i_LeastCover_k1 Q p_n w2)))

theorem C_i_LeastCover {Q : Sl → Bool → World → Prop} {n_0 : Sl} {n_1 : Sl} {n_2 : Sl} {w : World} (h : V_i_LeastCover Q n_0 n_1 n_2 w) : Calls Try.prog F.i_LeastCover #[.agg #[n_0.v, n_1.v, n_2.v]] w (Ret [.at .sl, .at .bool] Q) :=
  mkC (hint := hint) (ann := annOf [(5, ⟨[(21, .int .i64)], [2, 3, 5, 6, 7, 22, 23, 24, 25, 26, 27, 28, 29, 30, 31, 32, 33, 34, 35, 36, 37, 38, 39]⟩), (8, ⟨[(27, .int .i64)], [2, 3, 6, 7, 28, 29, 30, 31, 32, 33, 34, 35, 36, 37, 38]⟩)]) (args := [.agg #[n_0.v, n_1.v, n_2.v]]) (rs := [.at .sl, .at .bool]) Try.func26 (by kernel_rfl) (by kernel_rfl) h

def V_l_markNetwork (Q : Int → World → Prop) (a_0 : Sl) (a_1 : Sl) (a_2 : Sl) (k : Int) (w : World) : Prop :=
  NEW T.t_i_Network #[a_0.v, a_1.v, a_2.v] w fun (p_a : Addr) w1 =>
  LD [.sl] (p_a.add 0) w1 fun (x6 : Sl) =>
  Calls Try.prog F.l_markEndSS #[x6.v, .int .i64 k] w1 (Ret [.at (.int .i64)] fun (x8 : Int) w2 =>
  LD [.sl] (p_a.add 1) w2 fun (x10 : Sl) =>
  Calls Try.prog F.l_markIntS #[x10.v, .int .i64 x8] w2 (Ret [.at (.int .i64)] fun (x12 : Int) w3 =>
  LD [.sl] (p_a.add 2) w3 fun (x14 : Sl) =>
  Calls Try.prog F.l_markIntS #[x14.v, .int .i64 x12] w3 (Ret [.at (.int .i64)] fun (x16 : Int) w4 =>
  Q x16 w4)))

theorem C_l_markNetwork {Q : Int → World → Prop} {a_0 : Sl} {a_1 : Sl} {a_2 : Sl} {k : Int} {w : World} (h : V_l_markNetwork Q a_0 a_1 a_2 k w) : Calls Try.prog F.l_markNetwork #[.agg #[a_0.v, a_1.v, a_2.v], .int .i64 k] w (Ret [.at (.int .i64)] Q) :=
  mkC (hint := hint) (ann := annOf []) (args := [.agg #[a_0.v, a_1.v, a_2.v], .int .i64 k]) (rs := [.at (.int .i64)]) Try.func27 (by kernel_rfl) (by kernel_rfl) h

def V_l_markIntS (Q : Int → World → Prop) (a : Sl) (k : Int) (w : World) : Prop :=
  ∃ (I2 : Int → Int → World → Prop) (m2 : Int → Int → World → Nat), I2 k 0 w ∧ ∀ (k_2 : Int) (i : Int) w1, I2 k_2 i w1 → ∀ _ _ _ _ _ _ _ _ _ _ _ _ : Value,
  cond (decide ((i : Int) < a.len)) (
  IX a i 1 fun (px15 : Addr) =>
  ST px15 0 [.int .i64 k_2] w1 fun w2 =>
  I2 (IntKind.i64.wrap (k_2 + 1)) (IntKind.i64.wrap (i + 1)) w2 ∧ m2 (IntKind.i64.wrap (k_2 + 1)) (IntKind.i64.wrap (i + 1)) w2 < m2 k_2 i w1) (
  Q k_2 w1)

theorem C_l_markIntS {Q : Int → World → Prop} {a : Sl} {k : Int} {w : World} (h : V_l_markIntS Q a k w) : Calls Try.prog F.l_markIntS #[a.v, .int .i64 k] w (Ret [.at (.int .i64)] Q) :=
  mkC (hint := hint) (ann := annOf [(2, ⟨[(1, .int .i64), (5, .int .i64)], [6, 7, 8, 9, 10, 11, 12, 13, 14, 15, 16, 17]⟩)]) (args := [a.v, .int .i64 k]) (rs := [.at (.int .i64)]) Try.func28 (by kernel_rfl) (by kernel_rfl) h

def V_l_heldIntS (Q : Int → World → Prop) (a : Sl) (k : Int) (w : World) : Prop :=
  ∃ (I2 : Int → Int → World → Prop) (m2 : Int → Int → World → Nat), I2 k 0 w ∧ ∀ (k_2 : Int) (i : Int) w1, I2 k_2 i w1 → ∀ _ _ _ _ _ _ _ _ _ _ _ _ _ _ _ : Value,
  cond (decide ((i : Int) < a.len)) (
  IX a i 1 fun (px14 : Addr) =>
  LD [.int .i64] px14 w1 fun (x15 : Int) =>
  cond ((x15 : Int) != k_2) (
  Q (-1) w1) (
  I2 (IntKind.i64.wrap (k_2 + 1)) (IntKind.i64.wrap (i + 1)) w1 ∧ m2 (IntKind.i64.wrap (k_2 + 1)) (IntKind.i64.wrap (i + 1)) w1 < m2 k_2 i w1)) (
  Q k_2 w1)

theorem C_l_heldIntS {Q : Int → World → Prop} {a : Sl} {k : Int} {w : World} (h : V_l_heldIntS Q a k w) : Calls Try.prog F.l_heldIntS #[a.v, .int .i64 k] w (Ret [.at (.int .i64)] Q) :=
  mkC (hint := hint) (ann := annOf [(2, ⟨[(1, .int .i64), (5, .int .i64)], [4, 6, 7, 8, 9, 10, 11, 12, 13, 14, 15, 16, 17, 18, 19]⟩)]) (args := [a.v, .int .i64 k]) (rs := [.at (.int .i64)]) Try.func29 (by kernel_rfl) (by kernel_rfl) h

def V_s_GreedyEdgeColouring_k5 (I5 : Int → World → Prop) (m5 : Int → World → Nat) (x16 : Int) (w5 : World) (x12 : Sl) (x19 : Sl) (w8 : World) : Prop :=
  ∀ w9, Ext w8 w9 → w9.heap = w8.heap → ∃ (D9 : Nat → Prop),
  IX x19 0 1 fun (px38 : Addr) =>
  ¬ D9 px38.block ∧ (
  LD [.int .i64] px38 w9 fun (x39 : Int) =>
  IX x12 x39 1 fun (px40 : Addr) =>
  ¬ D9 px40.block ∧ (
  LD [.sl] px40 w9 fun (x41 : Sl) =>
  IX x19 2 1 fun (px45 : Addr) =>
  ¬ D9 px45.block ∧ (
  LD [.int .i64] px45 w9 fun (x46 : Int) =>
  IX x12 x46 1 fun (px47 : Addr) =>
  ¬ D9 px47.block ∧ (
  LD [.sl] px47 w9 fun (x48 : Sl) =>
  Calls Try.prog F.s_l1Own #[x41.v] w9 (Ret [.at .sl] fun (x42 : Sl) w10 =>
  Chg w9 w10 D9 ∧ (
  RUN Try.prog (.at .sl) (bsem .append #[T.t_sl_int, T.t_sl_int] T.t_sl_int #[x42.v, x48.v]) w10 fun (x49 : Sl) w11 =>
  Chg w9 w11 D9 ∧ (
  Calls Try.prog F.s_clLeast #[x49.v] w11 (Ret [.at (.int .i64)] fun (x50 : Int) w12 =>
  Chg w9 w12 D9 ∧ (
  ∀ w13, Ext w12 w13 → w13.heap = w12.heap → ∃ (D13 : Nat → Prop),
  IX x19 0 1 fun (px53 : Addr) =>
  ¬ D13 px53.block ∧ (
  LD [.int .i64] px53 w13 fun (x54 : Int) =>
  IX x12 x54 1 fun (px55 : Addr) =>
  ¬ D13 px55.block ∧ (
  LD [.sl] px55 w13 fun (x56 : Sl) =>
  IX x19 1 1 fun (px58 : Addr) =>
  ¬ D13 px58.block ∧ (
  LD [.int .i64] px58 w13 fun (x59 : Int) =>
  Chg w13 w13 D13 ∧ (
  IX x56 x59 1 fun (px61 : Addr) =>
  ST px61 0 [.int .i64 x50] w13 fun w14 =>
  ∀ w15, Ext w14 w15 → w15.heap = w14.heap → ∃ (D15 : Nat → Prop),
  IX x19 2 1 fun (px64 : Addr) =>
  ¬ D15 px64.block ∧ (
  LD [.int .i64] px64 w15 fun (x65 : Int) =>
  IX x12 x65 1 fun (px66 : Addr) =>
  ¬ D15 px66.block ∧ (
  LD [.sl] px66 w15 fun (x67 : Sl) =>
  IX x19 3 1 fun (px69 : Addr) =>
  ¬ D15 px69.block ∧ (
  LD [.int .i64] px69 w15 fun (x70 : Int) =>
  Chg w15 w15 D15 ∧ (
  IX x67 x70 1 fun (px72 : Addr) =>
  ST px72 0 [.int .i64 x50] w15 fun w16 =>
  I5 (IntKind.i64.wrap (x16 + 1)) w16 ∧ m5 (IntKind.i64.wrap (x16 + 1)) w16 < m5 x16 w5)))))))))))))))))

def V_s_GreedyEdgeColouring (Q : Sl → Bool → World → Prop) (x0_0 : Sl) (x0_1 : Sl) (x0_2 : Sl) (w : World) : Prop :=
  NEW T.t_i_Network #[x0_0.v, x0_1.v, x0_2.v] w fun (px1 : Addr) w1 =>
  LD [.sl, .sl, .sl] px1 w1 fun (x8_0 : Sl) (x8_1 : Sl) (x8_2 : Sl) =>
  Calls Try.prog F.s_neGood #[.agg #[x8_0.v, x8_1.v, x8_2.v]] w1 (Ret [.at .bool] fun (x9 : Bool) w2 =>
  cond (!x9) (
  Q (⟨none, 0, 0⟩) false w2) (
  LD [.sl, .sl, .sl] px1 w2 fun (x11_0 : Sl) (x11_1 : Sl) (x11_2 : Sl) =>
  Calls Try.prog F.s_soEmpty #[.agg #[x11_0.v, x11_1.v, x11_2.v]] w2 (Ret [.at .sl] fun (x12 : Sl) w3 =>
  LD [.sl, .sl, .sl] px1 w3 fun (x13_0 : Sl) (x13_1 : Sl) (x13_2 : Sl) =>
  Calls Try.prog F.s_neEdges #[.agg #[x13_0.v, x13_1.v, x13_2.v]] w3 (Ret [.at .sl] fun (x14 : Sl) w4 =>
  ∃ (I5 : Int → World → Prop) (m5 : Int → World → Nat), I5 0 w4 ∧ ∀ (x16 : Int) w5, I5 x16 w5 → ∀ _ _ _ _ _ _ _ _ _ _ _ _ _ _ _ _ _ _ _ _ _ _ _ _ _ _ _ _ _ _ _ _ _ _ _ _ _ _ _ _ _ _ _ _ _ _ _ _ _ _ _ _ _ _ _ _ _ _ _ _ _ : Value,
  cond (decide ((x16 : Int) < x14.len)) (
  IX x14 x16 1 fun (px18 : Addr) =>
  LD [.sl] px18 w5 fun (x19 : Sl) =>
  IX x19 0 1 fun (px21 : Addr) =>
  LD [.int .i64] px21 w5 fun (x22 : Int) =>
  IX x19 2 1 fun (px24 : Addr) =>
  LD [.int .i64] px24 w5 fun (x25 : Int) =>
  cond ((x22 : Int) == x25) (
  IX x19 1 1 fun (px29 : Addr) =>
  LD [.int .i64] px29 w5 fun (x30 : Int) =>
  IX x19 3 1 fun (px32 : Addr) =>
  LD [.int .i64] px32 w5 fun (x33 : Int) =>
  ∀ w6, Ext w5 w6 →
  cond ((x30 : Int) != x33) (
  Q (⟨none, 0, 0⟩) false w6) (
  V_s_GreedyEdgeColouring_k5 I5 m5 x16 w5 x12 x19 w6)) (
  ∀ w7, Ext w5 w7 →
  V_s_GreedyEdgeColouring_k5 I5 m5 x16 w5 x12 x19 w7)) (
  Q x12 true w5)))))

theorem C_s_GreedyEdgeColouring {Q : Sl → Bool → World → Prop} {x0_0 : Sl} {x0_1 : Sl} {x0_2 : Sl} {w : World} (h : V_s_GreedyEdgeColouring Q x0_0 x0_1 x0_2 w) : Calls Try.prog F.s_GreedyEdgeColouring #[.agg #[x0_0.v, x0_1.v, x0_2.v]] w (Ret [.at .sl, .at .bool] Q) :=
  mkC (hint := hint) (ann := annOf [(5, ⟨[(16, .int .i64)], [2, 3, 6, 7, 17, 18, 19, 20, 21, 22, 23, 24, 25, 26, 27, 28, 29, 30, 31, 32, 33, 34, 35, 36, 37, 38, 39, 40, 41, 42, 43, 44, 45, 46, 47, 48, 49, 50, 51, 52, 53, 54, 55, 56, 57, 58, 59, 60, 61, 62, 63, 64, 65, 66, 67, 68, 69, 70, 71, 72, 73]⟩)]) (args := [.agg #[x0_0.v, x0_1.v, x0_2.v]]) (rs := [.at .sl, .at .bool]) Try.func30 (by kernel_rfl) (by kernel_rfl) h

def V_i_GreedyEdgeColouring_k1 (Q : Sl → Bool → World → Prop) (p_n : Addr) (w5 : World) : Prop :=
  LD [.sl, .sl, .sl] p_n w5 fun (x16_0 : Sl) (x16_1 : Sl) (x16_2 : Sl) =>
  Calls Try.prog F.i_unlabeled #[.agg #[x16_0.v, x16_1.v, x16_2.v]] w5 (Ret [.at .sl] fun (x17 : Sl) w6 =>
  LD [.sl, .sl, .sl] p_n w6 fun (x18_0 : Sl) (x18_1 : Sl) (x18_2 : Sl) =>
  Calls Try.prog F.i_Network_edges #[.agg #[x18_0.v, x18_1.v, x18_2.v]] w6 (Ret [.at .sl] fun (x19 : Sl) w7 =>
  ∃ (I5 : Int → World → Prop) (m5 : Int → World → Nat), I5 0 w7 ∧ ∀ (x21 : Int) w8, I5 x21 w8 → ∀ _ _ _ _ _ _ _ _ _ _ _ _ _ _ _ _ _ _ _ _ _ _ _ _ _ _ _ _ _ _ _ _ _ _ _ _ _ : Value,
  cond (decide ((x21 : Int) < x19.len)) (
  IX x19 x21 4 fun (px23 : Addr) =>
  LD [.int .i64, .int .i64, .int .i64, .int .i64] px23 w8 fun (x24_0 : Int) (x24_1 : Int) (x24_2 : Int) (x24_3 : Int) =>
  NEW T.t_i_edge #[.int .i64 0, .int .i64 0, .int .i64 0, .int .i64 0] w8 fun (p_e : Addr) w9 =>
  ST p_e 0 [.int .i64 x24_0, .int .i64 x24_1, .int .i64 x24_2, .int .i64 x24_3] w9 fun w10 =>
  ∀ w11, Ext w10 w11 → w11.heap = w10.heap →
  LD [.int .i64] (p_e.add 0) w11 fun (x27 : Int) =>
  IX x17 x27 1 fun (px28 : Addr) =>
  LD [.sl] px28 w11 fun (x29 : Sl) =>
  Ext w11 w11 ∧ (
  LD [.int .i64] (p_e.add 2) w11 fun (x32 : Int) =>
  Ext w11 w11 ∧ (
  IX x17 x32 1 fun (px33 : Addr) =>
  Ext w11 w11 ∧ (
  LD [.sl] px33 w11 fun (x34 : Sl) =>
  Ext w11 w11 ∧ (
  RUN Try.prog (.at .sl) (Instr.buildSlice T.t_sl_sl_int 2 #[(0, x29.v), (1, x34.v)]) w11 fun (x35 : Sl) w12 =>
  Ext w11 w12 ∧ (
  Calls Try.prog F.slices_Concat_sl_int_int #[x35.v] w12 (Ret [.at .sl] fun (x36 : Sl) w13 =>
  Ext w11 w13 ∧ (
  Calls Try.prog F.i_leastFree #[x36.v] w13 (Ret [.at (.int .i64)] fun (x37 : Int) w14 =>
  Ext w11 w14 ∧ (
  ∀ w15, Ext w14 w15 → w15.heap = w14.heap → ∃ (D15 : Nat → Prop),
  ¬ D15 (p_e.add 0).block ∧ (
  LD [.int .i64] (p_e.add 0) w15 fun (x40 : Int) =>
  IX x17 x40 1 fun (px41 : Addr) =>
  ¬ D15 px41.block ∧ (
  LD [.sl] px41 w15 fun (x42 : Sl) =>
  ¬ D15 (p_e.add 1).block ∧ (
  LD [.int .i64] (p_e.add 1) w15 fun (x44 : Int) =>
  ¬ D15 (p_e.add 2).block ∧ (
  LD [.int .i64] (p_e.add 2) w15 fun (x47 : Int) =>
  IX x17 x47 1 fun (px48 : Addr) =>
  ¬ D15 px48.block ∧ (
  LD [.sl] px48 w15 fun (x49 : Sl) =>
  ¬ D15 (p_e.add 3).block ∧ (
  LD [.int .i64] (p_e.add 3) w15 fun (x51 : Int) =>
  IX x42 x44 1 fun (px54 : Addr) =>
  Chg w15 w15 D15 ∧ (
  ST px54 0 [.int .i64 x37] w15 fun w16 =>
  Chg w15 w16 D15 ∧ (
  IX x49 x51 1 fun (px55 : Addr) =>
  ST px55 0 [.int .i64 x37] w16 fun w17 =>
  I5 (IntKind.i64.wrap (x21 + 1)) w17 ∧ m5 (IntKind.i64.wrap (x21 + 1)) w17 < m5 x21 w8)))))))))))))))))) (
  Q x17 true w8)))

def V_i_GreedyEdgeColouring (Q : Sl → Bool → World → Prop) (n_0 : Sl) (n_1 : Sl) (n_2 : Sl) (w : World) : Prop :=
  NEW T.t_i_Network #[n_0.v, n_1.v, n_2.v] w fun (p_n : Addr) w1 =>
  LD [.sl, .sl, .sl] p_n w1 fun (x8_0 : Sl) (x8_1 : Sl) (x8_2 : Sl) =>
  Calls Try.prog F.i_IsNetwork #[.agg #[x8_0.v, x8_1.v, x8_2.v]] w1 (Ret [.at .bool] fun (x9 : Bool) w2 =>
  cond (!x9) (
  Q (⟨none, 0, 0⟩) false w2) (
  LD [.sl, .sl, .sl] p_n w2 fun (x12_0 : Sl) (x12_1 : Sl) (x12_2 : Sl) =>
  Calls Try.prog F.i_Network_edges #[.agg #[x12_0.v, x12_1.v, x12_2.v]] w2 (Ret [.at .sl] fun (x13 : Sl) w3 =>
  Calls Try.prog F.slices_ContainsFunc_sl_i_edge_i_edge #[x13.v, .func (.func F.i_edge_isLoop) #[] #[]] w3 (Ret [.at .bool] fun (x14 : Bool) w4 =>
  cond x14 (
  Q (⟨none, 0, 0⟩) false w4) (
  V_i_GreedyEdgeColouring_k1 Q p_n w4)))))

theorem C_i_GreedyEdgeColouring {Q : Sl → Bool → World → Prop} {n_0 : Sl} {n_1 : Sl} {n_2 : Sl} {w : World} (h : V_i_GreedyEdgeColouring Q n_0 n_1 n_2 w) : Calls Try.prog F.i_GreedyEdgeColouring #[.agg #[n_0.v, n_1.v, n_2.v]] w (Ret [.at .sl, .at .bool] Q) :=
  mkC (hint := hint) (ann := annOf [(5, ⟨[(21, .int .i64)], [6, 7, 22, 23, 24, 25, 26, 27, 28, 29, 30, 31, 32, 33, 34, 35, 36, 37, 38, 39, 40, 41, 42, 43, 44, 45, 46, 47, 48, 49, 50, 51, 52, 53, 54, 55, 56]⟩)]) (args := [.agg #[n_0.v, n_1.v, n_2.v]]) (rs := [.at .sl, .at .bool]) Try.func31 (by kernel_rfl) (by kernel_rfl) h

def V_l_markIntSS (Q : Int → World → Prop) (a : Sl) (k : Int) (w : World) : Prop :=
  ∃ (I2 : Int → Int → World → Prop) (m2 : Int → Int → World → Nat), I2 k 0 w ∧ ∀ (k_2 : Int) (i : Int) w1, I2 k_2 i w1 → ∀ _ _ _ _ _ _ _ _ _ _ _ _ : Value,
  cond (decide ((i : Int) < a.len)) (
  IX a i 1 fun (px14 : Addr) =>
  LD [.sl] px14 w1 fun (x15 : Sl) =>
  Calls Try.prog F.l_markIntS #[x15.v, .int .i64 k_2] w1 (Ret [.at (.int .i64)] fun (x17 : Int) w2 =>
  I2 x17 (IntKind.i64.wrap (i + 1)) w2 ∧ m2 x17 (IntKind.i64.wrap (i + 1)) w2 < m2 k_2 i w1)) (
  Q k_2 w1)

theorem C_l_markIntSS {Q : Int → World → Prop} {a : Sl} {k : Int} {w : World} (h : V_l_markIntSS Q a k w) : Calls Try.prog F.l_markIntSS #[a.v, .int .i64 k] w (Ret [.at (.int .i64)] Q) :=
  mkC (hint := hint) (ann := annOf [(2, ⟨[(1, .int .i64), (5, .int .i64)], [6, 7, 8, 9, 10, 11, 12, 13, 14, 15, 16, 17]⟩)]) (args := [a.v, .int .i64 k]) (rs := [.at (.int .i64)]) Try.func32 (by kernel_rfl) (by kernel_rfl) h

def V_l_heldIntSS (Q : Int → World → Prop) (a : Sl) (k : Int) (w : World) : Prop :=
  ∃ (I2 : Int → Int → World → Prop) (m2 : Int → Int → World → Nat), I2 k 0 w ∧ ∀ (k_2 : Int) (i : Int) w1, I2 k_2 i w1 → ∀ _ _ _ _ _ _ _ _ _ _ _ _ _ _ _ : Value,
  cond (decide ((i : Int) < a.len)) (
  IX a i 1 fun (px14 : Addr) =>
  LD [.sl] px14 w1 fun (x15 : Sl) =>
  Calls Try.prog F.l_heldIntS #[x15.v, .int .i64 k_2] w1 (Ret [.at (.int .i64)] fun (x17 : Int) w2 =>
  cond (decide ((x17 : Int) < 0)) (
  Q (-1) w2) (
  I2 x17 (IntKind.i64.wrap (i + 1)) w2 ∧ m2 x17 (IntKind.i64.wrap (i + 1)) w2 < m2 k_2 i w1))) (
  Q k_2 w1)

theorem C_l_heldIntSS {Q : Int → World → Prop} {a : Sl} {k : Int} {w : World} (h : V_l_heldIntSS Q a k w) : Calls Try.prog F.l_heldIntSS #[a.v, .int .i64 k] w (Ret [.at (.int .i64)] Q) :=
  mkC (hint := hint) (ann := annOf [(2, ⟨[(1, .int .i64), (5, .int .i64)], [4, 6, 7, 8, 9, 10, 11, 12, 13, 14, 15, 16, 17, 18, 19]⟩)]) (args := [a.v, .int .i64 k]) (rs := [.at (.int .i64)]) Try.func33 (by kernel_rfl) (by kernel_rfl) h

def V_s_CoverByProposals (Q : Sl → Bool → World → Prop) (n_0 : Sl) (n_1 : Sl) (n_2 : Sl) (w : World) : Prop :=
  NEW T.t_i_Network #[n_0.v, n_1.v, n_2.v] w fun (p_n : Addr) w1 =>
  LD [.sl, .sl, .sl] p_n w1 fun (x7_0 : Sl) (x7_1 : Sl) (x7_2 : Sl) =>
  Calls Try.prog F.s_DoubleCover #[.agg #[x7_0.v, x7_1.v, x7_2.v]] w1 (Ret [.agg [.sl, .sl, .sl], .at .bool] fun (x8_0_0 : Sl) (x8_0_1 : Sl) (x8_0_2 : Sl) (x8_1 : Bool) w2 =>
  NEW T.t_i_Network #[.slice none 0 0, .slice none 0 0, .slice none 0 0] w2 fun (p__ : Addr) w3 =>
  ST p__ 0 [x8_0_0.v, x8_0_1.v, x8_0_2.v] w3 fun w4 =>
  cond (!x8_1) (
  Q (⟨none, 0, 0⟩) false w4) (
  LD [.sl, .sl, .sl] p_n w4 fun (x13_0 : Sl) (x13_1 : Sl) (x13_2 : Sl) =>
  Calls Try.prog F.s_mtCover #[.agg #[x13_0.v, x13_1.v, x13_2.v]] w4 (Ret [.at .sl] fun (x14 : Sl) w5 =>
  Q x14 true w5)))

theorem C_s_CoverByProposals {Q : Sl → Bool → World → Prop} {n_0 : Sl} {n_1 : Sl} {n_2 : Sl} {w : World} (h : V_s_CoverByProposals Q n_0 n_1 n_2 w) : Calls Try.prog F.s_CoverByProposals #[.agg #[n_0.v, n_1.v, n_2.v]] w (Ret [.at .sl, .at .bool] Q) :=
  mkC (hint := hint) (ann := annOf []) (args := [.agg #[n_0.v, n_1.v, n_2.v]]) (rs := [.at .sl, .at .bool]) Try.func34 (by kernel_rfl) (by kernel_rfl) h

def V_i_CoverByProposals_k2 (Q : Sl → Bool → World → Prop) (x19 : Sl) (m : Sl) (w20 : World) : Prop :=
  ∃ (I8 : Sl → Int → World → Prop) (m8 : Sl → Int → World → Nat), I8 (⟨none, 0, 0⟩) 0 w20 ∧ ∀ (out : Sl) (x33 : Int) w21, I8 out x33 w21 → ∀ _ _ _ _ _ _ _ _ _ _ _ _ _ _ _ _ _ _ _ _ _ _ : Value,
  cond (decide ((x33 : Int) < x19.len)) (
  IX m x33 1 fun (px38 : Addr) =>
  LD [.int .i64] px38 w21 fun (x39 : Int) =>
  cond (decide ((x39 : Int) ≥ 0)) (
  RUN Try.prog (.at .sl) (Instr.buildSlice T.t_sl_int 1 #[(0, .int .i64 x33)]) w21 fun (x52 : Sl) w22 =>
  RUN Try.prog (.at .sl) (bsem .append #[T.t_sl_int, T.t_sl_int] T.t_sl_int #[out.v, x52.v]) w22 fun (x53 : Sl) w23 =>
  I8 x53 (IntKind.i64.wrap (x33 + 1)) w23 ∧ m8 x53 (IntKind.i64.wrap (x33 + 1)) w23 < m8 out x33 w21) (
  IX m (IntKind.i64.wrap (x33 + x19.len)) 1 fun (px46 : Addr) =>
  LD [.int .i64] px46 w21 fun (x47 : Int) =>
  cond (decide ((x47 : Int) ≥ 0)) (
  RUN Try.prog (.at .sl) (Instr.buildSlice T.t_sl_int 1 #[(0, .int .i64 x33)]) w21 fun (x52_2 : Sl) w24 =>
  RUN Try.prog (.at .sl) (bsem .append #[T.t_sl_int, T.t_sl_int] T.t_sl_int #[out.v, x52_2.v]) w24 fun (x53_2 : Sl) w25 =>
  I8 x53_2 (IntKind.i64.wrap (x33 + 1)) w25 ∧ m8 x53_2 (IntKind.i64.wrap (x33 + 1)) w25 < m8 out x33 w21) (
  I8 out (IntKind.i64.wrap (x33 + 1)) w21 ∧ m8 out (IntKind.i64.wrap (x33 + 1)) w21 < m8 out x33 w21))) (
  Q out true w21)

def V_i_CoverByProposals (Q : Sl → Bool → World → Prop) (n_0 : Sl) (n_1 : Sl) (n_2 : Sl) (w : World) : Prop :=
  NEW T.t_i_Network #[n_0.v, n_1.v, n_2.v] w fun (p_n : Addr) w1 =>
  LD [.sl, .sl, .sl] p_n w1 fun (x12_0 : Sl) (x12_1 : Sl) (x12_2 : Sl) =>
  Calls Try.prog F.i_DoubleCover #[.agg #[x12_0.v, x12_1.v, x12_2.v]] w1 (Ret [.agg [.sl, .sl, .sl], .at .bool] fun (x13_0_0 : Sl) (x13_0_1 : Sl) (x13_0_2 : Sl) (x13_1 : Bool) w2 =>
  NEW T.t_i_Network #[.slice none 0 0, .slice none 0 0, .slice none 0 0] w2 fun (p_double : Addr) w3 =>
  ST p_double 0 [x13_0_0.v, x13_0_1.v, x13_0_2.v] w3 fun w4 =>
  cond (!x13_1) (
  Q (⟨none, 0, 0⟩) false w4) (
  LD [.sl] (p_n.add 0) w4 fun (x19 : Sl) =>
  ∀ w5, Ext w4 w5 → w5.heap = w4.heap → ∃ (D5 : Nat → Prop),
  ¬ D5 p_double.block ∧ (
  LD [.sl, .sl, .sl] p_double w5 fun (x22_0 : Sl) (x22_1 : Sl) (x22_2 : Sl) =>
  (
  RUN Try.prog (.at .sl) (Instr.makeSlice T.t_sl_int (.int .i64 x19.len) (.int .i64 x19.len)) w5 fun (x24 : Sl) w6 =>
  Chg w5 w6 D5 ∧ (
  RUN Try.prog (.at .sl) (Instr.buildSlice T.t_sl_int 1 #[(0, .int .i64 1)]) w6 fun (x25 : Sl) w7 =>
  Chg w5 w7 D5 ∧ (
  Calls Try.prog F.slices_Repeat_sl_int_int #[x25.v, .int .i64 x19.len] w7 (Ret [.at .sl] fun (x27 : Sl) w8 =>
  Chg w5 w8 D5 ∧ (
  RUN Try.prog (.at .sl) (bsem .append #[T.t_sl_int, T.t_sl_int] T.t_sl_int #[x24.v, x27.v]) w8 fun (x28 : Sl) w9 =>
  Chg w5 w9 D5 ∧ (
  Calls Try.prog F.i_proposalMatching #[.agg #[x22_0.v, x22_1.v, x22_2.v], x28.v] w9 (Ret [.at .sl, .at (.int .i64)] fun (x29_0 : Sl) (x29_1 : Int) w10 =>
  Chg w5 w10 D5 ∧ (
  Chg w5 w10 D5 ∧ (
  Chg w5 w10 D5 ∧ (
  Chg w5 w10 D5 ∧ (
  V_i_CoverByProposals_k2 Q x19 x29_0 w10))))))))))) ∧ (
  RUN Try.prog (.at .sl) (Instr.buildSlice T.t_sl_int 1 #[(0, .int .i64 1)]) w5 fun (x25_2 : Sl) w11 =>
  Chg w5 w11 D5 ∧ (
  (
  RUN Try.prog (.at .sl) (Instr.makeSlice T.t_sl_int (.int .i64 x19.len) (.int .i64 x19.len)) w11 fun (x24_2 : Sl) w12 =>
  Chg w5 w12 D5 ∧ (
  Calls Try.prog F.slices_Repeat_sl_int_int #[x25_2.v, .int .i64 x19.len] w12 (Ret [.at .sl] fun (x27_2 : Sl) w13 =>
  Chg w5 w13 D5 ∧ (
  RUN Try.prog (.at .sl) (bsem .append #[T.t_sl_int, T.t_sl_int] T.t_sl_int #[x24_2.v, x27_2.v]) w13 fun (x28_2 : Sl) w14 =>
  Chg w5 w14 D5 ∧ (
  Calls Try.prog F.i_proposalMatching #[.agg #[x22_0.v, x22_1.v, x22_2.v], x28_2.v] w14 (Ret [.at .sl, .at (.int .i64)] fun (x29_0_2 : Sl) (x29_1_2 : Int) w15 =>
  Chg w5 w15 D5 ∧ (
  Chg w5 w15 D5 ∧ (
  Chg w5 w15 D5 ∧ (
  Chg w5 w15 D5 ∧ (
  V_i_CoverByProposals_k2 Q x19 x29_0_2 w15)))))))))) ∧ (
  Calls Try.prog F.slices_Repeat_sl_int_int #[x25_2.v, .int .i64 x19.len] w11 (Ret [.at .sl] fun (x27_3 : Sl) w16 =>
  Chg w5 w16 D5 ∧ (
  RUN Try.prog (.at .sl) (Instr.makeSlice T.t_sl_int (.int .i64 x19.len) (.int .i64 x19.len)) w16 fun (x24_3 : Sl) w17 =>
  Chg w5 w17 D5 ∧ (
  RUN Try.prog (.at .sl) (bsem .append #[T.t_sl_int, T.t_sl_int] T.t_sl_int #[x24_3.v, x27_3.v]) w17 fun (x28_3 : Sl) w18 =>
  Chg w5 w18 D5 ∧ (
  Calls Try.prog F.i_proposalMatching #[.agg #[x22_0.v, x22_1.v, x22_2.v], x28_3.v] w18 (Ret [.at .sl, .at (.int .i64)] fun (x29_0_3 : Sl) (x29_1_3 : Int) w19 =>
  Chg w5 w19 D5 ∧ (
  Chg w5 w19 D5 ∧ (
  Chg w5 w19 D5 ∧ (
  Chg w5 w19 D5 ∧ (
  V_i_CoverByProposals_k2 Q x19 x29_0_3 w19)))))))))))))))

theorem C_i_CoverByProposals {Q : Sl → Bool → World → Prop} {n_0 : Sl} {n_1 : Sl} {n_2 : Sl} {w : World} (h : V_i_CoverByProposals Q n_0 n_1 n_2 w) : Calls Try.prog F.i_CoverByProposals #[.agg #[n_0.v, n_1.v, n_2.v]] w (Ret [.at .sl, .at .bool] Q) :=
  mkC (hint := hint) (ann := annOf [(8, ⟨[(9, .sl), (33, .int .i64)], [10, 34, 35, 36, 37, 38, 39, 40, 41, 42, 43, 44, 45, 46, 47, 48, 49, 50, 51, 52, 53, 54]⟩)]) (args := [.agg #[n_0.v, n_1.v, n_2.v]]) (rs := [.at .sl, .at .bool]) Try.func35 (by kernel_rfl) (by kernel_rfl) h

def V_s_PolynomialStep (Q : Sl → Int → Bool → World → Prop) (n_0 : Sl) (n_1 : Sl) (n_2 : Sl) (colours : Sl) (k : Int) (a : Int) (w : World) : Prop :=
  NEW T.t_i_Network #[n_0.v, n_1.v, n_2.v] w fun (p_n : Addr) w1 =>
  LD [.sl, .sl, .sl] p_n w1 fun (x13_0 : Sl) (x13_1 : Sl) (x13_2 : Sl) =>
  Calls Try.prog F.s_clAsked #[.agg #[x13_0.v, x13_1.v, x13_2.v], colours.v, .int .i64 k, .int .i64 a] w1 (Ret [.at .bool] fun (x17 : Bool) w2 =>
  cond (!x17) (
  Q (⟨none, 0, 0⟩) 0 false w2) (
  Calls Try.prog F.s_clParameters #[.int .i64 k, .int .i64 a] w2 (Ret [.at (.int .i64), .at (.int .i64)] fun (x22_0 : Int) (x22_1 : Int) w3 =>
  LD [.sl, .sl, .sl] p_n w3 fun (x25_0 : Sl) (x25_1 : Sl) (x25_2 : Sl) =>
  Calls Try.prog F.s_clStep #[.agg #[x25_0.v, x25_1.v, x25_2.v], colours.v, .int .i64 x22_0, .int .i64 x22_1] w3 (Ret [.at .sl] fun (x29 : Sl) w4 =>
  Q x29 (IntKind.i64.wrap (x22_0 * x22_0)) true w4))))

theorem C_s_PolynomialStep {Q : Sl → Int → Bool → World → Prop} {n_0 : Sl} {n_1 : Sl} {n_2 : Sl} {colours : Sl} {k : Int} {a : Int} {w : World} (h : V_s_PolynomialStep Q n_0 n_1 n_2 colours k a w) : Calls Try.prog F.s_PolynomialStep #[.agg #[n_0.v, n_1.v, n_2.v], colours.v, .int .i64 k, .int .i64 a] w (Ret [.at .sl, .at (.int .i64), .at .bool] Q) :=
  mkC (hint := hint) (ann := annOf []) (args := [.agg #[n_0.v, n_1.v, n_2.v], colours.v, .int .i64 k, .int .i64 a]) (rs := [.at .sl, .at (.int .i64), .at .bool]) Try.func36 (by kernel_rfl) (by kernel_rfl) h

def V_i_PolynomialStep (Q : Sl → Int → Bool → World → Prop) (n_0 : Sl) (n_1 : Sl) (n_2 : Sl) (colours : Sl) (k : Int) (a : Int) (w : World) : Prop :=
  NEW T.t_i_Network #[n_0.v, n_1.v, n_2.v] w fun (p_n : Addr) w1 =>
  LD [.sl, .sl, .sl] p_n w1 fun (x13_0 : Sl) (x13_1 : Sl) (x13_2 : Sl) =>
  Calls Try.prog F.i_paletteOk #[.agg #[x13_0.v, x13_1.v, x13_2.v], colours.v, .int .i64 k, .int .i64 a] w1 (Ret [.at .bool] fun (x17 : Bool) w2 =>
  cond (!x17) (
  Q (⟨none, 0, 0⟩) 0 false w2) (
  LD [.sl, .sl, .sl] p_n w2 fun (x20_0 : Sl) (x20_1 : Sl) (x20_2 : Sl) =>
  Calls Try.prog F.i_polynomialStep #[.agg #[x20_0.v, x20_1.v, x20_2.v], colours.v, .int .i64 k, .int .i64 a] w2 (Ret [.at .sl, .at (.int .i64)] fun (x24_0 : Sl) (x24_1 : Int) w3 =>
  Q x24_0 x24_1 true w3)))

theorem C_i_PolynomialStep {Q : Sl → Int → Bool → World → Prop} {n_0 : Sl} {n_1 : Sl} {n_2 : Sl} {colours : Sl} {k : Int} {a : Int} {w : World} (h : V_i_PolynomialStep Q n_0 n_1 n_2 colours k a w) : Calls Try.prog F.i_PolynomialStep #[.agg #[n_0.v, n_1.v, n_2.v], colours.v, .int .i64 k, .int .i64 a] w (Ret [.at .sl, .at (.int .i64), .at .bool] Q) :=
  mkC (hint := hint) (ann := annOf []) (args := [.agg #[n_0.v, n_1.v, n_2.v], colours.v, .int .i64 k, .int .i64 a]) (rs := [.at .sl, .at (.int .i64), .at .bool]) Try.func37 (by kernel_rfl) (by kernel_rfl) h

def V_l_szWalkProblem (Q : Int → World → Prop) (a_0 : Int) (a_1 : Sl) (left : Int) (w : World) : Prop :=
  NEW T.t_l_WalkProblem #[.int .i64 a_0, a_1.v] w fun (p_a : Addr) w1 =>
  LD [.sl] (p_a.add 1) w1 fun (x6 : Sl) =>
  Calls Try.prog F.l_szIntSS #[x6.v, .int .i64 left] w1 (Ret [.at (.int .i64)] fun (x8 : Int) w2 =>
  cond (decide ((x8 : Int) < 0)) (
  Q (-1) w2) (
  Q x8 w2))

theorem C_l_szWalkProblem {Q : Int → World → Prop} {a_0 : Int} {a_1 : Sl} {left : Int} {w : World} (h : V_l_szWalkProblem Q a_0 a_1 left w) : Calls Try.prog F.l_szWalkProblem #[.agg #[.int .i64 a_0, a_1.v], .int .i64 left] w (Ret [.at (.int .i64)] Q) :=
  mkC (hint := hint) (ann := annOf []) (args := [.agg #[.int .i64 a_0, a_1.v], .int .i64 left]) (rs := [.at (.int .i64)]) Try.func38 (by kernel_rfl) (by kernel_rfl) h

def V_s_LevelsFor (Q : Int → Bool → World → Prop) (p_0 : Int) (p_1 : Sl) (w : World) : Prop :=
  NEW T.t_i_WalkProblem #[.int .i64 p_0, p_1.v] w fun (p_p : Addr) w1 =>
  LD [.int .i64, .sl] p_p w1 fun (x8_0 : Int) (x8_1 : Sl) =>
  Calls Try.prog F.s_cyLevels #[.agg #[.int .i64 x8_0, x8_1.v]] w1 (Ret [.at (.int .i64), .at (.int .i64), .at .bool] fun (x9_0 : Int) (x9_1 : Int) (x9_2 : Bool) w2 =>
  Q x9_1 x9_2 w2)

theorem C_s_LevelsFor {Q : Int → Bool → World → Prop} {p_0 : Int} {p_1 : Sl} {w : World} (h : V_s_LevelsFor Q p_0 p_1 w) : Calls Try.prog F.s_LevelsFor #[.agg #[.int .i64 p_0, p_1.v]] w (Ret [.at (.int .i64), .at .bool] Q) :=
  mkC (hint := hint) (ann := annOf []) (args := [.agg #[.int .i64 p_0, p_1.v]]) (rs := [.at (.int .i64), .at .bool]) Try.func39 (by kernel_rfl) (by kernel_rfl) h

def V_l_toWalkProblem (Q : Int → Sl → World → Prop) (a_0 : Int) (a_1 : Sl) (w : World) : Prop :=
  NEW T.t_l_WalkProblem #[.int .i64 a_0, a_1.v] w fun (p_a : Addr) w1 =>
  NEW T.t_i_WalkProblem #[.int .i64 0, .slice none 0 0] w1 fun (px2 : Addr) w2 =>
  NEW T.t_i_WalkProblem #[.int .i64 0, .slice none 0 0] w2 fun (p_out : Addr) w3 =>
  LD [.int .i64] (p_a.add 0) w3 fun (x5 : Int) =>
  ST (p_out.add 0) 0 [.int .i64 x5] w3 fun w4 =>
  LD [.sl] (p_a.add 1) w4 fun (x8 : Sl) =>
  Calls Try.prog F.l_toIntSS #[x8.v] w4 (Ret [.at .sl] fun (x9 : Sl) w5 =>
  ST (p_out.add 1) 0 [x9.v] w5 fun w6 =>
  LD [.int .i64, .sl] p_out w6 fun (x11_0 : Int) (x11_1 : Sl) =>
  ST px2 0 [.int .i64 x11_0, x11_1.v] w6 fun w7 =>
  LD [.int .i64, .sl] px2 w7 fun (r0_0 : Int) (r0_1 : Sl) =>
  Q r0_0 r0_1 w7)

theorem C_l_toWalkProblem {Q : Int → Sl → World → Prop} {a_0 : Int} {a_1 : Sl} {w : World} (h : V_l_toWalkProblem Q a_0 a_1 w) : Calls Try.prog F.l_toWalkProblem #[.agg #[.int .i64 a_0, a_1.v]] w (Ret [.agg [.int .i64, .sl]] Q) :=
  mkC (hint := hint) (ann := annOf []) (args := [.agg #[.int .i64 a_0, a_1.v]]) (rs := [.agg [.int .i64, .sl]]) Try.func40 (by kernel_rfl) (by kernel_rfl) h

def V_i_LevelsFor_k1 (Q : Int → Bool → World → Prop) (p_p : Addr) (w4 : World) : Prop :=
  ∀ w5, Ext w4 w5 → w5.heap = w4.heap →
  LD [.int .i64, .sl] p_p w5 fun (x15_0 : Int) (x15_1 : Sl) =>
  LD [.int .i64, .sl] p_p w5 fun (x16_0 : Int) (x16_1 : Sl) =>
  Ext w5 w5 ∧ (
  Calls Try.prog F.i_WalkProblem_flexibleLabels #[.agg #[.int .i64 x16_0, x16_1.v]] w5 (Ret [.at .sl] fun (x17 : Sl) w6 =>
  Ext w5 w6 ∧ (
  IX x17 0 1 fun (px18 : Addr) =>
  Ext w5 w6 ∧ (
  LD [.int .i64] px18 w6 fun (x19 : Int) =>
  Ext w5 w6 ∧ (
  Calls Try.prog F.i_WalkProblem_flexibilityOf #[.agg #[.int .i64 x15_0, x15_1.v], .int .i64 x19] w6 (Ret [.at (.int .i64)] fun (x20 : Int) w7 =>
  ∃ (I5 : Int → World → Prop) (m5 : Int → World → Nat), I5 0 w7 ∧ ∀ (levels : Int) w8, I5 levels w8 → ∀ _ _ _ _ _ _ : Value,
  (0 : Int) ≤ levels ∧ (
  cond (decide (((shlI .i64 1 levels) : Int) < x20)) (
  I5 (IntKind.i64.wrap (levels + 1)) w8 ∧ m5 (IntKind.i64.wrap (levels + 1)) w8 < m5 levels w8) (
  Q levels true w8))))))))

def V_i_LevelsFor (Q : Int → Bool → World → Prop) (p_0 : Int) (p_1 : Sl) (w : World) : Prop :=
  NEW T.t_i_WalkProblem #[.int .i64 p_0, p_1.v] w fun (p_p : Addr) w1 =>
  LD [.int .i64, .sl] p_p w1 fun (x6_0 : Int) (x6_1 : Sl) =>
  Calls Try.prog F.i_IsWalkProblem #[.agg #[.int .i64 x6_0, x6_1.v]] w1 (Ret [.at .bool] fun (x7 : Bool) w2 =>
  cond (!x7) (
  Q 0 false w2) (
  LD [.int .i64, .sl] p_p w2 fun (x10_0 : Int) (x10_1 : Sl) =>
  Calls Try.prog F.i_WalkProblem_flexibleLabels #[.agg #[.int .i64 x10_0, x10_1.v]] w2 (Ret [.at .sl] fun (x11 : Sl) w3 =>
  cond ((x11.len : Int) == 0) (
  Q 0 false w3) (
  V_i_LevelsFor_k1 Q p_p w3))))

theorem C_i_LevelsFor {Q : Int → Bool → World → Prop} {p_0 : Int} {p_1 : Sl} {w : World} (h : V_i_LevelsFor Q p_0 p_1 w) : Calls Try.prog F.i_LevelsFor #[.agg #[.int .i64 p_0, p_1.v]] w (Ret [.at (.int .i64), .at .bool] Q) :=
  mkC (hint := hint) (ann := annOf [(5, ⟨[(5, .int .i64)], [21, 22, 23, 24, 25, 26]⟩)]) (args := [.agg #[.int .i64 p_0, p_1.v]]) (rs := [.at (.int .i64), .at .bool]) Try.func41 (by kernel_rfl) (by kernel_rfl) h

def V_l_eqWalkProblem (Q : Bool → World → Prop) (a_0 : Int) (a_1 : Sl) (b_0 : Int) (b_1 : Sl) (w : World) : Prop :=
  NEW T.t_i_WalkProblem #[.int .i64 a_0, a_1.v] w fun (p_a : Addr) w1 =>
  NEW T.t_i_WalkProblem #[.int .i64 b_0, b_1.v] w1 fun (p_b : Addr) w2 =>
  LD [.int .i64] (p_a.add 0) w2 fun (x6 : Int) =>
  LD [.int .i64] (p_b.add 0) w2 fun (x8 : Int) =>
  cond ((x6 : Int) != x8) (
  Q false w2) (
  LD [.sl] (p_a.add 1) w2 fun (x11 : Sl) =>
  LD [.sl] (p_b.add 1) w2 fun (x13 : Sl) =>
  Calls Try.prog F.l_eqIntSS #[x11.v, x13.v] w2 (Ret [.at .bool] fun (x14 : Bool) w3 =>
  cond (!x14) (
  Q false w3) (
  Q true w3)))

theorem C_l_eqWalkProblem {Q : Bool → World → Prop} {a_0 : Int} {a_1 : Sl} {b_0 : Int} {b_1 : Sl} {w : World} (h : V_l_eqWalkProblem Q a_0 a_1 b_0 b_1 w) : Calls Try.prog F.l_eqWalkProblem #[.agg #[.int .i64 a_0, a_1.v], .agg #[.int .i64 b_0, b_1.v]] w (Ret [.at .bool] Q) :=
  mkC (hint := hint) (ann := annOf []) (args := [.agg #[.int .i64 a_0, a_1.v], .agg #[.int .i64 b_0, b_1.v]]) (rs := [.at .bool]) Try.func42 (by kernel_rfl) (by kernel_rfl) h

def V_s_IndependentByColours_k7 (I9 : Sl → Int → World → Prop) (m9 : Sl → Int → World → Nat) (set1_2 : Sl) (x30 : Int) (w7 : World) (set1_3 : Sl) (w11 : World) : Prop :=
  I9 set1_3 (IntKind.i64.wrap (x30 + 1)) w11 ∧ m9 set1_3 (IntKind.i64.wrap (x30 + 1)) w11 < m9 set1_2 x30 w7

def V_s_IndependentByColours_k1 (colours : Sl) (Q : Sl → Int → Bool → World → Prop) (p_n : Addr) (w4 : World) : Prop :=
  Calls Try.prog F.s_viMany #[colours.v] w4 (Ret [.at (.int .i64)] fun (x22 : Int) w5 =>
  ∃ (I6 : Sl → Int → World → Prop) (m6 : Sl → Int → World → Nat), I6 (⟨none, 0, 0⟩) 0 w5 ∧ ∀ (set1 : Sl) (c : Int) w6, I6 set1 c w6 → ∀ _ _ _ _ _ _ _ _ _ _ _ _ _ _ _ _ _ _ _ _ _ _ _ _ _ _ _ _ _ _ _ _ _ : Value,
  cond (decide ((c : Int) < x22)) (
  ∃ (I9 : Sl → Int → World → Prop) (m9 : Sl → Int → World → Nat), I9 set1 0 w6 ∧ ∀ (set1_2 : Sl) (x30 : Int) w7, I9 set1_2 x30 w7 → ∀ _ _ _ _ _ _ _ _ _ _ _ _ _ _ _ _ _ _ _ _ _ _ _ _ _ : Value,
  cond (decide ((x30 : Int) < colours.len)) (
  IX colours x30 1 fun (px33 : Addr) =>
  LD [.int .i64] px33 w7 fun (x34 : Int) =>
  cond ((x34 : Int) == c) (
  LD [.sl, .sl, .sl] p_n w7 fun (x39_0 : Sl) (x39_1 : Sl) (x39_2 : Sl) =>
  Calls Try.prog F.s_mtOwn #[.agg #[x39_0.v, x39_1.v, x39_2.v], .int .i64 x30] w7 (Ret [.at .bool] fun (x41 : Bool) w8 =>
  cond (!x41) (
  LD [.sl, .sl, .sl] p_n w8 fun (x45_0 : Sl) (x45_1 : Sl) (x45_2 : Sl) =>
  Calls Try.prog F.s_mtApart #[.agg #[x45_0.v, x45_1.v, x45_2.v], .int .i64 x30, set1_2.v] w8 (Ret [.at .bool] fun (x48 : Bool) w9 =>
  cond x48 (
  Calls Try.prog F.s_l1Put #[set1_2.v, .int .i64 x30] w9 (Ret [.at .sl] fun (x52 : Sl) w10 =>
  V_s_IndependentByColours_k7 I9 m9 set1_2 x30 w7 x52 w10)) (
  V_s_IndependentByColours_k7 I9 m9 set1_2 x30 w7 set1_2 w9))) (
  V_s_IndependentByColours_k7 I9 m9 set1_2 x30 w7 set1_2 w8))) (
  V_s_IndependentByColours_k7 I9 m9 set1_2 x30 w7 set1_2 w7)) (
  I6 set1_2 (IntKind.i64.wrap (c + 1)) w7 ∧ m6 set1_2 (IntKind.i64.wrap (c + 1)) w7 < m6 set1 c w6)) (
  Q set1 x22 true w6))

def V_s_IndependentByColours (Q : Sl → Int → Bool → World → Prop) (n_0 : Sl) (n_1 : Sl) (n_2 : Sl) (colours : Sl) (w : World) : Prop :=
  NEW T.t_i_Network #[n_0.v, n_1.v, n_2.v] w fun (p_n : Addr) w1 =>
  LD [.sl, .sl, .sl] p_n w1 fun (x12_0 : Sl) (x12_1 : Sl) (x12_2 : Sl) =>
  Calls Try.prog F.s_neGood #[.agg #[x12_0.v, x12_1.v, x12_2.v]] w1 (Ret [.at .bool] fun (x13 : Bool) w2 =>
  cond (!x13) (
  Q (⟨none, 0, 0⟩) 0 false w2) (
  LD [.sl, .sl, .sl] p_n w2 fun (x16_0 : Sl) (x16_1 : Sl) (x16_2 : Sl) =>
  Calls Try.prog F.s_mtColoured #[.agg #[x16_0.v, x16_1.v, x16_2.v], colours.v] w2 (Ret [.at .bool] fun (x18 : Bool) w3 =>
  cond (!x18) (
  Q (⟨none, 0, 0⟩) 0 false w3) (
  V_s_IndependentByColours_k1 colours Q p_n w3))))

theorem C_s_IndependentByColours {Q : Sl → Int → Bool → World → Prop} {n_0 : Sl} {n_1 : Sl} {n_2 : Sl} {colours : Sl} {w : World} (h : V_s_IndependentByColours Q n_0 n_1 n_2 colours w) : Calls Try.prog F.s_IndependentByColours #[.agg #[n_0.v, n_1.v, n_2.v], colours.v] w (Ret [.at .sl, .at (.int .i64), .at .bool] Q) :=
  mkC (hint := hint) (ann := annOf [(6, ⟨[(7, .sl), (9, .int .i64)], [10, 11, 23, 24, 25, 26, 27, 28, 29, 30, 31, 32, 33, 34, 35, 36, 37, 38, 39, 40, 41, 42, 43, 44, 45, 46, 47, 48, 49, 50, 51, 52, 53]⟩), (9, ⟨[(7, .sl), (30, .int .i64)], [10, 11, 31, 32, 33, 34, 35, 36, 37, 38, 39, 40, 41, 42, 43, 44, 45, 46, 47, 48, 49, 50, 51, 52, 53]⟩)]) (args := [.agg #[n_0.v, n_1.v, n_2.v], colours.v]) (rs := [.at .sl, .at (.int .i64), .at .bool]) Try.func43 (by kernel_rfl) (by kernel_rfl) h

def V_i_IndependentByColours_k1 (Q : Sl → Int → Bool → World → Prop) (p_n : Addr) (p_colours : Addr) (w5 : World) : Prop :=
  LD [.sl, .sl, .sl] p_n w5 fun (x24_0 : Sl) (x24_1 : Sl) (x24_2 : Sl) =>
  Calls Try.prog F.i_Network_edges #[.agg #[x24_0.v, x24_1.v, x24_2.v]] w5 (Ret [.at .sl] fun (x25 : Sl) w6 =>
  Calls Try.prog F.slices_ContainsFunc_sl_i_edge_i_edge #[x25.v, .func (.func F.i_IndependentByColours_1) #[] #[.pointer (some p_colours)]] w6 (Ret [.at .bool] fun (x27 : Bool) w7 =>
  cond x27 (
  Q (⟨none, 0, 0⟩) 0 false w7) (
  LD [.sl] p_colours w7 fun (x28 : Sl) =>
  Calls Try.prog F.i_numbersTo #[.int .i64 x28.len] w7 (Ret [.at .sl] fun (x30 : Sl) w8 =>
  Calls Try.prog F.slices_SortStableFunc_sl_int_int #[x30.v, .func (.func F.i_IndependentByColours_2) #[] #[.pointer (some p_colours)]] w8 (Ret [] fun w9 =>
  ∀ w10, Ext w9 w10 → w10.heap = w9.heap →
  LD [.sl, .sl, .sl] p_n w10 fun (x34_0 : Sl) (x34_1 : Sl) (x34_2 : Sl) =>
  LD [.sl] p_colours w10 fun (x37 : Sl) =>
  Calls Try.prog F.i_greedyIndependent #[.agg #[x34_0.v, x34_1.v, x34_2.v], x30.v] w10 (Ret [.at .sl] fun (x36 : Sl) w11 =>
  Ext w10 w11 ∧ (
  Calls Try.prog F.slices_Max_sl_int_int #[x37.v] w11 (Ret [.at (.int .i64)] fun (x38 : Int) w12 =>
  Ext w10 w12 ∧ (
  Ext w10 w12 ∧ (
  Q x36 (IntKind.i64.wrap (x38 + 1)) true w12))))))))))

def V_i_IndependentByColours (Q : Sl → Int → Bool → World → Prop) (n_0 : Sl) (n_1 : Sl) (n_2 : Sl) (colours : Sl) (w : World) : Prop :=
  NEW T.t_i_Network #[n_0.v, n_1.v, n_2.v] w fun (p_n : Addr) w1 =>
  NEW T.t_sl_int #[colours.v] w1 fun (p_colours : Addr) w2 =>
  LD [.sl, .sl, .sl] p_n w2 fun (x8_0 : Sl) (x8_1 : Sl) (x8_2 : Sl) =>
  Calls Try.prog F.i_IsNetwork #[.agg #[x8_0.v, x8_1.v, x8_2.v]] w2 (Ret [.at .bool] fun (x9 : Bool) w3 =>
  cond (!x9) (
  Q (⟨none, 0, 0⟩) 0 false w3) (
  LD [.sl] p_colours w3 fun (x12 : Sl) =>
  LD [.sl] (p_n.add 0) w3 fun (x15 : Sl) =>
  cond ((x12.len : Int) != x15.len) (
  Q (⟨none, 0, 0⟩) 0 false w3) (
  LD [.sl] p_colours w3 fun (x20 : Sl) =>
  Calls Try.prog F.i_allWithin #[x20.v, .int .i64 0, .int .i64 40] w3 (Ret [.at .bool] fun (x21 : Bool) w4 =>
  cond (!x21) (
  Q (⟨none, 0, 0⟩) 0 false w4) (
  V_i_IndependentByColours_k1 Q p_n p_colours w4)))))

theorem C_i_IndependentByColours {Q : Sl → Int → Bool → World → Prop} {n_0 : Sl} {n_1 : Sl} {n_2 : Sl} {colours : Sl} {w : World} (h : V_i_IndependentByColours Q n_0 n_1 n_2 colours w) : Calls Try.prog F.i_IndependentByColours #[.agg #[n_0.v, n_1.v, n_2.v], colours.v] w (Ret [.at .sl, .at (.int .i64), .at .bool] Q) :=
  mkC (hint := hint) (ann := annOf []) (args := [.agg #[n_0.v, n_1.v, n_2.v], colours.v]) (rs := [.at .sl, .at (.int .i64), .at .bool]) Try.func44 (by kernel_rfl) (by kernel_rfl) h

def V_s_ColourFromLists_k1 (x1 : Sl) (x2 : Sl) (Q : Sl → Bool → World → Prop) (px3 : Addr) (w5 : World) : Prop :=
  RUN Try.prog (.at .sl) (Instr.makeSlice T.t_sl_int (.int .i64 x1.len) (.int .i64 x1.len)) w5 fun (x36 : Sl) w6 =>
  ∃ (I5 : Int → World → Prop) (m5 : Int → World → Nat), I5 0 w6 ∧ ∀ (x39 : Int) w7, I5 x39 w7 → ∀ _ _ _ _ _ _ _ : Value,
  cond (decide ((x39 : Int) < x36.len)) (
  IX x36 x39 1 fun (px44 : Addr) =>
  ST px44 0 [.int .i64 (-1)] w7 fun w8 =>
  I5 (IntKind.i64.wrap (x39 + 1)) w8 ∧ m5 (IntKind.i64.wrap (x39 + 1)) w8 < m5 x39 w7) (
  ∃ (I11 : Sl → Int → World → Prop) (m11 : Sl → Int → World → Nat), I11 (⟨none, 0, 0⟩) 0 w7 ∧ ∀ (x10 : Sl) (x48 : Int) w9, I11 x10 x48 w9 → ∀ _ _ _ _ _ _ _ _ : Value,
  cond (decide ((x48 : Int) < x1.len)) (
  IX x1 x48 1 fun (px50 : Addr) =>
  LD [.int .i64] px50 w9 fun (x51 : Int) =>
  Calls Try.prog F.s_l1Put #[x10.v, .int .i64 x51] w9 (Ret [.at .sl] fun (x54 : Sl) w10 =>
  I11 x54 (IntKind.i64.wrap (x48 + 1)) w10 ∧ m11 x54 (IntKind.i64.wrap (x48 + 1)) w10 < m11 x10 x48 w9)) (
  ∃ (I16 : Int → World → Prop) (m16 : Int → World → Nat), I16 0 w9 ∧ ∀ (x58 : Int) w11, I16 x58 w11 → ∀ _ _ _ _ _ _ _ _ _ _ _ _ _ _ _ _ _ _ _ _ _ _ _ _ _ _ _ _ _ _ _ _ _ _ _ _ _ _ _ _ _ _ _ _ _ _ : Value,
  cond (decide ((x58 : Int) < x10.len)) (
  IX x10 x58 1 fun (px60 : Addr) =>
  LD [.int .i64] px60 w11 fun (x61 : Int) =>
  ∃ (I19 : Int → World → Prop) (m19 : Int → World → Nat), I19 0 w11 ∧ ∀ (x64 : Int) w12, I19 x64 w12 → ∀ _ _ _ _ _ _ _ _ _ _ _ _ _ _ _ _ _ _ _ _ _ _ _ _ _ _ _ _ _ _ _ _ _ _ _ _ _ _ : Value,
  cond (decide ((x64 : Int) < x1.len)) (
  IX x1 x64 1 fun (px67 : Addr) =>
  LD [.int .i64] px67 w12 fun (x68 : Int) =>
  cond ((x68 : Int) != x61) (
  I19 (IntKind.i64.wrap (x64 + 1)) w12 ∧ m19 (IntKind.i64.wrap (x64 + 1)) w12 < m19 x64 w12) (
  LD [.sl, .sl, .sl] px3 w12 fun (x73_0 : Sl) (x73_1 : Sl) (x73_2 : Sl) =>
  Calls Try.prog F.s_neNear #[.agg #[x73_0.v, x73_1.v, x73_2.v], .int .i64 x64] w12 (Ret [.at .sl] fun (x75 : Sl) w13 =>
  Calls Try.prog F.s_coThrough #[x36.v, x75.v] w13 (Ret [.at .sl] fun (x76 : Sl) w14 =>
  ∃ (I24 : Int → World → Prop) (m24 : Int → World → Nat), I24 0 w14 ∧ ∀ (x18 : Int) w15, I24 x18 w15 → ∀ _ _ _ _ _ _ _ _ _ _ _ : Value,
  IX x2 x64 1 fun (px80 : Addr) =>
  LD [.sl] px80 w15 fun (x81 : Sl) =>
  IX x81 x18 1 fun (px83 : Addr) =>
  LD [.int .i64] px83 w15 fun (x84 : Int) =>
  Calls Try.prog F.s_l1Has #[x76.v, .int .i64 x84] w15 (Ret [.at .bool] fun (x85 : Bool) w16 =>
  cond x85 (
  I24 (IntKind.i64.wrap (x18 + 1)) w16 ∧ m24 (IntKind.i64.wrap (x18 + 1)) w16 < m24 x18 w15) (
  IX x2 x64 1 fun (px92 : Addr) =>
  LD [.sl] px92 w16 fun (x93 : Sl) =>
  IX x93 x18 1 fun (px95 : Addr) =>
  LD [.int .i64] px95 w16 fun (x96 : Int) =>
  IX x36 x64 1 fun (px97 : Addr) =>
  ST px97 0 [.int .i64 x96] w16 fun w17 =>
  I19 (IntKind.i64.wrap (x64 + 1)) w17 ∧ m19 (IntKind.i64.wrap (x64 + 1)) w17 < m19 x64 w12)))))) (
  I16 (IntKind.i64.wrap (x58 + 1)) w12 ∧ m16 (IntKind.i64.wrap (x58 + 1)) w12 < m16 x58 w11)) (
  Q x36 true w11)))

def V_s_ColourFromLists (Q : Sl → Bool → World → Prop) (x0_0 : Sl) (x0_1 : Sl) (x0_2 : Sl) (x1 : Sl) (x2 : Sl) (w : World) : Prop :=
  NEW T.t_i_Network #[x0_0.v, x0_1.v, x0_2.v] w fun (px3 : Addr) w1 =>
  LD [.sl, .sl, .sl] px3 w1 fun (x19_0 : Sl) (x19_1 : Sl) (x19_2 : Sl) =>
  Calls Try.prog F.s_neGood #[.agg #[x19_0.v, x19_1.v, x19_2.v]] w1 (Ret [.at .bool] fun (x20 : Bool) w2 =>
  cond (!x20) (
  Q (⟨none, 0, 0⟩) false w2) (
  LD [.sl, .sl, .sl] px3 w2 fun (x23_0 : Sl) (x23_1 : Sl) (x23_2 : Sl) =>
  Calls Try.prog F.s_clProper #[.agg #[x23_0.v, x23_1.v, x23_2.v], x1.v] w2 (Ret [.at .bool] fun (x25 : Bool) w3 =>
  cond (!x25) (
  Q (⟨none, 0, 0⟩) false w3) (
  LD [.sl, .sl, .sl] px3 w3 fun (x29_0 : Sl) (x29_1 : Sl) (x29_2 : Sl) =>
  Calls Try.prog F.s_clLists #[.agg #[x29_0.v, x29_1.v, x29_2.v], x2.v] w3 (Ret [.at .bool] fun (x31 : Bool) w4 =>
  cond (!x31) (
  Q (⟨none, 0, 0⟩) false w4) (
  V_s_ColourFromLists_k1 x1 x2 Q px3 w4))))))

theorem C_s_ColourFromLists {Q : Sl → Bool → World → Prop} {x0_0 : Sl} {x0_1 : Sl} {x0_2 : Sl} {x1 : Sl} {x2 : Sl} {w : World} (h : V_s_ColourFromLists Q x0_0 x0_1 x0_2 x1 x2 w) : Calls Try.prog F.s_ColourFromLists #[.agg #[x0_0.v, x0_1.v, x0_2.v], x1.v, x2.v] w (Ret [.at .sl, .at .bool] Q) :=
  mkC (hint := hint) (ann := annOf [(5, ⟨[(39, .int .i64)], [9, 40, 41, 42, 43, 44, 45]⟩), (11, ⟨[(10, .sl), (48, .int .i64)], [12, 49, 50, 51, 52, 53, 54, 55]⟩), (16, ⟨[(58, .int .i64)], [14, 15, 16, 17, 18, 59, 60, 61, 62, 63, 64, 65, 66, 67, 68, 69, 70, 71, 72, 73, 74, 75, 76, 77, 78, 79, 80, 81, 82, 83, 84, 85, 86, 87, 88, 89, 90, 91, 92, 93, 94, 95, 96, 97, 98, 99]⟩), (19, ⟨[(64, .int .i64)], [15, 16, 17, 18, 65, 66, 67, 68, 69, 70, 71, 72, 73, 74, 75, 76, 77, 78, 79, 80, 81, 82, 83, 84, 85, 86, 87, 88, 89, 90, 91, 92, 93, 94, 95, 96, 97, 98]⟩), (24, ⟨[(18, .int .i64)], [77, 78, 79, 80, 81, 82, 83, 84, 85, 86, 87]⟩)]) (args := [.agg #[x0_0.v, x0_1.v, x0_2.v], x1.v, x2.v]) (rs := [.at .sl, .at .bool]) Try.func45 (by kernel_rfl) (by kernel_rfl) h

def V_i_ColourFromLists_k1 (x2 : Sl) (Q : Sl → Bool → World → Prop) (px3 : Addr) (px4 : Addr) (w6 : World) : Prop :=
  LD [.sl] px4 w6 fun (x29 : Sl) =>
  Calls Try.prog F.i_numbersTo #[.int .i64 x29.len] w6 (Ret [.at .sl] fun (x31 : Sl) w7 =>
  Calls Try.prog F.slices_SortStableFunc_sl_int_int #[x31.v, .func (.func F.i_ColourFromLists_1) #[] #[.pointer (some px4)]] w7 (Ret [] fun w8 =>
  RUN Try.prog (.at .sl) (Instr.buildSlice T.t_sl_int 1 #[(0, .int .i64 (-1))]) w8 fun (x35 : Sl) w9 =>
  LD [.sl] px4 w9 fun (x36 : Sl) =>
  Calls Try.prog F.slices_Repeat_sl_int_int #[x35.v, .int .i64 x36.len] w9 (Ret [.at .sl] fun (x38 : Sl) w10 =>
  ∃ (I7 : Int → World → Prop) (m7 : Int → World → Nat), I7 0 w10 ∧ ∀ (x41 : Int) w11, I7 x41 w11 → ∀ _ _ _ _ _ _ _ _ _ _ _ _ _ _ _ _ _ _ _ _ _ _ _ _ _ _ _ : Value,
  cond (decide ((x41 : Int) < x31.len)) (
  IX x31 x41 1 fun (px43 : Addr) =>
  LD [.int .i64] px43 w11 fun (x44 : Int) =>
  LD [.sl, .sl, .sl] px3 w11 fun (x45_0 : Sl) (x45_1 : Sl) (x45_2 : Sl) =>
  Calls Try.prog F.i_near #[.agg #[x45_0.v, x45_1.v, x45_2.v], .int .i64 x44, x38.v] w11 (Ret [.at .sl] fun (x48 : Sl) w12 =>
  NEW T.t_sl_int #[.slice none 0 0] w12 fun (px12 : Addr) w13 =>
  ST px12 0 [x48.v] w13 fun w14 =>
  IX x2 x44 1 fun (px51 : Addr) =>
  LD [.sl] px51 w14 fun (x52 : Sl) =>
  Calls Try.prog F.slices_IndexFunc_sl_int_int #[x52.v, .func (.func F.i_ColourFromLists_2) #[] #[.pointer (some px12)]] w14 (Ret [.at (.int .i64)] fun (x54 : Int) w15 =>
  IX x2 x44 1 fun (px59 : Addr) =>
  LD [.sl] px59 w15 fun (x60 : Sl) =>
  IX x60 x54 1 fun (px62 : Addr) =>
  LD [.int .i64] px62 w15 fun (x63 : Int) =>
  IX x38 x44 1 fun (px64 : Addr) =>
  ST px64 0 [.int .i64 x63] w15 fun w16 =>
  I7 (IntKind.i64.wrap (x41 + 1)) w16 ∧ m7 (IntKind.i64.wrap (x41 + 1)) w16 < m7 x41 w11))) (
  Q x38 true w11))))

def V_i_ColourFromLists (Q : Sl → Bool → World → Prop) (x0_0 : Sl) (x0_1 : Sl) (x0_2 : Sl) (x1 : Sl) (x2 : Sl) (w : World) : Prop :=
  NEW T.t_i_Network #[x0_0.v, x0_1.v, x0_2.v] w fun (px3 : Addr) w1 =>
  NEW T.t_sl_int #[x1.v] w1 fun (px4 : Addr) w2 =>
  LD [.sl, .sl, .sl] px3 w2 fun (x14_0 : Sl) (x14_1 : Sl) (x14_2 : Sl) =>
  Calls Try.prog F.i_IsNetwork #[.agg #[x14_0.v, x14_1.v, x14_2.v]] w2 (Ret [.at .bool] fun (x15 : Bool) w3 =>
  cond (!x15) (
  Q (⟨none, 0, 0⟩) false w3) (
  LD [.sl, .sl, .sl] px3 w3 fun (x18_0 : Sl) (x18_1 : Sl) (x18_2 : Sl) =>
  LD [.sl] px4 w3 fun (x19 : Sl) =>
  Calls Try.prog F.i_isColouring #[.agg #[x18_0.v, x18_1.v, x18_2.v], x19.v] w3 (Ret [.at .bool] fun (x20 : Bool) w4 =>
  cond (!x20) (
  Q (⟨none, 0, 0⟩) false w4) (
  LD [.sl, .sl, .sl] px3 w4 fun (x24_0 : Sl) (x24_1 : Sl) (x24_2 : Sl) =>
  Calls Try.prog F.i_listsOk #[.agg #[x24_0.v, x24_1.v, x24_2.v], x2.v] w4 (Ret [.at .bool] fun (x26 : Bool) w5 =>
  cond (!x26) (
  Q (⟨none, 0, 0⟩) false w5) (
  V_i_ColourFromLists_k1 x2 Q px3 px4 w5))))))

theorem C_i_ColourFromLists {Q : Sl → Bool → World → Prop} {x0_0 : Sl} {x0_1 : Sl} {x0_2 : Sl} {x1 : Sl} {x2 : Sl} {w : World} (h : V_i_ColourFromLists Q x0_0 x0_1 x0_2 x1 x2 w) : Calls Try.prog F.i_ColourFromLists #[.agg #[x0_0.v, x0_1.v, x0_2.v], x1.v, x2.v] w (Ret [.at .sl, .at .bool] Q) :=
  mkC (hint := hint) (ann := annOf [(7, ⟨[(41, .int .i64)], [11, 12, 13, 42, 43, 44, 45, 46, 47, 48, 49, 50, 51, 52, 53, 54, 55, 56, 57, 58, 59, 60, 61, 62, 63, 64, 65]⟩)]) (args := [.agg #[x0_0.v, x0_1.v, x0_2.v], x1.v, x2.v]) (rs := [.at .sl, .at .bool]) Try.func46 (by kernel_rfl) (by kernel_rfl) h

def V_l_szProblem (Q : Int → World → Prop) (a_0 : Int) (a_1 : Int) (a_2 : Sl) (a_3 : Sl) (left : Int) (w : World) : Prop :=
  NEW T.t_l_Problem #[.int .i64 a_0, .int .i64 a_1, a_2.v, a_3.v] w fun (p_a : Addr) w1 =>
  LD [.sl] (p_a.add 2) w1 fun (x6 : Sl) =>
  Calls Try.prog F.l_szIntSS #[x6.v, .int .i64 left] w1 (Ret [.at (.int .i64)] fun (x8 : Int) w2 =>
  cond (decide ((x8 : Int) < 0)) (
  Q (-1) w2) (
  LD [.sl] (p_a.add 3) w2 fun (x12 : Sl) =>
  Calls Try.prog F.l_szIntSS #[x12.v, .int .i64 x8] w2 (Ret [.at (.int .i64)] fun (x14 : Int) w3 =>
  cond (decide ((x14 : Int) < 0)) (
  Q (-1) w3) (
  Q x14 w3))))

theorem C_l_szProblem {Q : Int → World → Prop} {a_0 : Int} {a_1 : Int} {a_2 : Sl} {a_3 : Sl} {left : Int} {w : World} (h : V_l_szProblem Q a_0 a_1 a_2 a_3 left w) : Calls Try.prog F.l_szProblem #[.agg #[.int .i64 a_0, .int .i64 a_1, a_2.v, a_3.v], .int .i64 left] w (Ret [.at (.int .i64)] Q) :=
  mkC (hint := hint) (ann := annOf []) (args := [.agg #[.int .i64 a_0, .int .i64 a_1, a_2.v, a_3.v], .int .i64 left]) (rs := [.at (.int .i64)]) Try.func47 (by kernel_rfl) (by kernel_rfl) h

end Go.Proofs.Ytoeaoinedidbiaa
