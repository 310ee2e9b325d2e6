/- What each function's code computes to. Printed by a program. -/
import Derived.Test.YtoeaoinedidbiaaNames
namespace Go.Proofs.Ytoeaoinedidbiaa
open Go.GX Go.RowKit
set_option linter.unusedVariables false
set_option maxRecDepth 100000

def V_s_waPowers (Q : Sl → World → Prop) (p_0 : Int) (p_1 : Sl) (most : Int) (w : World) : Prop :=
  NEW T.t_i_WalkProblem #[.int .i64 p_0, p_1.v] w fun (p_p : Addr) w1 =>
  LD [.int .i64] (p_p.add 0) w1 fun (x10 : Int) =>
  Calls Try.prog F.s_waMay #[.agg #[.int .i64 x10, .slice none 0 0]] w1 (Ret [.at .sl] fun (x12 : Sl) w2 =>
  ∃ (I3 : Int → World → Prop) (m3 : Int → World → Nat), I3 0 w2 ∧ ∀ (x15 : Int) w3, I3 x15 w3 → ∀ _ _ _ _ _ _ _ _ _ _ : Value,
  cond (decide ((x15 : Int) < x12.len)) (
  IX x12 x15 1 fun (px20 : Addr) =>
  LD [.sl] px20 w3 fun (x21 : Sl) =>
  IX x21 x15 1 fun (px23 : Addr) =>
  ST px23 0 [.bool true] w3 fun w4 =>
  I3 (IntKind.i64.wrap (x15 + 1)) w4 ∧ m3 (IntKind.i64.wrap (x15 + 1)) w4 < m3 x15 w3) (
  RUN Try.prog (.at .sl) (Instr.buildSlice T.t_sl_sl_sl_bool 1 #[(0, x12.v)]) w3 fun (x26 : Sl) w5 =>
  LD [.int .i64, .sl] p_p w5 fun (x27_0 : Int) (x27_1 : Sl) =>
  Calls Try.prog F.s_waMay #[.agg #[.int .i64 x27_0, x27_1.v]] w5 (Ret [.at .sl] fun (x28 : Sl) w6 =>
  ∃ (I9 : Sl → World → Prop) (m9 : Sl → World → Nat), I9 x26 w6 ∧ ∀ (out : Sl) w7, I9 out w7 → ∀ _ _ _ _ _ _ _ _ _ _ _ _ _ _ _ : Value,
  cond (decide ((out.len : Int) ≤ most)) (
  IX out (IntKind.i64.wrap (out.len - 1)) 1 fun (px38 : Addr) =>
  LD [.sl] px38 w7 fun (x39 : Sl) =>
  Calls Try.prog F.s_waTimes #[x39.v, x28.v] w7 (Ret [.at .sl] fun (x41 : Sl) w8 =>
  RUN Try.prog (.at .sl) (Instr.buildSlice T.t_sl_sl_sl_bool 1 #[(0, x41.v)]) w8 fun (x42 : Sl) w9 =>
  RUN Try.prog (.at .sl) (bsem .append #[T.t_sl_sl_sl_bool, T.t_sl_sl_sl_bool] T.t_sl_sl_sl_bool #[out.v, x42.v]) w9 fun (x43 : Sl) w10 =>
  I9 x43 w10 ∧ m9 x43 w10 < m9 out w7)) (
  Q out w7))))

theorem C_s_waPowers {Q : Sl → World → Prop} {p_0 : Int} {p_1 : Sl} {most : Int} {w : World} (h : V_s_waPowers Q p_0 p_1 most w) : Calls Try.prog F.s_waPowers #[.agg #[.int .i64 p_0, p_1.v], .int .i64 most] w (Ret [.at .sl] Q) :=
  mkC (hint := hint) (ann := annOf [(3, ⟨[(15, .int .i64)], [6, 16, 17, 18, 19, 20, 21, 22, 23, 24]⟩), (9, ⟨[(7, .sl)], [29, 30, 31, 32, 33, 34, 35, 36, 37, 38, 39, 40, 41, 42, 43]⟩)]) (args := [.agg #[.int .i64 p_0, p_1.v], .int .i64 most]) (rs := [.at .sl]) Try.func237 (by kernel_rfl) (by kernel_rfl) h

def V_i_WalkProblem_distancesIn (Q : Sl → World → Prop) (p_0 : Int) (p_1 : Sl) (a : Int) (w : World) : Prop :=
  NEW T.t_i_WalkProblem #[.int .i64 p_0, p_1.v] w fun (p_p : Addr) w1 =>
  RUN Try.prog (.at .sl) (Instr.buildSlice T.t_sl_int 1 #[(0, .int .i64 (-1))]) w1 fun (x10 : Sl) w2 =>
  LD [.int .i64] (p_p.add 0) w2 fun (x12 : Int) =>
  Calls Try.prog F.slices_Repeat_sl_int_int #[x10.v, .int .i64 x12] w2 (Ret [.at .sl] fun (x13 : Sl) w3 =>
  LD [.int .i64, .sl] p_p w3 fun (x14_0 : Int) (x14_1 : Sl) =>
  LD [.int .i64] (p_p.add 0) w3 fun (x17 : Int) =>
  Calls Try.prog F.i_WalkProblem_reached #[.agg #[.int .i64 x14_0, x14_1.v], .int .i64 a, .int .i64 x17] w3 (Ret [.at .sl] fun (x18 : Sl) w4 =>
  ∃ (I3 : Int → World → Prop) (m3 : Int → World → Nat), I3 0 w4 ∧ ∀ (x20 : Int) w5, I3 x20 w5 → ∀ _ _ _ _ _ _ _ _ _ _ _ _ _ _ _ _ _ _ _ _ _ _ _ _ _ : Value,
  cond (decide ((x20 : Int) < x18.len)) (
  IX x18 x20 1 fun (px23 : Addr) =>
  LD [.int .i64] px23 w5 fun (x24 : Int) =>
  Calls Try.prog F.i_labelsIn #[.int .i64 x24] w5 (Ret [.at .sl] fun (x26 : Sl) w6 =>
  ∃ (I6 : Int → World → Prop) (m6 : Int → World → Nat), I6 0 w6 ∧ ∀ (x28 : Int) w7, I6 x28 w7 → ∀ _ _ _ _ _ _ _ _ _ _ _ _ _ _ : Value,
  cond (decide ((x28 : Int) < x26.len)) (
  IX x26 x28 1 fun (px30 : Addr) =>
  LD [.int .i64] px30 w7 fun (x31 : Int) =>
  IX x13 x31 1 fun (px34 : Addr) =>
  LD [.int .i64] px34 w7 fun (x35 : Int) =>
  cond (decide ((x35 : Int) < 0)) (
  IX x13 x31 1 fun (px40 : Addr) =>
  ST px40 0 [.int .i64 x20] w7 fun w8 =>
  I6 (IntKind.i64.wrap (x28 + 1)) w8 ∧ m6 (IntKind.i64.wrap (x28 + 1)) w8 < m6 x28 w7) (
  I6 (IntKind.i64.wrap (x28 + 1)) w7 ∧ m6 (IntKind.i64.wrap (x28 + 1)) w7 < m6 x28 w7)) (
  I3 (IntKind.i64.wrap (x20 + 1)) w7 ∧ m3 (IntKind.i64.wrap (x20 + 1)) w7 < m3 x20 w5))) (
  Q x13 w5)))

theorem C_i_WalkProblem_distancesIn {Q : Sl → World → Prop} {p_0 : Int} {p_1 : Sl} {a : Int} {w : World} (h : V_i_WalkProblem_distancesIn Q p_0 p_1 a w) : Calls Try.prog F.i_WalkProblem_distancesIn #[.agg #[.int .i64 p_0, p_1.v], .int .i64 a] w (Ret [.at .sl] Q) :=
  mkC (hint := hint) (ann := annOf [(3, ⟨[(20, .int .i64)], [6, 7, 9, 21, 22, 23, 24, 25, 26, 27, 28, 29, 30, 31, 32, 33, 34, 35, 36, 37, 38, 39, 40, 41, 42]⟩), (6, ⟨[(28, .int .i64)], [9, 29, 30, 31, 32, 33, 34, 35, 36, 37, 38, 39, 40, 41]⟩)]) (args := [.agg #[.int .i64 p_0, p_1.v], .int .i64 a]) (rs := [.at .sl]) Try.func239 (by kernel_rfl) (by kernel_rfl) h

def V_i_gcd (Q : Int → World → Prop) (list : Sl) (w : World) : Prop :=
  ∃ (I3 : Int → Int → World → Prop) (m3 : Int → Int → World → Nat), I3 0 0 w ∧ ∀ (d : Int) (x8 : Int) w1, I3 d x8 w1 → ∀ _ _ _ _ _ _ _ _ _ _ _ : Value,
  cond (decide ((x8 : Int) < list.len)) (
  IX list x8 1 fun (px10 : Addr) =>
  LD [.int .i64] px10 w1 fun (x11 : Int) =>
  ∃ (I5 : Int → Int → World → Prop) (m5 : Int → Int → World → Nat), I5 d x11 w1 ∧ ∀ (d_2 : Int) (n : Int) w2, I5 d_2 n w2 → ∀ _ _ _ _ _ _ : Value,
  cond ((n : Int) != 0) (
  (n : Int) ≠ 0 ∧ (
  ∀ w3, Ext w2 w3 →
  I5 n (Int.tmod d_2 n) w3 ∧ m5 n (Int.tmod d_2 n) w3 < m5 d_2 n w2)) (
  I3 d_2 (IntKind.i64.wrap (x8 + 1)) w2 ∧ m3 d_2 (IntKind.i64.wrap (x8 + 1)) w2 < m3 d x8 w1)) (
  Q d w1)

theorem C_i_gcd {Q : Int → World → Prop} {list : Sl} {w : World} (h : V_i_gcd Q list w) : Calls Try.prog F.i_gcd #[list.v] w (Ret [.at (.int .i64)] Q) :=
  mkC (hint := hint) (ann := annOf [(3, ⟨[(3, .int .i64), (8, .int .i64)], [5, 9, 10, 11, 12, 13, 14, 15, 16, 17, 18]⟩), (5, ⟨[(3, .int .i64), (5, .int .i64)], [12, 13, 14, 15, 16, 17]⟩)]) (args := [list.v]) (rs := [.at (.int .i64)]) Try.func240 (by kernel_rfl) (by kernel_rfl) h

def V_s_l1Sign (Q : Int → World → Prop) (n : Int) (w : World) : Prop :=
  cond (decide ((n : Int) > 0)) (
  Q 1 w) (
  cond (decide ((n : Int) < 0)) (
  Q (-1) w) (
  Q 0 w))

theorem C_s_l1Sign {Q : Int → World → Prop} {n : Int} {w : World} (h : V_s_l1Sign Q n w) : Calls Try.prog F.s_l1Sign #[.int .i64 n] w (Ret [.at (.int .i64)] Q) :=
  mkC (hint := hint) (ann := annOf []) (args := [.int .i64 n]) (rs := [.at (.int .i64)]) Try.func253 (by kernel_rfl) (by kernel_rfl) h

def V_s_waReach (Q : Sl → World → Prop) (p_0 : Int) (p_1 : Sl) (w : World) : Prop :=
  NEW T.t_i_WalkProblem #[.int .i64 p_0, p_1.v] w fun (p_p : Addr) w1 =>
  LD [.int .i64] (p_p.add 0) w1 fun (x10 : Int) =>
  Calls Try.prog F.s_waMay #[.agg #[.int .i64 x10, .slice none 0 0]] w1 (Ret [.at .sl] fun (x12 : Sl) w2 =>
  LD [.int .i64, .sl] p_p w2 fun (x13_0 : Int) (x13_1 : Sl) =>
  LD [.int .i64] (p_p.add 0) w2 fun (x15 : Int) =>
  Calls Try.prog F.s_waPowers #[.agg #[.int .i64 x13_0, x13_1.v], .int .i64 x15] w2 (Ret [.at .sl] fun (x16 : Sl) w3 =>
  ∃ (I3 : Int → World → Prop) (m3 : Int → World → Nat), I3 0 w3 ∧ ∀ (x18 : Int) w4, I3 x18 w4 → ∀ _ _ _ _ _ _ _ _ _ _ _ _ _ _ _ _ _ _ _ _ _ _ _ _ _ _ _ _ _ _ _ _ _ _ _ _ _ _ _ _ _ _ _ _ _ _ _ : Value,
  cond (decide ((x18 : Int) < x16.len)) (
  IX x16 x18 1 fun (px21 : Addr) =>
  LD [.sl] px21 w4 fun (x22 : Sl) =>
  ∃ (I6 : Int → World → Prop) (m6 : Int → World → Nat), I6 0 w4 ∧ ∀ (x25 : Int) w5, I6 x25 w5 → ∀ _ _ _ _ _ _ _ _ _ _ _ _ _ _ _ _ _ _ _ _ _ _ _ _ _ _ _ _ _ _ _ _ _ _ _ _ _ : Value,
  cond (decide ((x25 : Int) < x22.len)) (
  IX x22 x25 1 fun (px30 : Addr) =>
  LD [.sl] px30 w5 fun (x31 : Sl) =>
  ∃ (I9 : Int → World → Prop) (m9 : Int → World → Nat), I9 0 w5 ∧ ∀ (x33 : Int) w6, I9 x33 w6 → ∀ _ _ _ _ _ _ _ _ _ _ _ _ _ _ _ _ _ _ _ _ _ _ _ _ _ _ _ : Value,
  cond (decide ((x33 : Int) < x31.len)) (
  IX x31 x33 1 fun (px36 : Addr) =>
  LD [.bool] px36 w6 fun (x37 : Bool) =>
  ∀ w7, Ext w6 w7 → w7.heap = w6.heap → ∃ (D7 : Nat → Prop),
  IX x12 x25 1 fun (px40 : Addr) =>
  ¬ D7 px40.block ∧ (
  LD [.sl] px40 w7 fun (x41 : Sl) =>
  IX x12 x25 1 fun (px45 : Addr) =>
  ¬ D7 px45.block ∧ (
  LD [.sl] px45 w7 fun (x46 : Sl) =>
  Chg w7 w7 D7 ∧ (
  IX x46 x33 1 fun (px48 : Addr) =>
  Chg w7 w7 D7 ∧ (
  LD [.bool] px48 w7 fun (x49 : Bool) =>
  Chg w7 w7 D7 ∧ (
  Chg w7 w7 D7 ∧ (
  cond x49 (
  Chg w7 w7 D7 ∧ (
  IX x41 x33 1 fun (px57 : Addr) =>
  Chg w7 w7 D7 ∧ (
  ST px57 0 [.bool true] w7 fun w8 =>
  Chg w7 w8 D7 ∧ (
  I9 (IntKind.i64.wrap (x33 + 1)) w8 ∧ m9 (IntKind.i64.wrap (x33 + 1)) w8 < m9 x33 w6)))) (
  Chg w7 w7 D7 ∧ (
  Chg w7 w7 D7 ∧ (
  cond x37 (
  Chg w7 w7 D7 ∧ (
  Chg w7 w7 D7 ∧ (
  Chg w7 w7 D7 ∧ (
  Chg w7 w7 D7 ∧ (
  IX x41 x33 1 fun (px57_2 : Addr) =>
  Chg w7 w7 D7 ∧ (
  ST px57_2 0 [.bool (decide ((x18 : Int) > 0))] w7 fun w9 =>
  Chg w7 w9 D7 ∧ (
  I9 (IntKind.i64.wrap (x33 + 1)) w9 ∧ m9 (IntKind.i64.wrap (x33 + 1)) w9 < m9 x33 w6))))))) (
  Chg w7 w7 D7 ∧ (
  Chg w7 w7 D7 ∧ (
  IX x41 x33 1 fun (px57_3 : Addr) =>
  Chg w7 w7 D7 ∧ (
  ST px57_3 0 [.bool false] w7 fun w10 =>
  Chg w7 w10 D7 ∧ (
  I9 (IntKind.i64.wrap (x33 + 1)) w10 ∧ m9 (IntKind.i64.wrap (x33 + 1)) w10 < m9 x33 w6))))))))))))))) (
  I6 (IntKind.i64.wrap (x25 + 1)) w6 ∧ m6 (IntKind.i64.wrap (x25 + 1)) w6 < m6 x25 w5)) (
  I3 (IntKind.i64.wrap (x18 + 1)) w5 ∧ m3 (IntKind.i64.wrap (x18 + 1)) w5 < m3 x18 w4)) (
  Q x12 w4)))

theorem C_s_waReach {Q : Sl → World → Prop} {p_0 : Int} {p_1 : Sl} {w : World} (h : V_s_waReach Q p_0 p_1 w) : Calls Try.prog F.s_waReach #[.agg #[.int .i64 p_0, p_1.v]] w (Ret [.at .sl] Q) :=
  mkC (hint := hint) (ann := annOf [(3, ⟨[(18, .int .i64)], [4, 5, 6, 7, 8, 19, 20, 21, 22, 23, 24, 25, 26, 27, 28, 29, 30, 31, 32, 33, 34, 35, 36, 37, 38, 39, 40, 41, 42, 43, 44, 45, 46, 47, 48, 49, 50, 51, 52, 53, 54, 55, 56, 57, 58, 59, 60]⟩), (6, ⟨[(25, .int .i64)], [6, 7, 8, 26, 27, 28, 29, 30, 31, 32, 33, 34, 35, 36, 37, 38, 39, 40, 41, 42, 43, 44, 45, 46, 47, 48, 49, 50, 51, 52, 53, 54, 55, 56, 57, 58, 59]⟩), (9, ⟨[(33, .int .i64)], [7, 8, 34, 35, 36, 37, 38, 39, 40, 41, 42, 43, 44, 45, 46, 47, 48, 49, 50, 51, 52, 53, 54, 55, 56, 57, 58]⟩)]) (args := [.agg #[.int .i64 p_0, p_1.v]]) (rs := [.at .sl]) Try.func254 (by kernel_rfl) (by kernel_rfl) h

def V_s_waDepths_k7 (I12 : Bool → Int → World → Prop) (m12 : Bool → Int → World → Nat) (x7_2 : Bool) (x31 : Int) (w7 : World) (x7_3 : Bool) (w11 : World) : Prop :=
  I12 x7_3 (IntKind.i64.wrap (x31 + 1)) w11 ∧ m12 x7_3 (IntKind.i64.wrap (x31 + 1)) w11 < m12 x7_2 x31 w7

def V_s_waDepths (Q : Sl → World → Prop) (x0_0 : Int) (x0_1 : Sl) (x1 : Sl) (w : World) : Prop :=
  NEW T.t_i_WalkProblem #[.int .i64 x0_0, x0_1.v] w fun (px2 : Addr) w1 =>
  LD [.int .i64] (px2.add 0) w1 fun (x11 : Int) =>
  RUN Try.prog (.at .sl) (Instr.makeSlice T.t_sl_int (.int .i64 x11) (.int .i64 x11)) w1 fun (x12 : Sl) w2 =>
  ∃ (I3 : Int → World → Prop) (m3 : Int → World → Nat), I3 0 w2 ∧ ∀ (x15 : Int) w3, I3 x15 w3 → ∀ _ _ _ _ _ _ _ : Value,
  cond (decide ((x15 : Int) < x12.len)) (
  IX x12 x15 1 fun (px20 : Addr) =>
  ST px20 0 [.int .i64 (-1)] w3 fun w4 =>
  I3 (IntKind.i64.wrap (x15 + 1)) w4 ∧ m3 (IntKind.i64.wrap (x15 + 1)) w4 < m3 x15 w3) (
  IX x1 0 1 fun (px24 : Addr) =>
  LD [.int .i64] px24 w3 fun (x25 : Int) =>
  IX x12 x25 1 fun (px26 : Addr) =>
  ST px26 0 [.int .i64 0] w3 fun w5 =>
  ∃ (I9 : Bool → World → Prop) (m9 : Bool → World → Nat), I9 true w5 ∧ ∀ (x7 : Bool) w6, I9 x7 w6 → ∀ _ _ _ _ _ _ _ _ _ _ _ _ _ _ _ _ _ _ _ _ _ _ _ _ _ _ _ _ _ _ _ _ _ _ _ _ _ _ _ _ _ _ _ _ _ : Value,
  cond x7 (
  LD [.sl] (px2.add 1) w6 fun (x29 : Sl) =>
  ∃ (I12 : Bool → Int → World → Prop) (m12 : Bool → Int → World → Nat), I12 false 0 w6 ∧ ∀ (x7_2 : Bool) (x31 : Int) w7, I12 x7_2 x31 w7 → ∀ _ _ _ _ _ _ _ _ _ _ _ _ _ _ _ _ _ _ _ _ _ _ _ _ _ _ _ _ _ _ _ _ _ _ _ _ _ _ _ _ : Value,
  cond (decide ((x31 : Int) < x29.len)) (
  IX x29 x31 1 fun (px33 : Addr) =>
  LD [.sl] px33 w7 fun (x34 : Sl) =>
  IX x34 0 1 fun (px37 : Addr) =>
  LD [.int .i64] px37 w7 fun (x38 : Int) =>
  IX x12 x38 1 fun (px39 : Addr) =>
  LD [.int .i64] px39 w7 fun (x40 : Int) =>
  cond (decide ((x40 : Int) ≥ 0)) (
  IX x34 1 1 fun (px45 : Addr) =>
  LD [.int .i64] px45 w7 fun (x46 : Int) =>
  IX x12 x46 1 fun (px47 : Addr) =>
  LD [.int .i64] px47 w7 fun (x48 : Int) =>
  cond (decide ((x48 : Int) < 0)) (
  IX x34 1 1 fun (px54 : Addr) =>
  LD [.int .i64] px54 w7 fun (x55 : Int) =>
  Calls Try.prog F.s_l1Has #[x1.v, .int .i64 x55] w7 (Ret [.at .bool] fun (x56 : Bool) w8 =>
  cond x56 (
  ∀ w9, Ext w8 w9 → w9.heap = w8.heap → ∃ (D9 : Nat → Prop),
  IX x34 1 1 fun (px60 : Addr) =>
  ¬ D9 px60.block ∧ (
  LD [.int .i64] px60 w9 fun (x61 : Int) =>
  Chg w9 w9 D9 ∧ (
  IX x34 0 1 fun (px64 : Addr) =>
  Chg w9 w9 D9 ∧ (
  LD [.int .i64] px64 w9 fun (x65 : Int) =>
  Chg w9 w9 D9 ∧ (
  IX x12 x65 1 fun (px66 : Addr) =>
  Chg w9 w9 D9 ∧ (
  LD [.int .i64] px66 w9 fun (x67 : Int) =>
  Chg w9 w9 D9 ∧ (
  Chg w9 w9 D9 ∧ (
  IX x12 x61 1 fun (px69 : Addr) =>
  ST px69 0 [.int .i64 (IntKind.i64.wrap (x67 + 1))] w9 fun w10 =>
  V_s_waDepths_k7 I12 m12 x7_2 x31 w7 true w10)))))))) (
  V_s_waDepths_k7 I12 m12 x7_2 x31 w7 x7_2 w8))) (
  V_s_waDepths_k7 I12 m12 x7_2 x31 w7 x7_2 w7)) (
  V_s_waDepths_k7 I12 m12 x7_2 x31 w7 x7_2 w7)) (
  I9 x7_2 w7 ∧ m9 x7_2 w7 < m9 x7 w6)) (
  Q x12 w6))

theorem C_s_waDepths {Q : Sl → World → Prop} {x0_0 : Int} {x0_1 : Sl} {x1 : Sl} {w : World} (h : V_s_waDepths Q x0_0 x0_1 x1 w) : Calls Try.prog F.s_waDepths #[.agg #[.int .i64 x0_0, x0_1.v], x1.v] w (Ret [.at .sl] Q) :=
  mkC (hint := hint) (ann := annOf [(3, ⟨[(15, .int .i64)], [6, 16, 17, 18, 19, 20, 21]⟩), (9, ⟨[(7, .bool)], [9, 27, 28, 29, 30, 31, 32, 33, 34, 35, 36, 37, 38, 39, 40, 41, 42, 43, 44, 45, 46, 47, 48, 49, 50, 51, 52, 53, 54, 55, 56, 57, 58, 59, 60, 61, 62, 63, 64, 65, 66, 67, 68, 69, 70]⟩), (12, ⟨[(7, .bool), (31, .int .i64)], [9, 32, 33, 34, 35, 36, 37, 38, 39, 40, 41, 42, 43, 44, 45, 46, 47, 48, 49, 50, 51, 52, 53, 54, 55, 56, 57, 58, 59, 60, 61, 62, 63, 64, 65, 66, 67, 68, 69, 70]⟩)]) (args := [.agg #[.int .i64 x0_0, x0_1.v], x1.v]) (rs := [.at .sl]) Try.func255 (by kernel_rfl) (by kernel_rfl) h

def V_s_waGcd (Q : Int → World → Prop) (a : Int) (b : Int) (w : World) : Prop :=
  ∃ (I1 : Int → Int → World → Prop) (m1 : Int → Int → World → Nat), I1 a b w ∧ ∀ (a_2 : Int) (b_2 : Int) w1, I1 a_2 b_2 w1 → ∀ _ _ _ _ _ _ : Value,
  cond (decide ((b_2 : Int) > 0)) (
  (b_2 : Int) ≠ 0 ∧ (
  ∀ w2, Ext w1 w2 →
  I1 b_2 (Int.tmod a_2 b_2) w2 ∧ m1 b_2 (Int.tmod a_2 b_2) w2 < m1 a_2 b_2 w1)) (
  Q a_2 w1)

theorem C_s_waGcd {Q : Int → World → Prop} {a : Int} {b : Int} {w : World} (h : V_s_waGcd Q a b w) : Calls Try.prog F.s_waGcd #[.int .i64 a, .int .i64 b] w (Ret [.at (.int .i64)] Q) :=
  mkC (hint := hint) (ann := annOf [(1, ⟨[(0, .int .i64), (1, .int .i64)], [5, 6, 7, 8, 9, 10]⟩)]) (args := [.int .i64 a, .int .i64 b]) (rs := [.at (.int .i64)]) Try.func256 (by kernel_rfl) (by kernel_rfl) h

def V_s_l1Abs (Q : Int → World → Prop) (n : Int) (w : World) : Prop :=
  Calls Try.prog F.s_l1Most #[.int .i64 n, .int .i64 (IntKind.i64.wrap (0 - n))] w (Ret [.at (.int .i64)] fun (x6 : Int) w1 =>
  Q x6 w1)

theorem C_s_l1Abs {Q : Int → World → Prop} {n : Int} {w : World} (h : V_s_l1Abs Q n w) : Calls Try.prog F.s_l1Abs #[.int .i64 n] w (Ret [.at (.int .i64)] Q) :=
  mkC (hint := hint) (ann := annOf []) (args := [.int .i64 n]) (rs := [.at (.int .i64)]) Try.func257 (by kernel_rfl) (by kernel_rfl) h

def V_s_waMay (Q : Sl → World → Prop) (p_0 : Int) (p_1 : Sl) (w : World) : Prop :=
  NEW T.t_i_WalkProblem #[.int .i64 p_0, p_1.v] w fun (p_p : Addr) w1 =>
  ∃ (I3 : Sl → Int → World → Prop) (m3 : Sl → Int → World → Nat), I3 (⟨none, 0, 0⟩) 0 w1 ∧ ∀ (out : Sl) (a : Int) w2, I3 out a w2 → ∀ _ _ _ _ _ _ _ _ _ _ _ _ : Value,
  LD [.int .i64] (p_p.add 0) w2 fun (x9 : Int) =>
  cond (decide ((a : Int) < x9)) (
  LD [.int .i64] (p_p.add 0) w2 fun (x15 : Int) =>
  RUN Try.prog (.at .sl) (Instr.makeSlice T.t_sl_bool (.int .i64 x15) (.int .i64 x15)) w2 fun (x16 : Sl) w3 =>
  RUN Try.prog (.at .sl) (Instr.buildSlice T.t_sl_sl_bool 1 #[(0, x16.v)]) w3 fun (x17 : Sl) w4 =>
  RUN Try.prog (.at .sl) (bsem .append #[T.t_sl_sl_bool, T.t_sl_sl_bool] T.t_sl_sl_bool #[out.v, x17.v]) w4 fun (x18 : Sl) w5 =>
  I3 x18 (IntKind.i64.wrap (a + 1)) w5 ∧ m3 x18 (IntKind.i64.wrap (a + 1)) w5 < m3 out a w2) (
  LD [.sl] (p_p.add 1) w2 fun (x20 : Sl) =>
  ∃ (I7 : Int → World → Prop) (m7 : Int → World → Nat), I7 0 w2 ∧ ∀ (x22 : Int) w6, I7 x22 w6 → ∀ _ _ _ _ _ _ _ _ _ _ _ _ _ _ _ : Value,
  cond (decide ((x22 : Int) < x20.len)) (
  IX x20 x22 1 fun (px24 : Addr) =>
  LD [.sl] px24 w6 fun (x25 : Sl) =>
  ∀ w7, Ext w6 w7 → w7.heap = w6.heap → ∃ (D7 : Nat → Prop),
  IX x25 0 1 fun (px28 : Addr) =>
  ¬ D7 px28.block ∧ (
  LD [.int .i64] px28 w7 fun (x29 : Int) =>
  IX out x29 1 fun (px30 : Addr) =>
  ¬ D7 px30.block ∧ (
  LD [.sl] px30 w7 fun (x31 : Sl) =>
  Chg w7 w7 D7 ∧ (
  IX x25 1 1 fun (px33 : Addr) =>
  Chg w7 w7 D7 ∧ (
  LD [.int .i64] px33 w7 fun (x34 : Int) =>
  Chg w7 w7 D7 ∧ (
  IX x31 x34 1 fun (px35 : Addr) =>
  ST px35 0 [.bool true] w7 fun w8 =>
  I7 (IntKind.i64.wrap (x22 + 1)) w8 ∧ m7 (IntKind.i64.wrap (x22 + 1)) w8 < m7 x22 w6)))))) (
  Q out w6))

theorem C_s_waMay {Q : Sl → World → Prop} {p_0 : Int} {p_1 : Sl} {w : World} (h : V_s_waMay Q p_0 p_1 w) : Calls Try.prog F.s_waMay #[.agg #[.int .i64 p_0, p_1.v]] w (Ret [.at .sl] Q) :=
  mkC (hint := hint) (ann := annOf [(3, ⟨[(3, .sl), (4, .int .i64)], [7, 8, 9, 10, 11, 12, 13, 14, 15, 16, 17, 18]⟩), (7, ⟨[(22, .int .i64)], [6, 23, 24, 25, 26, 27, 28, 29, 30, 31, 32, 33, 34, 35, 36]⟩)]) (args := [.agg #[.int .i64 p_0, p_1.v]]) (rs := [.at .sl]) Try.func258 (by kernel_rfl) (by kernel_rfl) h

def V_s_waTimes (Q : Sl → World → Prop) (a : Sl) (b : Sl) (w : World) : Prop :=
  ∃ (I3 : Sl → Int → World → Prop) (m3 : Sl → Int → World → Nat), I3 (⟨none, 0, 0⟩) 0 w ∧ ∀ (out : Sl) (x14 : Int) w1, I3 out x14 w1 → ∀ _ _ _ _ _ _ _ _ _ _ _ _ _ _ _ _ _ _ _ _ _ _ _ _ _ _ _ _ _ _ _ _ _ _ _ _ _ _ _ _ _ _ _ _ _ _ _ _ _ : Value,
  cond (decide ((x14 : Int) < a.len)) (
  IX a x14 1 fun (px16 : Addr) =>
  LD [.sl] px16 w1 fun (x17 : Sl) =>
  RUN Try.prog (.at .sl) (Instr.makeSlice T.t_sl_bool (.int .i64 x17.len) (.int .i64 x17.len)) w1 fun (x20 : Sl) w2 =>
  ∃ (I7 : Int → World → Prop) (m7 : Int → World → Nat), I7 0 w2 ∧ ∀ (x23 : Int) w3, I7 x23 w3 → ∀ _ _ _ _ _ _ _ _ _ _ _ _ _ _ _ _ _ _ _ _ _ _ _ _ _ _ _ _ _ _ _ _ _ : Value,
  cond (decide ((x23 : Int) < x17.len)) (
  IX x17 x23 1 fun (px26 : Addr) =>
  LD [.bool] px26 w3 fun (x27 : Bool) =>
  ∃ (I10 : Int → World → Prop) (m10 : Int → World → Nat), I10 0 w3 ∧ ∀ (x30 : Int) w4, I10 x30 w4 → ∀ _ _ _ _ _ _ _ _ _ _ _ _ _ _ _ _ _ _ _ _ _ _ _ : Value,
  cond (decide ((x30 : Int) < x20.len)) (
  IX x20 x30 1 fun (px37 : Addr) =>
  LD [.bool] px37 w4 fun (x38 : Bool) =>
  cond x38 (
  IX x20 x30 1 fun (px51 : Addr) =>
  ST px51 0 [.bool true] w4 fun w5 =>
  I10 (IntKind.i64.wrap (x30 + 1)) w5 ∧ m10 (IntKind.i64.wrap (x30 + 1)) w5 < m10 x30 w4) (
  cond x27 (
  IX b x23 1 fun (px44 : Addr) =>
  LD [.sl] px44 w4 fun (x45 : Sl) =>
  IX x45 x30 1 fun (px47 : Addr) =>
  LD [.bool] px47 w4 fun (x48 : Bool) =>
  IX x20 x30 1 fun (px51_2 : Addr) =>
  ST px51_2 0 [.bool x48] w4 fun w6 =>
  I10 (IntKind.i64.wrap (x30 + 1)) w6 ∧ m10 (IntKind.i64.wrap (x30 + 1)) w6 < m10 x30 w4) (
  IX x20 x30 1 fun (px51_3 : Addr) =>
  ST px51_3 0 [.bool false] w4 fun w7 =>
  I10 (IntKind.i64.wrap (x30 + 1)) w7 ∧ m10 (IntKind.i64.wrap (x30 + 1)) w7 < m10 x30 w4))) (
  I7 (IntKind.i64.wrap (x23 + 1)) w4 ∧ m7 (IntKind.i64.wrap (x23 + 1)) w4 < m7 x23 w3)) (
  RUN Try.prog (.at .sl) (Instr.buildSlice T.t_sl_sl_bool 1 #[(0, x20.v)]) w3 fun (x56 : Sl) w8 =>
  RUN Try.prog (.at .sl) (bsem .append #[T.t_sl_sl_bool, T.t_sl_sl_bool] T.t_sl_sl_bool #[out.v, x56.v]) w8 fun (x57 : Sl) w9 =>
  I3 x57 (IntKind.i64.wrap (x14 + 1)) w9 ∧ m3 x57 (IntKind.i64.wrap (x14 + 1)) w9 < m3 out x14 w1)) (
  Q out w1)

theorem C_s_waTimes {Q : Sl → World → Prop} {a : Sl} {b : Sl} {w : World} (h : V_s_waTimes Q a b w) : Calls Try.prog F.s_waTimes #[a.v, b.v] w (Ret [.at .sl] Q) :=
  mkC (hint := hint) (ann := annOf [(3, ⟨[(5, .sl), (14, .int .i64)], [7, 8, 9, 10, 11, 15, 16, 17, 18, 19, 20, 21, 22, 23, 24, 25, 26, 27, 28, 29, 30, 31, 32, 33, 34, 35, 36, 37, 38, 39, 40, 41, 42, 43, 44, 45, 46, 47, 48, 49, 50, 51, 52, 53, 54, 55, 56, 57, 58]⟩), (7, ⟨[(23, .int .i64)], [9, 10, 11, 24, 25, 26, 27, 28, 29, 30, 31, 32, 33, 34, 35, 36, 37, 38, 39, 40, 41, 42, 43, 44, 45, 46, 47, 48, 49, 50, 51, 52, 53]⟩), (10, ⟨[(30, .int .i64)], [11, 31, 32, 33, 34, 35, 36, 37, 38, 39, 40, 41, 42, 43, 44, 45, 46, 47, 48, 49, 50, 51, 52]⟩)]) (args := [a.v, b.v]) (rs := [.at .sl]) Try.func259 (by kernel_rfl) (by kernel_rfl) h

end Go.Proofs.Ytoeaoinedidbiaa
