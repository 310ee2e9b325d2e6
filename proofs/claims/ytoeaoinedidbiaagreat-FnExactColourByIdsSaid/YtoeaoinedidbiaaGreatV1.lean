/- What each function's code computes to. Printed by a program. -/
import Derived.Test.YtoeaoinedidbiaaGreatNames
namespace Go.Proofs.YtoeaoinedidbiaaGreat
open Go.GX Go.RowKit
set_option linter.unusedVariables false
set_option maxRecDepth 100000

def V_s_clProper (Q : Bool → World → Prop) (n_0 : Sl) (n_1 : Sl) (n_2 : Sl) (l : Sl) (w : World) : Prop :=
  NEW T.t_i_Network #[n_0.v, n_1.v, n_2.v] w fun (p_n : Addr) w1 =>
  LD [.sl] (p_n.add 0) w1 fun (x11 : Sl) =>
  cond ((l.len : Int) != x11.len) (
  Q false w1) (
  Calls Tryz.prog F.s_l1All #[l.v, .int .i64 0, .int .i64 1000000000000] w1 (Ret [.at .bool] fun (x16 : Bool) w2 =>
  cond (!x16) (
  Q false w2) (
  LD [.sl, .sl, .sl] p_n w2 fun (x20_0_2 : Sl) (x20_1_2 : Sl) (x20_2_2 : Sl) =>
  Calls Tryz.prog F.s_imEdge #[.agg #[x20_0_2.v, x20_1_2.v, x20_2_2.v], l.v] w2 (Ret [.at (.int .i64), .at (.int .i64), .at .bool] fun (x22_0_2 : Int) (x22_1_2 : Int) (x22_2_2 : Bool) w4 =>
  Q (!x22_2_2) w4))))

theorem C_s_clProper {Q : Bool → World → Prop} {n_0 : Sl} {n_1 : Sl} {n_2 : Sl} {l : Sl} {w : World} (h : V_s_clProper Q n_0 n_1 n_2 l w) : Calls Tryz.prog F.s_clProper #[.agg #[n_0.v, n_1.v, n_2.v], l.v] w (Ret [.at .bool] Q) :=
  mkC (hint := hint) (ann := annOf []) (args := [.agg #[n_0.v, n_1.v, n_2.v], l.v]) (rs := [.at .bool]) Tryz.func34 (by kernel_rfl) (by kernel_rfl) h

def V_s_meMost (Q : Int → World → Prop) (l : Sl) (w : World) : Prop :=
  ∃ (I3 : Int → Int → World → Prop) (m3 : Int → Int → World → Nat), I3 0 0 w ∧ ∀ (out : Int) (x8 : Int) w1, I3 out x8 w1 → ∀ _ _ _ _ _ _ _ _ : Value,
  cond (decide ((x8 : Int) < l.len)) (
  IX l x8 1 fun (px10 : Addr) =>
  LD [.int .i64] px10 w1 fun (x11 : Int) =>
  Calls Tryz.prog F.s_l1Most #[.int .i64 out, .int .i64 x11] w1 (Ret [.at (.int .i64)] fun (x14 : Int) w2 =>
  I3 x14 (IntKind.i64.wrap (x8 + 1)) w2 ∧ m3 x14 (IntKind.i64.wrap (x8 + 1)) w2 < m3 out x8 w1)) (
  Q out w1)

theorem C_s_meMost {Q : Int → World → Prop} {l : Sl} {w : World} (h : V_s_meMost Q l w) : Calls Tryz.prog F.s_meMost #[l.v] w (Ret [.at (.int .i64)] Q) :=
  mkC (hint := hint) (ann := annOf [(3, ⟨[(3, .int .i64), (8, .int .i64)], [5, 9, 10, 11, 12, 13, 14, 15]⟩)]) (args := [l.v]) (rs := [.at (.int .i64)]) Tryz.func35 (by kernel_rfl) (by kernel_rfl) h

def V_s_neDegrees (Q : Sl → World → Prop) (n_0 : Sl) (n_1 : Sl) (n_2 : Sl) (w : World) : Prop :=
  NEW T.t_i_Network #[n_0.v, n_1.v, n_2.v] w fun (p_n : Addr) w1 =>
  LD [.sl] (p_n.add 0) w1 fun (x7 : Sl) =>
  ∃ (I3 : Sl → Int → World → Prop) (m3 : Sl → Int → World → Nat), I3 (⟨none, 0, 0⟩) 0 w1 ∧ ∀ (out : Sl) (x9 : Int) w2, I3 out x9 w2 → ∀ _ _ _ _ _ _ _ _ _ _ : Value,
  cond (decide ((x9 : Int) < x7.len)) (
  IX x7 x9 1 fun (px11 : Addr) =>
  LD [.sl] px11 w2 fun (x12 : Sl) =>
  RUN Tryz.prog (.at .sl) (Instr.buildSlice T.t_sl_int 1 #[(0, .int .i64 x12.len)]) w2 fun (x16 : Sl) w3 =>
  RUN Tryz.prog (.at .sl) (bsem .append #[T.t_sl_int, T.t_sl_int] T.t_sl_int #[out.v, x16.v]) w3 fun (x17 : Sl) w4 =>
  I3 x17 (IntKind.i64.wrap (x9 + 1)) w4 ∧ m3 x17 (IntKind.i64.wrap (x9 + 1)) w4 < m3 out x9 w2) (
  Q out w2)

theorem C_s_neDegrees {Q : Sl → World → Prop} {n_0 : Sl} {n_1 : Sl} {n_2 : Sl} {w : World} (h : V_s_neDegrees Q n_0 n_1 n_2 w) : Calls Tryz.prog F.s_neDegrees #[.agg #[n_0.v, n_1.v, n_2.v]] w (Ret [.at .sl] Q) :=
  mkC (hint := hint) (ann := annOf [(3, ⟨[(3, .sl), (9, .int .i64)], [5, 10, 11, 12, 13, 14, 15, 16, 17, 18]⟩)]) (args := [.agg #[n_0.v, n_1.v, n_2.v]]) (rs := [.at .sl]) Tryz.func36 (by kernel_rfl) (by kernel_rfl) h

def V_s_clParameters (Q : Int → Int → World → Prop) (k : Int) (a : Int) (w : World) : Prop :=
  ∃ (I3 : Int → World → Prop) (m3 : Int → World → Nat), I3 2 w ∧ ∀ (q : Int) w1, I3 q w1 → ∀ _ _ _ _ _ _ _ _ _ _ _ _ _ _ _ _ _ _ _ _ _ _ _ : Value,
  ∃ (I4 : Int → World → Prop) (m4 : Int → World → Nat), I4 1 w1 ∧ ∀ (d : Int) w2, I4 d w2 → ∀ _ _ _ _ _ _ _ _ _ _ _ _ _ _ _ _ _ _ _ : Value,
  cond (decide (((IntKind.i64.wrap (a * d)) : Int) < q)) (
  cond (decide ((d : Int) ≤ 60)) (
  Calls Tryz.prog F.s_clPower #[.int .i64 q, .int .i64 d, .int .i64 k] w2 (Ret [.at .bool] fun (x25_2 : Bool) w4 =>
  cond x25_2 (
  Q q d w4) (
  I4 (IntKind.i64.wrap (d + 1)) w4 ∧ m4 (IntKind.i64.wrap (d + 1)) w4 < m4 d w2))) (
  Calls Tryz.prog F.s_nuNext #[.int .i64 (IntKind.i64.wrap (q + 1))] w2 (Ret [.at (.int .i64)] fun (x10_3 : Int) w7 =>
  I3 x10_3 w7 ∧ m3 x10_3 w7 < m3 q w1))) (
  Calls Tryz.prog F.s_nuNext #[.int .i64 (IntKind.i64.wrap (q + 1))] w2 (Ret [.at (.int .i64)] fun (x10_4 : Int) w8 =>
  I3 x10_4 w8 ∧ m3 x10_4 w8 < m3 q w1))

theorem C_s_clParameters {Q : Int → Int → World → Prop} {k : Int} {a : Int} {w : World} (h : V_s_clParameters Q k a w) : Calls Tryz.prog F.s_clParameters #[.int .i64 k, .int .i64 a] w (Ret [.at (.int .i64), .at (.int .i64)] Q) :=
  mkC (hint := hint) (ann := annOf [(3, ⟨[(6, .int .i64)], [4, 5, 7, 8, 9, 10, 11, 12, 13, 14, 15, 16, 17, 18, 19, 20, 21, 22, 23, 24, 25, 26, 27]⟩), (4, ⟨[(7, .int .i64)], [4, 5, 11, 12, 13, 14, 15, 16, 17, 18, 19, 20, 21, 22, 23, 24, 25, 26, 27]⟩)]) (args := [.int .i64 k, .int .i64 a]) (rs := [.at (.int .i64), .at (.int .i64)]) Tryz.func37 (by kernel_rfl) (by kernel_rfl) h

def V_s_clStep (Q : Sl → World → Prop) (n_0 : Sl) (n_1 : Sl) (n_2 : Sl) (l : Sl) (q : Int) (d : Int) (w : World) : Prop :=
  NEW T.t_i_Network #[n_0.v, n_1.v, n_2.v] w fun (p_n : Addr) w1 =>
  LD [.sl] (p_n.add 0) w1 fun (x12 : Sl) =>
  ∃ (I3 : Sl → Int → World → Prop) (m3 : Sl → Int → World → Nat), I3 (⟨none, 0, 0⟩) 0 w1 ∧ ∀ (out : Sl) (x14 : Int) w2, I3 out x14 w2 → ∀ _ _ _ _ _ _ _ _ _ _ _ _ _ _ _ _ _ _ _ : Value,
  cond (decide ((x14 : Int) < x12.len)) (
  ∀ w3, Ext w2 w3 → w3.heap = w2.heap → ∃ (D3 : Nat → Prop),
  IX l x14 1 fun (px22 : Addr) =>
  ¬ D3 px22.block ∧ (
  LD [.int .i64] px22 w3 fun (x23 : Int) =>
  ¬ D3 p_n.block ∧ (
  LD [.sl, .sl, .sl] p_n w3 fun (x25_0 : Sl) (x25_1 : Sl) (x25_2 : Sl) =>
  Chg w3 w3 D3 ∧ (
  Calls Tryz.prog F.s_neNear #[.agg #[x25_0.v, x25_1.v, x25_2.v], .int .i64 x14] w3 (Ret [.at .sl] fun (x27 : Sl) w4 =>
  Chg w3 w4 D3 ∧ (
  Calls Tryz.prog F.s_coThrough #[l.v, x27.v] w4 (Ret [.at .sl] fun (x28 : Sl) w5 =>
  Chg w3 w5 D3 ∧ (
  Calls Tryz.prog F.s_clTake #[.int .i64 q, .int .i64 d, .int .i64 x23, x28.v] w5 (Ret [.at (.int .i64)] fun (x29 : Int) w6 =>
  Chg w3 w6 D3 ∧ (
  RUN Tryz.prog (.at .sl) (Instr.buildSlice T.t_sl_int 1 #[(0, .int .i64 x29)]) w6 fun (x30 : Sl) w7 =>
  Chg w3 w7 D3 ∧ (
  RUN Tryz.prog (.at .sl) (bsem .append #[T.t_sl_int, T.t_sl_int] T.t_sl_int #[out.v, x30.v]) w7 fun (x31 : Sl) w8 =>
  Chg w3 w8 D3 ∧ (
  I3 x31 (IntKind.i64.wrap (x14 + 1)) w8 ∧ m3 x31 (IntKind.i64.wrap (x14 + 1)) w8 < m3 out x14 w2)))))))))))) (
  Q out w2)

theorem C_s_clStep {Q : Sl → World → Prop} {n_0 : Sl} {n_1 : Sl} {n_2 : Sl} {l : Sl} {q : Int} {d : Int} {w : World} (h : V_s_clStep Q n_0 n_1 n_2 l q d w) : Calls Tryz.prog F.s_clStep #[.agg #[n_0.v, n_1.v, n_2.v], l.v, .int .i64 q, .int .i64 d] w (Ret [.at .sl] Q) :=
  mkC (hint := hint) (ann := annOf [(3, ⟨[(9, .sl), (14, .int .i64)], [10, 15, 16, 17, 18, 19, 20, 21, 22, 23, 24, 25, 26, 27, 28, 29, 30, 31, 32]⟩)]) (args := [.agg #[n_0.v, n_1.v, n_2.v], l.v, .int .i64 q, .int .i64 d]) (rs := [.at .sl]) Tryz.func38 (by kernel_rfl) (by kernel_rfl) h

def V_s_clHalve (Q : Sl → Int → World → Prop) (x0_0 : Sl) (x0_1 : Sl) (x0_2 : Sl) (x1 : Sl) (x2 : Int) (x3 : Int) (w : World) : Prop :=
  NEW T.t_i_Network #[x0_0.v, x0_1.v, x0_2.v] w fun (px4 : Addr) w1 =>
  ∃ (I3 : Sl → Int → World → Prop) (m3 : Sl → Int → World → Nat), I3 x1 0 w1 ∧ ∀ (x1_2 : Sl) (x11 : Int) w2, I3 x1_2 x11 w2 → ∀ _ _ _ _ _ _ _ _ _ _ _ _ _ _ _ _ _ _ _ _ _ _ _ _ _ _ _ _ _ _ _ _ _ _ _ _ _ _ _ _ _ _ _ _ _ _ _ _ _ _ _ _ _ _ _ _ _ _ _ _ _ _ _ _ : Value,
  cond (decide ((x11 : Int) ≤ x3)) (
  Calls Tryz.prog F.s_l1Own #[x1_2.v] w2 (Ret [.at .sl] fun (x30 : Sl) w3 =>
  ∃ (I7 : Int → World → Prop) (m7 : Int → World → Nat), I7 0 w3 ∧ ∀ (x33 : Int) w4, I7 x33 w4 → ∀ _ _ _ _ _ _ _ _ _ _ _ _ _ _ _ _ _ _ _ _ _ _ _ _ _ _ _ _ _ _ _ _ _ _ _ _ _ _ _ _ _ _ _ _ _ _ _ _ _ _ _ _ : Value,
  cond (decide ((x33 : Int) < x1_2.len)) (
  IX x1_2 x33 1 fun (px36 : Addr) =>
  LD [.int .i64] px36 w4 fun (x37 : Int) =>
  ((IntKind.i64.wrap (2 * (IntKind.i64.wrap (x3 + 1)))) : Int) ≠ 0 ∧ (
  cond (((Int.tmod x37 (IntKind.i64.wrap (2 * (IntKind.i64.wrap (x3 + 1))))) : Int) != (IntKind.i64.wrap ((IntKind.i64.wrap (x3 + 1)) + x11))) (
  I7 (IntKind.i64.wrap (x33 + 1)) w4 ∧ m7 (IntKind.i64.wrap (x33 + 1)) w4 < m7 x33 w4) (
  LD [.sl, .sl, .sl] px4 w4 fun (x47_0 : Sl) (x47_1 : Sl) (x47_2 : Sl) =>
  Calls Tryz.prog F.s_neNear #[.agg #[x47_0.v, x47_1.v, x47_2.v], .int .i64 x33] w4 (Ret [.at .sl] fun (x49 : Sl) w5 =>
  Calls Tryz.prog F.s_coThrough #[x1_2.v, x49.v] w5 (Ret [.at .sl] fun (x50 : Sl) w6 =>
  ∃ (I12 : Sl → Int → World → Prop) (m12 : Sl → Int → World → Nat), I12 (⟨none, 0, 0⟩) 0 w6 ∧ ∀ (x15 : Sl) (x52 : Int) w7, I12 x15 x52 w7 → ∀ _ _ _ _ _ _ _ _ _ _ _ _ _ _ _ _ _ _ : Value,
  cond (decide ((x52 : Int) < x50.len)) (
  IX x50 x52 1 fun (px54 : Addr) =>
  LD [.int .i64] px54 w7 fun (x55 : Int) =>
  ((IntKind.i64.wrap (2 * (IntKind.i64.wrap (x3 + 1)))) : Int) ≠ 0 ∧ (
  ((IntKind.i64.wrap (2 * (IntKind.i64.wrap (x3 + 1)))) : Int) ≠ 0 ∧ (
  ∀ w8, Ext w7 w8 →
  cond (((IntKind.i64.wrap (Int.tdiv x55 (IntKind.i64.wrap (2 * (IntKind.i64.wrap (x3 + 1)))))) : Int) == (IntKind.i64.wrap (Int.tdiv x37 (IntKind.i64.wrap (2 * (IntKind.i64.wrap (x3 + 1))))))) (
  ((IntKind.i64.wrap (2 * (IntKind.i64.wrap (x3 + 1)))) : Int) ≠ 0 ∧ (
  RUN Tryz.prog (.at .sl) (Instr.buildSlice T.t_sl_int 1 #[(0, .int .i64 (Int.tmod x55 (IntKind.i64.wrap (2 * (IntKind.i64.wrap (x3 + 1))))))]) w8 fun (x67 : Sl) w9 =>
  RUN Tryz.prog (.at .sl) (bsem .append #[T.t_sl_int, T.t_sl_int] T.t_sl_int #[x15.v, x67.v]) w9 fun (x68 : Sl) w10 =>
  I12 x68 (IntKind.i64.wrap (x52 + 1)) w10 ∧ m12 x68 (IntKind.i64.wrap (x52 + 1)) w10 < m12 x15 x52 w7)) (
  I12 x15 (IntKind.i64.wrap (x52 + 1)) w8 ∧ m12 x15 (IntKind.i64.wrap (x52 + 1)) w8 < m12 x15 x52 w7)))) (
  ∀ w11, Ext w7 w11 → w11.heap = w7.heap → ∃ (D11 : Nat → Prop),
  ((IntKind.i64.wrap (2 * (IntKind.i64.wrap (x3 + 1)))) : Int) ≠ 0 ∧ (
  Chg w11 w11 D11 ∧ (
  Calls Tryz.prog F.s_clLeast #[x15.v] w11 (Ret [.at (.int .i64)] fun (x78 : Int) w12 =>
  Chg w11 w12 D11 ∧ (
  Chg w11 w12 D11 ∧ (
  IX x30 x33 1 fun (px80 : Addr) =>
  ST px80 0 [.int .i64 (IntKind.i64.wrap ((IntKind.i64.wrap ((IntKind.i64.wrap (Int.tdiv x37 (IntKind.i64.wrap (2 * (IntKind.i64.wrap (x3 + 1)))))) * (IntKind.i64.wrap (2 * (IntKind.i64.wrap (x3 + 1)))))) + x78))] w12 fun w13 =>
  I7 (IntKind.i64.wrap (x33 + 1)) w13 ∧ m7 (IntKind.i64.wrap (x33 + 1)) w13 < m7 x33 w4))))))))))) (
  I3 x30 (IntKind.i64.wrap (x11 + 1)) w4 ∧ m3 x30 (IntKind.i64.wrap (x11 + 1)) w4 < m3 x1_2 x11 w2))) (
  ∃ (I22 : Sl → Int → World → Prop) (m22 : Sl → Int → World → Nat), I22 (⟨none, 0, 0⟩) 0 w2 ∧ ∀ (x18 : Sl) (x85 : Int) w14, I22 x18 x85 w14 → ∀ _ _ _ _ _ _ _ _ _ _ _ _ _ _ _ _ _ _ : Value,
  cond (decide ((x85 : Int) < x1_2.len)) (
  IX x1_2 x85 1 fun (px87 : Addr) =>
  LD [.int .i64] px87 w14 fun (x88 : Int) =>
  ∀ w15, Ext w14 w15 → w15.heap = w14.heap → ∃ (D15 : Nat → Prop),
  ((IntKind.i64.wrap (2 * (IntKind.i64.wrap (x3 + 1)))) : Int) ≠ 0 ∧ (
  Chg w15 w15 D15 ∧ (
  ((IntKind.i64.wrap (2 * (IntKind.i64.wrap (x3 + 1)))) : Int) ≠ 0 ∧ (
  Chg w15 w15 D15 ∧ (
  Chg w15 w15 D15 ∧ (
  RUN Tryz.prog (.at .sl) (Instr.buildSlice T.t_sl_int 1 #[(0, .int .i64 (IntKind.i64.wrap ((IntKind.i64.wrap ((IntKind.i64.wrap (Int.tdiv x88 (IntKind.i64.wrap (2 * (IntKind.i64.wrap (x3 + 1)))))) * (IntKind.i64.wrap (x3 + 1)))) + (Int.tmod x88 (IntKind.i64.wrap (2 * (IntKind.i64.wrap (x3 + 1))))))))]) w15 fun (x100 : Sl) w16 =>
  Chg w15 w16 D15 ∧ (
  RUN Tryz.prog (.at .sl) (bsem .append #[T.t_sl_int, T.t_sl_int] T.t_sl_int #[x18.v, x100.v]) w16 fun (x101 : Sl) w17 =>
  Chg w15 w17 D15 ∧ (
  I22 x101 (IntKind.i64.wrap (x85 + 1)) w17 ∧ m22 x101 (IntKind.i64.wrap (x85 + 1)) w17 < m22 x18 x85 w14)))))))) (
  ((IntKind.i64.wrap (2 * (IntKind.i64.wrap (x3 + 1)))) : Int) ≠ 0 ∧ (
  ∀ w18, Ext w14 w18 →
  Q x18 (IntKind.i64.wrap ((IntKind.i64.wrap (Int.tdiv (IntKind.i64.wrap ((IntKind.i64.wrap (x2 + (IntKind.i64.wrap (2 * (IntKind.i64.wrap (x3 + 1)))))) - 1)) (IntKind.i64.wrap (2 * (IntKind.i64.wrap (x3 + 1)))))) * (IntKind.i64.wrap (x3 + 1)))) w18)))

theorem C_s_clHalve {Q : Sl → Int → World → Prop} {x0_0 : Sl} {x0_1 : Sl} {x0_2 : Sl} {x1 : Sl} {x2 : Int} {x3 : Int} {w : World} (h : V_s_clHalve Q x0_0 x0_1 x0_2 x1 x2 x3 w) : Calls Tryz.prog F.s_clHalve #[.agg #[x0_0.v, x0_1.v, x0_2.v], x1.v, .int .i64 x2, .int .i64 x3] w (Ret [.at .sl, .at (.int .i64)] Q) :=
  mkC (hint := hint) (ann := annOf [(3, ⟨[(1, .sl), (11, .int .i64)], [12, 13, 14, 15, 17, 24, 25, 26, 27, 28, 29, 30, 31, 32, 33, 34, 35, 36, 37, 38, 39, 40, 41, 42, 43, 44, 45, 46, 47, 48, 49, 50, 51, 52, 53, 54, 55, 56, 57, 58, 59, 60, 61, 62, 63, 64, 65, 66, 67, 68, 69, 70, 71, 72, 73, 74, 75, 76, 77, 78, 79, 80, 81, 82]⟩), (7, ⟨[(33, .int .i64)], [13, 14, 15, 17, 34, 35, 36, 37, 38, 39, 40, 41, 42, 43, 44, 45, 46, 47, 48, 49, 50, 51, 52, 53, 54, 55, 56, 57, 58, 59, 60, 61, 62, 63, 64, 65, 66, 67, 68, 69, 70, 71, 72, 73, 74, 75, 76, 77, 78, 79, 80, 81]⟩), (12, ⟨[(15, .sl), (52, .int .i64)], [17, 53, 54, 55, 56, 57, 58, 59, 60, 61, 62, 63, 64, 65, 66, 67, 68, 69]⟩), (22, ⟨[(18, .sl), (85, .int .i64)], [20, 86, 87, 88, 89, 90, 91, 92, 93, 94, 95, 96, 97, 98, 99, 100, 101, 102]⟩)]) (args := [.agg #[x0_0.v, x0_1.v, x0_2.v], x1.v, .int .i64 x2, .int .i64 x3]) (rs := [.at .sl, .at (.int .i64)]) Tryz.func39 (by kernel_rfl) (by kernel_rfl) h

def V_s_clGreedy (Q : Sl → Int → World → Prop) (n_0 : Sl) (n_1 : Sl) (n_2 : Sl) (l : Sl) (k : Int) (a : Int) (w : World) : Prop :=
  NEW T.t_i_Network #[n_0.v, n_1.v, n_2.v] w fun (p_n : Addr) w1 =>
  Calls Tryz.prog F.s_l1Own #[l.v] w1 (Ret [.at .sl] fun (x12 : Sl) w2 =>
  Calls Tryz.prog F.s_meMost #[x12.v] w2 (Ret [.at (.int .i64)] fun (x14 : Int) w3 =>
  ∃ (I3 : Sl → Int → World → Prop) (m3 : Sl → Int → World → Nat), I3 x12 x14 w3 ∧ ∀ (l_2 : Sl) (c : Int) w4, I3 l_2 c w4 → ∀ _ _ _ _ _ _ _ _ _ : Value,
  cond (decide ((c : Int) > a)) (
  LD [.sl, .sl, .sl] p_n w4 fun (x20_0 : Sl) (x20_1 : Sl) (x20_2 : Sl) =>
  Calls Tryz.prog F.s_clDrop #[.agg #[x20_0.v, x20_1.v, x20_2.v], l_2.v, .int .i64 c] w4 (Ret [.at .sl] fun (x23 : Sl) w5 =>
  Calls Tryz.prog F.s_meMost #[x23.v] w5 (Ret [.at (.int .i64)] fun (x19 : Int) w6 =>
  I3 x23 x19 w6 ∧ m3 x23 x19 w6 < m3 l_2 c w4))) (
  Calls Tryz.prog F.s_l1Most #[.int .i64 (IntKind.i64.wrap ((IntKind.i64.wrap (k - a)) - 1)), .int .i64 0] w4 (Ret [.at (.int .i64)] fun (x29 : Int) w7 =>
  Q l_2 x29 w7))))

theorem C_s_clGreedy {Q : Sl → Int → World → Prop} {n_0 : Sl} {n_1 : Sl} {n_2 : Sl} {l : Sl} {k : Int} {a : Int} {w : World} (h : V_s_clGreedy Q n_0 n_1 n_2 l k a w) : Calls Tryz.prog F.s_clGreedy #[.agg #[n_0.v, n_1.v, n_2.v], l.v, .int .i64 k, .int .i64 a] w (Ret [.at .sl, .at (.int .i64)] Q) :=
  mkC (hint := hint) (ann := annOf [(3, ⟨[(1, .sl), (10, .int .i64)], [15, 16, 17, 18, 19, 20, 21, 22, 23]⟩)]) (args := [.agg #[n_0.v, n_1.v, n_2.v], l.v, .int .i64 k, .int .i64 a]) (rs := [.at .sl, .at (.int .i64)]) Tryz.func40 (by kernel_rfl) (by kernel_rfl) h

def V_l_toEndS (Q : Sl → World → Prop) (a : Sl) (w : World) : Prop :=
  RUN Tryz.prog (.at .sl) (Instr.makeSlice T.t_sl_i_End (.int .i64 a.len) (.int .i64 a.len)) w fun (x7 : Sl) w1 =>
  ∃ (I3 : Int → World → Prop) (m3 : Int → World → Nat), I3 0 w1 ∧ ∀ (i : Int) w2, I3 i w2 → ∀ _ _ _ _ _ _ _ _ _ _ _ _ _ _ : Value,
  cond (decide ((i : Int) < a.len)) (
  IX a i 2 fun (px18 : Addr) =>
  LD [.int .i64, .int .i64] px18 w2 fun (x19_0 : Int) (x19_1 : Int) =>
  Calls Tryz.prog F.l_toEnd #[.agg #[.int .i64 x19_0, .int .i64 x19_1]] w2 (Ret [.agg [.int .i64, .int .i64]] fun (x20_0 : Int) (x20_1 : Int) w3 =>
  IX x7 i 2 fun (px21 : Addr) =>
  ST px21 0 [.int .i64 x20_0, .int .i64 x20_1] w3 fun w4 =>
  I3 (IntKind.i64.wrap (i + 1)) w4 ∧ m3 (IntKind.i64.wrap (i + 1)) w4 < m3 i w2)) (
  Q x7 w2)

theorem C_l_toEndS {Q : Sl → World → Prop} {a : Sl} {w : World} (h : V_l_toEndS Q a w) : Calls Tryz.prog F.l_toEndS #[a.v] w (Ret [.at .sl] Q) :=
  mkC (hint := hint) (ann := annOf [(3, ⟨[(4, .int .i64)], [8, 9, 10, 11, 12, 13, 14, 15, 16, 17, 18, 19, 20, 21]⟩)]) (args := [a.v]) (rs := [.at .sl]) Tryz.func41 (by kernel_rfl) (by kernel_rfl) h

def V_i_within (Q : Bool → World → Prop) (n : Int) (low : Int) (high : Int) (w : World) : Prop :=
  cond (decide ((low : Int) ≤ n)) (
  Q (decide ((n : Int) ≤ high)) w) (
  Q false w)

theorem C_i_within {Q : Bool → World → Prop} {n : Int} {low : Int} {high : Int} {w : World} (h : V_i_within Q n low high w) : Calls Tryz.prog F.i_within #[.int .i64 n, .int .i64 low, .int .i64 high] w (Ret [.at .bool] Q) :=
  mkC (hint := hint) (ann := annOf []) (args := [.int .i64 n, .int .i64 low, .int .i64 high]) (rs := [.at .bool]) Tryz.func42 (by kernel_rfl) (by kernel_rfl) h

def V_i_idsOk (Q : Bool → World → Prop) (ids : Sl) (nodes : Int) (w : World) : Prop :=
  cond ((ids.len : Int) == 0) (
  Q true w) (
  Calls Tryz.prog F.slices_Clone_sl_int_int #[ids.v] w (Ret [.at .sl] fun (x10 : Sl) w1 =>
  Calls Tryz.prog F.slices_Sort_sl_int_int #[x10.v] w1 (Ret [] fun w2 =>
  cond ((ids.len : Int) == nodes) (
  Calls Tryz.prog F.i_increasing #[x10.v, .int .i64 1, .int .i64 999999] w2 (Ret [.at .bool] fun (x19 : Bool) w3 =>
  Q x19 w3)) (
  Q false w2))))

theorem C_i_idsOk {Q : Bool → World → Prop} {ids : Sl} {nodes : Int} {w : World} (h : V_i_idsOk Q ids nodes w) : Calls Tryz.prog F.i_idsOk #[ids.v, .int .i64 nodes] w (Ret [.at .bool] Q) :=
  mkC (hint := hint) (ann := annOf []) (args := [ids.v, .int .i64 nodes]) (rs := [.at .bool]) Tryz.func43 (by kernel_rfl) (by kernel_rfl) h

def V_i_inputsOk (Q : Bool → World → Prop) (inputs : Sl) (nodes : Int) (w : World) : Prop :=
  cond ((inputs.len : Int) == nodes) (
  Calls Tryz.prog F.i_allWithin #[inputs.v, .int .i64 0, .int .i64 9] w (Ret [.at .bool] fun (x11 : Bool) w1 =>
  Q x11 w1)) (
  Q false w)

theorem C_i_inputsOk {Q : Bool → World → Prop} {inputs : Sl} {nodes : Int} {w : World} (h : V_i_inputsOk Q inputs nodes w) : Calls Tryz.prog F.i_inputsOk #[inputs.v, .int .i64 nodes] w (Ret [.at .bool] Q) :=
  mkC (hint := hint) (ann := annOf []) (args := [inputs.v, .int .i64 nodes]) (rs := [.at .bool]) Tryz.func44 (by kernel_rfl) (by kernel_rfl) h

def V_i_Network_hasPort (Q : Bool → World → Prop) (n_0 : Sl) (n_1 : Sl) (n_2 : Sl) (v : Int) (i : Int) (w : World) : Prop :=
  NEW T.t_i_Network #[n_0.v, n_1.v, n_2.v] w fun (p_n : Addr) w1 =>
  LD [.sl, .sl, .sl] p_n w1 fun (x7_0 : Sl) (x7_1 : Sl) (x7_2 : Sl) =>
  Calls Tryz.prog F.i_Network_hasNode #[.agg #[x7_0.v, x7_1.v, x7_2.v], .int .i64 v] w1 (Ret [.at .bool] fun (x9 : Bool) w2 =>
  cond x9 (
  LD [.sl] (p_n.add 0) w2 fun (x13 : Sl) =>
  IX x13 v 1 fun (px15 : Addr) =>
  LD [.sl] px15 w2 fun (x16 : Sl) =>
  Calls Tryz.prog F.i_within #[.int .i64 i, .int .i64 0, .int .i64 (IntKind.i64.wrap (x16.len - 1))] w2 (Ret [.at .bool] fun (x19 : Bool) w3 =>
  Q x19 w3)) (
  Q false w2))

theorem C_i_Network_hasPort {Q : Bool → World → Prop} {n_0 : Sl} {n_1 : Sl} {n_2 : Sl} {v : Int} {i : Int} {w : World} (h : V_i_Network_hasPort Q n_0 n_1 n_2 v i w) : Calls Tryz.prog F.i_Network_hasPort #[.agg #[n_0.v, n_1.v, n_2.v], .int .i64 v, .int .i64 i] w (Ret [.at .bool] Q) :=
  mkC (hint := hint) (ann := annOf []) (args := [.agg #[n_0.v, n_1.v, n_2.v], .int .i64 v, .int .i64 i]) (rs := [.at .bool]) Tryz.func45 (by kernel_rfl) (by kernel_rfl) h

def V_i_isColouring (Q : Bool → World → Prop) (n_0 : Sl) (n_1 : Sl) (n_2 : Sl) (colours : Sl) (w : World) : Prop :=
  NEW T.t_i_Network #[n_0.v, n_1.v, n_2.v] w fun (p_n : Addr) w1 =>
  NEW T.t_sl_int #[colours.v] w1 fun (p_colours : Addr) w2 =>
  LD [.sl] p_colours w2 fun (x5 : Sl) =>
  LD [.sl] (p_n.add 0) w2 fun (x8 : Sl) =>
  cond ((x5.len : Int) == x8.len) (
  LD [.sl] p_colours w2 fun (x12 : Sl) =>
  Calls Tryz.prog F.i_allWithin #[x12.v, .int .i64 0, .int .i64 1000000000000] w2 (Ret [.at .bool] fun (x13 : Bool) w3 =>
  cond x13 (
  LD [.sl, .sl, .sl] p_n w3 fun (x16_0 : Sl) (x16_1 : Sl) (x16_2 : Sl) =>
  Calls Tryz.prog F.i_Network_edges #[.agg #[x16_0.v, x16_1.v, x16_2.v]] w3 (Ret [.at .sl] fun (x17 : Sl) w4 =>
  Calls Tryz.prog F.slices_ContainsFunc_sl_i_edge_i_edge #[x17.v, .func (.func F.i_isColouring_1) #[] #[.pointer (some p_colours)]] w4 (Ret [.at .bool] fun (x19 : Bool) w5 =>
  Q (!x19) w5))) (
  Q false w3))) (
  Q false w2)

theorem C_i_isColouring {Q : Bool → World → Prop} {n_0 : Sl} {n_1 : Sl} {n_2 : Sl} {colours : Sl} {w : World} (h : V_i_isColouring Q n_0 n_1 n_2 colours w) : Calls Tryz.prog F.i_isColouring #[.agg #[n_0.v, n_1.v, n_2.v], colours.v] w (Ret [.at .bool] Q) :=
  mkC (hint := hint) (ann := annOf []) (args := [.agg #[n_0.v, n_1.v, n_2.v], colours.v]) (rs := [.at .bool]) Tryz.func46 (by kernel_rfl) (by kernel_rfl) h

def V_i_allWithin (Q : Bool → World → Prop) (list : Sl) (low : Int) (high : Int) (w : World) : Prop :=
  NEW T.t_int #[.int .i64 low] w fun (p_low : Addr) w1 =>
  NEW T.t_int #[.int .i64 high] w1 fun (p_high : Addr) w2 =>
  Calls Tryz.prog F.slices_ContainsFunc_sl_int_int #[list.v, .func (.func F.i_allWithin_1) #[] #[.pointer (some p_low), .pointer (some p_high)]] w2 (Ret [.at .bool] fun (x9 : Bool) w3 =>
  Q (!x9) w3)

theorem C_i_allWithin {Q : Bool → World → Prop} {list : Sl} {low : Int} {high : Int} {w : World} (h : V_i_allWithin Q list low high w) : Calls Tryz.prog F.i_allWithin #[list.v, .int .i64 low, .int .i64 high] w (Ret [.at .bool] Q) :=
  mkC (hint := hint) (ann := annOf []) (args := [list.v, .int .i64 low, .int .i64 high]) (rs := [.at .bool]) Tryz.func47 (by kernel_rfl) (by kernel_rfl) h

def V_i_isBound (Q : Bool → World → Prop) (n_0 : Sl) (n_1 : Sl) (n_2 : Sl) (a : Int) (w : World) : Prop :=
  NEW T.t_i_Network #[n_0.v, n_1.v, n_2.v] w fun (p_n : Addr) w1 =>
  Calls Tryz.prog F.i_within #[.int .i64 a, .int .i64 0, .int .i64 6] w1 (Ret [.at .bool] fun (x6 : Bool) w2 =>
  cond x6 (
  LD [.sl, .sl, .sl] p_n w2 fun (x8_0 : Sl) (x8_1 : Sl) (x8_2 : Sl) =>
  Calls Tryz.prog F.i_Network_degrees #[.agg #[x8_0.v, x8_1.v, x8_2.v]] w2 (Ret [.at .sl] fun (x9 : Sl) w3 =>
  Calls Tryz.prog F.slices_Max_sl_int_int #[x9.v] w3 (Ret [.at (.int .i64)] fun (x10 : Int) w4 =>
  Q (decide ((x10 : Int) ≤ a)) w4))) (
  Q false w2))

theorem C_i_isBound {Q : Bool → World → Prop} {n_0 : Sl} {n_1 : Sl} {n_2 : Sl} {a : Int} {w : World} (h : V_i_isBound Q n_0 n_1 n_2 a w) : Calls Tryz.prog F.i_isBound #[.agg #[n_0.v, n_1.v, n_2.v], .int .i64 a] w (Ret [.at .bool] Q) :=
  mkC (hint := hint) (ann := annOf []) (args := [.agg #[n_0.v, n_1.v, n_2.v], .int .i64 a]) (rs := [.at .bool]) Tryz.func48 (by kernel_rfl) (by kernel_rfl) h

def V_i_isPrime (Q : Bool → World → Prop) (n : Int) (w : World) : Prop :=
  ∃ (I2 : Int → World → Prop) (m2 : Int → World → Nat), I2 2 w ∧ ∀ (d : Int) w1, I2 d w1 → ∀ _ _ _ _ _ _ _ _ _ _ _ _ : Value,
  cond (decide (((IntKind.i64.wrap (d * d)) : Int) ≤ n)) (
  (d : Int) ≠ 0 ∧ (
  cond (((Int.tmod n d) : Int) == 0) (
  Q false w1) (
  I2 (IntKind.i64.wrap (d + 1)) w1 ∧ m2 (IntKind.i64.wrap (d + 1)) w1 < m2 d w1))) (
  Q (decide ((n : Int) > 1)) w1)

theorem C_i_isPrime {Q : Bool → World → Prop} {n : Int} {w : World} (h : V_i_isPrime Q n w) : Calls Tryz.prog F.i_isPrime #[.int .i64 n] w (Ret [.at .bool] Q) :=
  mkC (hint := hint) (ann := annOf [(2, ⟨[(3, .int .i64)], [2, 4, 5, 6, 7, 8, 9, 10, 11, 12, 13, 14]⟩)]) (args := [.int .i64 n]) (rs := [.at .bool]) Tryz.func49 (by kernel_rfl) (by kernel_rfl) h

def V_i_DigitsOf_k1 (n : Int) (base : Int) (count : Int) (Q : Sl → Bool → World → Prop) (w4 : World) : Prop :=
  ∃ (I5 : Int → Sl → Int → World → Prop) (m5 : Int → Sl → Int → World → Nat), I5 n (⟨none, 0, 0⟩) 0 w4 ∧ ∀ (n_2 : Int) (out : Sl) (x23 : Int) w5, I5 n_2 out x23 w5 → ∀ _ _ _ _ _ _ _ _ _ _ _ : Value,
  cond (decide ((x23 : Int) < count)) (
  (base : Int) ≠ 0 ∧ (
  RUN Tryz.prog (.at .sl) (Instr.buildSlice T.t_sl_int 1 #[(0, .int .i64 (Int.tmod n_2 base))]) w5 fun (x29 : Sl) w6 =>
  RUN Tryz.prog (.at .sl) (bsem .append #[T.t_sl_int, T.t_sl_int] T.t_sl_int #[out.v, x29.v]) w6 fun (x30 : Sl) w7 =>
  (base : Int) ≠ 0 ∧ (
  I5 (IntKind.i64.wrap (Int.tdiv n_2 base)) x30 (IntKind.i64.wrap (x23 + 1)) w7 ∧ m5 (IntKind.i64.wrap (Int.tdiv n_2 base)) x30 (IntKind.i64.wrap (x23 + 1)) w7 < m5 n_2 out x23 w5))) (
  cond (decide ((n_2 : Int) > 0)) (
  Q (⟨none, 0, 0⟩) false w5) (
  Q out true w5))

def V_i_DigitsOf (Q : Sl → Bool → World → Prop) (n : Int) (base : Int) (count : Int) (w : World) : Prop :=
  Calls Tryz.prog F.i_isWhole #[.int .i64 n] w (Ret [.at .bool] fun (x10 : Bool) w1 =>
  cond (!x10) (
  Q (⟨none, 0, 0⟩) false w1) (
  Calls Tryz.prog F.i_within #[.int .i64 base, .int .i64 2, .int .i64 1000] w1 (Ret [.at .bool] fun (x14 : Bool) w2 =>
  cond (!x14) (
  Q (⟨none, 0, 0⟩) false w2) (
  Calls Tryz.prog F.i_within #[.int .i64 count, .int .i64 0, .int .i64 60] w2 (Ret [.at .bool] fun (x19 : Bool) w3 =>
  cond (!x19) (
  Q (⟨none, 0, 0⟩) false w3) (
  V_i_DigitsOf_k1 n base count Q w3))))))

theorem C_i_DigitsOf {Q : Sl → Bool → World → Prop} {n : Int} {base : Int} {count : Int} {w : World} (h : V_i_DigitsOf Q n base count w) : Calls Tryz.prog F.i_DigitsOf #[.int .i64 n, .int .i64 base, .int .i64 count] w (Ret [.at .sl, .at .bool] Q) :=
  mkC (hint := hint) (ann := annOf [(5, ⟨[(0, .int .i64), (8, .sl), (23, .int .i64)], [24, 25, 26, 27, 28, 29, 30, 31, 32, 33, 34]⟩)]) (args := [.int .i64 n, .int .i64 base, .int .i64 count]) (rs := [.at .sl, .at .bool]) Tryz.func50 (by kernel_rfl) (by kernel_rfl) h

def V_slices_ContainsFunc_sl_i_End_i_End (Q : Bool → World → Prop) (s : Sl) (f : Value) (w : World) : Prop :=
  Calls Tryz.prog F.slices_IndexFunc_sl_i_End_i_End #[s.v, f] w (Ret [.at (.int .i64)] fun (x7 : Int) w1 =>
  Q (decide ((x7 : Int) ≥ 0)) w1)

theorem C_slices_ContainsFunc_sl_i_End_i_End {Q : Bool → World → Prop} {s : Sl} {f : Value} {w : World} (h : V_slices_ContainsFunc_sl_i_End_i_End Q s f w) : Calls Tryz.prog F.slices_ContainsFunc_sl_i_End_i_End #[s.v, f] w (Ret [.at .bool] Q) :=
  mkC (hint := hint) (ann := annOf []) (args := [s.v, f]) (rs := [.at .bool]) Tryz.func52 (by kernel_rfl) (by kernel_rfl) h

def V_i_polynomialStep_1 (Q : Bool → World → Prop) (e_0 : Int) (e_1 : Int) (cap0 : Addr) (cap1 : Addr) (cap2 : Addr) (w : World) : Prop :=
  NEW T.t_i_End #[.int .i64 e_0, .int .i64 e_1] w fun (p_e : Addr) w1 =>
  LD [.sl] cap0 w1 fun (x6 : Sl) =>
  LD [.int .i64] (p_e.add 0) w1 fun (x8 : Int) =>
  IX x6 x8 1 fun (px9 : Addr) =>
  LD [.sl] px9 w1 fun (x10 : Sl) =>
  LD [.int .i64] cap1 w1 fun (x11 : Int) =>
  IX x10 x11 1 fun (px12 : Addr) =>
  LD [.int .i64] px12 w1 fun (x13 : Int) =>
  LD [.sl] cap0 w1 fun (x14 : Sl) =>
  LD [.int .i64] cap2 w1 fun (x15 : Int) =>
  IX x14 x15 1 fun (px16 : Addr) =>
  LD [.sl] px16 w1 fun (x17 : Sl) =>
  LD [.int .i64] cap1 w1 fun (x18 : Int) =>
  IX x17 x18 1 fun (px19 : Addr) =>
  LD [.int .i64] px19 w1 fun (x20 : Int) =>
  ∀ w2, Ext w1 w2 →
  Q ((x13 : Int) == x20) w2

theorem C_i_polynomialStep_1 {Q : Bool → World → Prop} {e_0 : Int} {e_1 : Int} {cap0 : Addr} {cap1 : Addr} {cap2 : Addr} {w : World} (h : V_i_polynomialStep_1 Q e_0 e_1 cap0 cap1 cap2 w) : Calls Tryz.prog F.i_polynomialStep_1 #[.agg #[.int .i64 e_0, .int .i64 e_1], .pointer (some cap0), .pointer (some cap1), .pointer (some cap2)] w (Ret [.at .bool] Q) :=
  mkC (hint := hint) (ann := annOf []) (args := [.agg #[.int .i64 e_0, .int .i64 e_1], .pointer (some cap0), .pointer (some cap1), .pointer (some cap2)]) (rs := [.at .bool]) Tryz.func53 (by kernel_rfl) (by kernel_rfl) h

def V_i_near (Q : Sl → World → Prop) (n_0 : Sl) (n_1 : Sl) (n_2 : Sl) (v : Int) (numbers : Sl) (w : World) : Prop :=
  NEW T.t_i_Network #[n_0.v, n_1.v, n_2.v] w fun (p_n : Addr) w1 =>
  LD [.sl] (p_n.add 0) w1 fun (x11 : Sl) =>
  IX x11 v 1 fun (px13 : Addr) =>
  LD [.sl] px13 w1 fun (x14 : Sl) =>
  ∃ (I3 : Sl → Int → World → Prop) (m3 : Sl → Int → World → Nat), I3 (⟨none, 0, 0⟩) 0 w1 ∧ ∀ (out : Sl) (x16 : Int) w2, I3 out x16 w2 → ∀ _ _ _ _ _ _ _ _ _ _ _ _ _ : Value,
  cond (decide ((x16 : Int) < x14.len)) (
  IX x14 x16 2 fun (px18 : Addr) =>
  LD [.int .i64, .int .i64] px18 w2 fun (x19_0 : Int) (x19_1 : Int) =>
  NEW T.t_i_End #[.int .i64 0, .int .i64 0] w2 fun (p_e : Addr) w3 =>
  ST p_e 0 [.int .i64 x19_0, .int .i64 x19_1] w3 fun w4 =>
  LD [.int .i64] (p_e.add 0) w4 fun (x23 : Int) =>
  IX numbers x23 1 fun (px24 : Addr) =>
  LD [.int .i64] px24 w4 fun (x25 : Int) =>
  RUN Tryz.prog (.at .sl) (Instr.buildSlice T.t_sl_int 1 #[(0, .int .i64 x25)]) w4 fun (x26 : Sl) w5 =>
  RUN Tryz.prog (.at .sl) (bsem .append #[T.t_sl_int, T.t_sl_int] T.t_sl_int #[out.v, x26.v]) w5 fun (x27 : Sl) w6 =>
  I3 x27 (IntKind.i64.wrap (x16 + 1)) w6 ∧ m3 x27 (IntKind.i64.wrap (x16 + 1)) w6 < m3 out x16 w2) (
  Q out w2)

theorem C_i_near {Q : Sl → World → Prop} {n_0 : Sl} {n_1 : Sl} {n_2 : Sl} {v : Int} {numbers : Sl} {w : World} (h : V_i_near Q n_0 n_1 n_2 v numbers w) : Calls Tryz.prog F.i_near #[.agg #[n_0.v, n_1.v, n_2.v], .int .i64 v, numbers.v] w (Ret [.at .sl] Q) :=
  mkC (hint := hint) (ann := annOf [(3, ⟨[(7, .sl), (16, .int .i64)], [9, 17, 18, 19, 20, 21, 22, 23, 24, 25, 26, 27, 28]⟩)]) (args := [.agg #[n_0.v, n_1.v, n_2.v], .int .i64 v, numbers.v]) (rs := [.at .sl]) Tryz.func54 (by kernel_rfl) (by kernel_rfl) h

def V_i_leastFree (Q : Int → World → Prop) (used : Sl) (w : World) : Prop :=
  ∃ (I2 : Int → World → Prop) (m2 : Int → World → Nat), I2 0 w ∧ ∀ (c : Int) w1, I2 c w1 → ∀ _ _ _ _ _ : Value,
  Calls Tryz.prog F.slices_Contains_sl_int_int #[used.v, .int .i64 c] w1 (Ret [.at .bool] fun (x6 : Bool) w2 =>
  cond x6 (
  I2 (IntKind.i64.wrap (c + 1)) w2 ∧ m2 (IntKind.i64.wrap (c + 1)) w2 < m2 c w1) (
  Q c w2))

theorem C_i_leastFree {Q : Int → World → Prop} {used : Sl} {w : World} (h : V_i_leastFree Q used w) : Calls Tryz.prog F.i_leastFree #[used.v] w (Ret [.at (.int .i64)] Q) :=
  mkC (hint := hint) (ann := annOf [(2, ⟨[(3, .int .i64)], [4, 5, 6, 7, 8]⟩)]) (args := [used.v]) (rs := [.at (.int .i64)]) Tryz.func55 (by kernel_rfl) (by kernel_rfl) h

def V_slices_Max_sl_int_int (Q : Int → World → Prop) (x : Sl) (w : World) : Prop :=
  cond (decide ((x.len : Int) < 1)) (
  False) (
  IX x 0 1 fun (px10 : Addr) =>
  LD [.int .i64] px10 w fun (x11 : Int) =>
  ∃ (I5 : Int → Int → World → Prop) (m5 : Int → Int → World → Nat), I5 x11 1 w ∧ ∀ (m : Int) (i : Int) w1, I5 m i w1 → ∀ _ _ _ _ _ _ _ _ _ _ _ _ : Value,
  cond (decide ((i : Int) < x.len)) (
  IX x i 1 fun (px21 : Addr) =>
  LD [.int .i64] px21 w1 fun (x22 : Int) =>
  RUN Tryz.prog (.at (.int .i64)) (bsem .max #[T.t_int, T.t_int] T.t_int #[.int .i64 m, .int .i64 x22]) w1 fun (x23 : Int) w2 =>
  I5 x23 (IntKind.i64.wrap (i + 1)) w2 ∧ m5 x23 (IntKind.i64.wrap (i + 1)) w2 < m5 m i w1) (
  Q m w1))

theorem C_slices_Max_sl_int_int {Q : Int → World → Prop} {x : Sl} {w : World} (h : V_slices_Max_sl_int_int Q x w) : Calls Tryz.prog F.slices_Max_sl_int_int #[x.v] w (Ret [.at (.int .i64)] Q) :=
  mkC (hint := hint) (ann := annOf [(5, ⟨[(3, .int .i64), (4, .int .i64)], [12, 13, 14, 15, 16, 17, 18, 19, 20, 21, 22, 23]⟩)]) (args := [x.v]) (rs := [.at (.int .i64)]) Tryz.func56 (by kernel_rfl) (by kernel_rfl) h

def V_i_dropColour (Q : Sl → World → Prop) (n_0 : Sl) (n_1 : Sl) (n_2 : Sl) (colours : Sl) (c : Int) (w : World) : Prop :=
  NEW T.t_i_Network #[n_0.v, n_1.v, n_2.v] w fun (p_n : Addr) w1 =>
  Calls Tryz.prog F.slices_Clone_sl_int_int #[colours.v] w1 (Ret [.at .sl] fun (x10 : Sl) w2 =>
  ∃ (I3 : Int → World → Prop) (m3 : Int → World → Nat), I3 0 w2 ∧ ∀ (x13 : Int) w3, I3 x13 w3 → ∀ _ _ _ _ _ _ _ _ _ _ _ _ _ _ _ _ _ _ : Value,
  cond (decide ((x13 : Int) < x10.len)) (
  IX colours x13 1 fun (px18 : Addr) =>
  LD [.int .i64] px18 w3 fun (x19 : Int) =>
  cond ((x19 : Int) == c) (
  LD [.sl, .sl, .sl] p_n w3 fun (x24_0 : Sl) (x24_1 : Sl) (x24_2 : Sl) =>
  Calls Tryz.prog F.i_near #[.agg #[x24_0.v, x24_1.v, x24_2.v], .int .i64 x13, colours.v] w3 (Ret [.at .sl] fun (x27 : Sl) w4 =>
  Calls Tryz.prog F.i_leastFree #[x27.v] w4 (Ret [.at (.int .i64)] fun (x28 : Int) w5 =>
  IX x10 x13 1 fun (px29 : Addr) =>
  ST px29 0 [.int .i64 x28] w5 fun w6 =>
  I3 (IntKind.i64.wrap (x13 + 1)) w6 ∧ m3 (IntKind.i64.wrap (x13 + 1)) w6 < m3 x13 w3))) (
  I3 (IntKind.i64.wrap (x13 + 1)) w3 ∧ m3 (IntKind.i64.wrap (x13 + 1)) w3 < m3 x13 w3)) (
  Q x10 w3))

theorem C_i_dropColour {Q : Sl → World → Prop} {n_0 : Sl} {n_1 : Sl} {n_2 : Sl} {colours : Sl} {c : Int} {w : World} (h : V_i_dropColour Q n_0 n_1 n_2 colours c w) : Calls Tryz.prog F.i_dropColour #[.agg #[n_0.v, n_1.v, n_2.v], colours.v, .int .i64 c] w (Ret [.at .sl] Q) :=
  mkC (hint := hint) (ann := annOf [(3, ⟨[(13, .int .i64)], [8, 14, 15, 16, 17, 18, 19, 20, 21, 22, 23, 24, 25, 26, 27, 28, 29, 30]⟩)]) (args := [.agg #[n_0.v, n_1.v, n_2.v], colours.v, .int .i64 c]) (rs := [.at .sl]) Tryz.func57 (by kernel_rfl) (by kernel_rfl) h

def V_l_eqEndS (Q : Bool → World → Prop) (a : Sl) (b : Sl) (w : World) : Prop :=
  cond ((a.len : Int) != b.len) (
  Q false w) (
  ∃ (I4 : Int → World → Prop) (m4 : Int → World → Nat), I4 0 w ∧ ∀ (i : Int) w1, I4 i w1 → ∀ _ _ _ _ _ _ _ _ _ _ _ _ _ _ _ _ _ : Value,
  cond (decide ((i : Int) < a.len)) (
  IX a i 2 fun (px19 : Addr) =>
  LD [.int .i64, .int .i64] px19 w1 fun (x20_0 : Int) (x20_1 : Int) =>
  IX b i 2 fun (px23 : Addr) =>
  LD [.int .i64, .int .i64] px23 w1 fun (x24_0 : Int) (x24_1 : Int) =>
  QCALL Tryz.prog F.l_eqEnd #[.agg #[.int .i64 x20_0, .int .i64 x20_1], .agg #[.int .i64 x24_0, .int .i64 x24_1]] w1 [.at .bool] fun (x25 : Bool) =>
  ∀ w2, Ext w1 w2 →
  cond (!x25) (
  Q false w2) (
  I4 (IntKind.i64.wrap (i + 1)) w2 ∧ m4 (IntKind.i64.wrap (i + 1)) w2 < m4 i w1)) (
  Q true w1))

theorem C_l_eqEndS {Q : Bool → World → Prop} {a : Sl} {b : Sl} {w : World} (h : V_l_eqEndS Q a b w) : Calls Tryz.prog F.l_eqEndS #[a.v, b.v] w (Ret [.at .bool] Q) :=
  mkC (hint := hint) (ann := annOf [(4, ⟨[(5, .int .i64)], [4, 11, 12, 13, 14, 15, 16, 17, 18, 19, 20, 21, 22, 23, 24, 25, 26]⟩)]) (args := [a.v, b.v]) (rs := [.at .bool]) Tryz.func58 (by kernel_rfl) (by kernel_rfl) h

def V_l_markEndS (Q : Int → World → Prop) (a : Sl) (k : Int) (w : World) : Prop :=
  ∃ (I2 : Int → Int → World → Prop) (m2 : Int → Int → World → Nat), I2 k 0 w ∧ ∀ (k_2 : Int) (i : Int) w1, I2 k_2 i w1 → ∀ _ _ _ _ _ _ _ _ _ _ _ _ _ _ _ _ _ _ _ _ : Value,
  cond (decide ((i : Int) < a.len)) (
  IX a i 2 fun (px15 : Addr) =>
  ST (px15.add 0) 0 [.int .i64 k_2] w1 fun w2 =>
  IX a i 2 fun (px22 : Addr) =>
  ST (px22.add 1) 0 [.int .i64 (IntKind.i64.wrap (k_2 + 1))] w2 fun w3 =>
  I2 (IntKind.i64.wrap ((IntKind.i64.wrap (k_2 + 1)) + 1)) (IntKind.i64.wrap (i + 1)) w3 ∧ m2 (IntKind.i64.wrap ((IntKind.i64.wrap (k_2 + 1)) + 1)) (IntKind.i64.wrap (i + 1)) w3 < m2 k_2 i w1) (
  Q k_2 w1)

theorem C_l_markEndS {Q : Int → World → Prop} {a : Sl} {k : Int} {w : World} (h : V_l_markEndS Q a k w) : Calls Tryz.prog F.l_markEndS #[a.v, .int .i64 k] w (Ret [.at (.int .i64)] Q) :=
  mkC (hint := hint) (ann := annOf [(2, ⟨[(1, .int .i64), (5, .int .i64)], [6, 7, 8, 9, 10, 11, 12, 13, 14, 15, 16, 17, 18, 19, 20, 21, 22, 23, 24, 25]⟩)]) (args := [a.v, .int .i64 k]) (rs := [.at (.int .i64)]) Tryz.func59 (by kernel_rfl) (by kernel_rfl) h

def V_s_l1Has (Q : Bool → World → Prop) (l : Sl) (n : Int) (w : World) : Prop :=
  ∃ (I2 : Int → World → Prop) (m2 : Int → World → Nat), I2 0 w ∧ ∀ (x9 : Int) w1, I2 x9 w1 → ∀ _ _ _ _ _ _ _ _ _ : Value,
  cond (decide ((x9 : Int) < l.len)) (
  IX l x9 1 fun (px11 : Addr) =>
  LD [.int .i64] px11 w1 fun (x12 : Int) =>
  cond ((x12 : Int) == n) (
  Q true w1) (
  I2 (IntKind.i64.wrap (x9 + 1)) w1 ∧ m2 (IntKind.i64.wrap (x9 + 1)) w1 < m2 x9 w1)) (
  Q false w1)

theorem C_s_l1Has {Q : Bool → World → Prop} {l : Sl} {n : Int} {w : World} (h : V_s_l1Has Q l n w) : Calls Tryz.prog F.s_l1Has #[l.v, .int .i64 n] w (Ret [.at .bool] Q) :=
  mkC (hint := hint) (ann := annOf [(2, ⟨[(9, .int .i64)], [4, 6, 10, 11, 12, 13, 14, 15, 16]⟩)]) (args := [l.v, .int .i64 n]) (rs := [.at .bool]) Tryz.func60 (by kernel_rfl) (by kernel_rfl) h

def V_s_imEdge (Q : Int → Int → Bool → World → Prop) (n_0 : Sl) (n_1 : Sl) (n_2 : Sl) (l : Sl) (w : World) : Prop :=
  NEW T.t_i_Network #[n_0.v, n_1.v, n_2.v] w fun (p_n : Addr) w1 =>
  LD [.sl] (p_n.add 0) w1 fun (x11 : Sl) =>
  ∃ (I2 : Int → World → Prop) (m2 : Int → World → Nat), I2 0 w1 ∧ ∀ (x13 : Int) w2, I2 x13 w2 → ∀ _ _ _ _ _ _ _ _ _ _ _ _ _ _ _ _ _ _ _ _ _ _ _ _ _ _ _ _ _ _ _ _ _ _ _ _ : Value,
  cond (decide ((x13 : Int) < x11.len)) (
  LD [.sl, .sl, .sl] p_n w2 fun (x16_0 : Sl) (x16_1 : Sl) (x16_2 : Sl) =>
  Calls Tryz.prog F.s_neNear #[.agg #[x16_0.v, x16_1.v, x16_2.v], .int .i64 x13] w2 (Ret [.at .sl] fun (x18 : Sl) w3 =>
  ∃ (I6 : Int → World → Prop) (m6 : Int → World → Nat), I6 x13 w3 ∧ ∀ (v : Int) w4, I6 v w4 → ∀ _ _ _ _ _ _ _ _ _ _ _ _ _ _ _ _ _ _ _ _ _ _ _ _ _ _ : Value,
  LD [.sl] (p_n.add 0) w4 fun (x22 : Sl) =>
  cond (decide ((v : Int) < x22.len)) (
  QCALL Tryz.prog F.s_l1Has #[x18.v, .int .i64 v] w4 [.at .bool] fun (x29 : Bool) =>
  cond x29 (
  IX l x13 1 fun (px33 : Addr) =>
  LD [.int .i64] px33 w4 fun (x34 : Int) =>
  IX l v 1 fun (px37 : Addr) =>
  LD [.int .i64] px37 w4 fun (x38 : Int) =>
  ∀ w5, Ext w4 w5 →
  cond ((x34 : Int) == x38) (
  Q x13 v true w5) (
  I6 (IntKind.i64.wrap (v + 1)) w5 ∧ m6 (IntKind.i64.wrap (v + 1)) w5 < m6 v w4)) (
  ∀ w6, Ext w4 w6 →
  I6 (IntKind.i64.wrap (v + 1)) w6 ∧ m6 (IntKind.i64.wrap (v + 1)) w6 < m6 v w4)) (
  I2 (IntKind.i64.wrap (x13 + 1)) w4 ∧ m2 (IntKind.i64.wrap (x13 + 1)) w4 < m2 x13 w2))) (
  Q 0 0 false w2)

theorem C_s_imEdge {Q : Int → Int → Bool → World → Prop} {n_0 : Sl} {n_1 : Sl} {n_2 : Sl} {l : Sl} {w : World} (h : V_s_imEdge Q n_0 n_1 n_2 l w) : Calls Tryz.prog F.s_imEdge #[.agg #[n_0.v, n_1.v, n_2.v], l.v] w (Ret [.at (.int .i64), .at (.int .i64), .at .bool] Q) :=
  mkC (hint := hint) (ann := annOf [(2, ⟨[(13, .int .i64)], [4, 5, 6, 7, 8, 9, 14, 15, 16, 17, 18, 19, 20, 21, 22, 23, 24, 25, 26, 27, 28, 29, 30, 31, 32, 33, 34, 35, 36, 37, 38, 39, 40, 41, 42, 43]⟩), (6, ⟨[(9, .int .i64)], [4, 5, 6, 20, 21, 22, 23, 24, 25, 26, 27, 28, 29, 30, 31, 32, 33, 34, 35, 36, 37, 38, 39, 40, 41, 42]⟩)]) (args := [.agg #[n_0.v, n_1.v, n_2.v], l.v]) (rs := [.at (.int .i64), .at (.int .i64), .at .bool]) Tryz.func61 (by kernel_rfl) (by kernel_rfl) h

def V_s_l1Most (Q : Int → World → Prop) (a : Int) (b : Int) (w : World) : Prop :=
  cond (decide ((a : Int) > b)) (
  Q a w) (
  Q b w)

theorem C_s_l1Most {Q : Int → World → Prop} {a : Int} {b : Int} {w : World} (h : V_s_l1Most Q a b w) : Calls Tryz.prog F.s_l1Most #[.int .i64 a, .int .i64 b] w (Ret [.at (.int .i64)] Q) :=
  mkC (hint := hint) (ann := annOf []) (args := [.int .i64 a, .int .i64 b]) (rs := [.at (.int .i64)]) Tryz.func62 (by kernel_rfl) (by kernel_rfl) h

def V_s_nuNext (Q : Int → World → Prop) (n : Int) (w : World) : Prop :=
  ∃ (I1 : Int → World → Prop) (m1 : Int → World → Nat), I1 n w ∧ ∀ (n_2 : Int) w1, I1 n_2 w1 → ∀ _ _ _ _ _ : Value,
  Calls Tryz.prog F.s_nuPrime #[.int .i64 n_2] w1 (Ret [.at .bool] fun (x4 : Bool) w2 =>
  cond (!x4) (
  I1 (IntKind.i64.wrap (n_2 + 1)) w2 ∧ m1 (IntKind.i64.wrap (n_2 + 1)) w2 < m1 n_2 w1) (
  Q n_2 w2))

theorem C_s_nuNext {Q : Int → World → Prop} {n : Int} {w : World} (h : V_s_nuNext Q n w) : Calls Tryz.prog F.s_nuNext #[.int .i64 n] w (Ret [.at (.int .i64)] Q) :=
  mkC (hint := hint) (ann := annOf [(1, ⟨[(0, .int .i64)], [3, 4, 5, 6, 7]⟩)]) (args := [.int .i64 n]) (rs := [.at (.int .i64)]) Tryz.func63 (by kernel_rfl) (by kernel_rfl) h

def V_s_clPower (Q : Bool → World → Prop) (q : Int) (d : Int) (k : Int) (w : World) : Prop :=
  ∃ (I3 : Int → Int → World → Prop) (m3 : Int → Int → World → Nat), I3 1 0 w ∧ ∀ (all : Int) (i : Int) w1, I3 all i w1 → ∀ _ _ _ _ _ _ _ _ _ _ _ _ : Value,
  cond (decide ((i : Int) ≤ d)) (
  cond (decide (((IntKind.i64.wrap (all * q)) : Int) ≥ k)) (
  Q true w1) (
  I3 (IntKind.i64.wrap (all * q)) (IntKind.i64.wrap (i + 1)) w1 ∧ m3 (IntKind.i64.wrap (all * q)) (IntKind.i64.wrap (i + 1)) w1 < m3 all i w1)) (
  Q false w1)

theorem C_s_clPower {Q : Bool → World → Prop} {q : Int} {d : Int} {k : Int} {w : World} (h : V_s_clPower Q q d k w) : Calls Tryz.prog F.s_clPower #[.int .i64 q, .int .i64 d, .int .i64 k] w (Ret [.at .bool] Q) :=
  mkC (hint := hint) (ann := annOf [(3, ⟨[(7, .int .i64), (8, .int .i64)], [6, 9, 10, 11, 12, 13, 14, 15, 16, 17, 18, 19]⟩)]) (args := [.int .i64 q, .int .i64 d, .int .i64 k]) (rs := [.at .bool]) Tryz.func64 (by kernel_rfl) (by kernel_rfl) h

def V_s_clTake (Q : Int → World → Prop) (q : Int) (d : Int) (own : Int) (near : Sl) (w : World) : Prop :=
  Calls Tryz.prog F.s_nuDigits #[.int .i64 own, .int .i64 q, .int .i64 (IntKind.i64.wrap (d + 1))] w (Ret [.at .sl] fun (x19 : Sl) w1 =>
  ∃ (I4 : Int → World → Prop) (m4 : Int → World → Nat), I4 0 w1 ∧ ∀ (x : Int) w2, I4 x w2 → ∀ _ _ _ _ _ _ _ _ _ _ _ _ _ _ _ _ _ _ _ _ _ _ _ _ _ _ _ _ _ _ _ _ _ _ _ _ : Value,
  Calls Tryz.prog F.s_nuValue #[.int .i64 q, x19.v, .int .i64 x] w2 (Ret [.at (.int .i64)] fun (x25 : Int) w3 =>
  ∃ (I7 : Bool → Int → World → Prop) (m7 : Bool → Int → World → Nat), I7 true 0 w3 ∧ ∀ (free : Bool) (x28 : Int) w4, I7 free x28 w4 → ∀ _ _ _ _ _ _ _ _ _ _ _ _ _ _ _ _ _ _ : Value,
  cond (decide ((x28 : Int) < near.len)) (
  IX near x28 1 fun (px30 : Addr) =>
  LD [.int .i64] px30 w4 fun (x31 : Int) =>
  cond free (
  Calls Tryz.prog F.s_nuDigits #[.int .i64 x31, .int .i64 q, .int .i64 (IntKind.i64.wrap (d + 1))] w4 (Ret [.at .sl] fun (x39 : Sl) w5 =>
  Calls Tryz.prog F.s_nuValue #[.int .i64 q, x39.v, .int .i64 x] w5 (Ret [.at (.int .i64)] fun (x41 : Int) w6 =>
  I7 ((x41 : Int) != x25) (IntKind.i64.wrap (x28 + 1)) w6 ∧ m7 ((x41 : Int) != x25) (IntKind.i64.wrap (x28 + 1)) w6 < m7 free x28 w4))) (
  I7 false (IntKind.i64.wrap (x28 + 1)) w4 ∧ m7 false (IntKind.i64.wrap (x28 + 1)) w4 < m7 free x28 w4)) (
  cond free (
  Q (IntKind.i64.wrap ((IntKind.i64.wrap (x * q)) + x25)) w4) (
  I4 (IntKind.i64.wrap (x + 1)) w4 ∧ m4 (IntKind.i64.wrap (x + 1)) w4 < m4 x w2))))

theorem C_s_clTake {Q : Int → World → Prop} {q : Int} {d : Int} {own : Int} {near : Sl} {w : World} (h : V_s_clTake Q q d own near w) : Calls Tryz.prog F.s_clTake #[.int .i64 q, .int .i64 d, .int .i64 own, near.v] w (Ret [.at (.int .i64)] Q) :=
  mkC (hint := hint) (ann := annOf [(4, ⟨[(10, .int .i64)], [8, 11, 12, 14, 20, 21, 22, 23, 24, 25, 26, 27, 28, 29, 30, 31, 32, 33, 34, 35, 36, 37, 38, 39, 40, 41, 42, 43, 44, 45, 46, 47, 48, 49, 50, 51]⟩), (7, ⟨[(12, .bool), (28, .int .i64)], [14, 29, 30, 31, 32, 33, 34, 35, 36, 37, 38, 39, 40, 41, 42, 43, 44, 45]⟩)]) (args := [.int .i64 q, .int .i64 d, .int .i64 own, near.v]) (rs := [.at (.int .i64)]) Tryz.func65 (by kernel_rfl) (by kernel_rfl) h

def V_s_coThrough (Q : Sl → World → Prop) (l : Sl) (at1 : Sl) (w : World) : Prop :=
  ∃ (I3 : Sl → Int → World → Prop) (m3 : Sl → Int → World → Nat), I3 (⟨none, 0, 0⟩) 0 w ∧ ∀ (out : Sl) (x10 : Int) w1, I3 out x10 w1 → ∀ _ _ _ _ _ _ _ _ _ _ _ _ : Value,
  cond (decide ((x10 : Int) < at1.len)) (
  IX at1 x10 1 fun (px12 : Addr) =>
  LD [.int .i64] px12 w1 fun (x13 : Int) =>
  IX l x13 1 fun (px17 : Addr) =>
  LD [.int .i64] px17 w1 fun (x18 : Int) =>
  RUN Tryz.prog (.at .sl) (Instr.buildSlice T.t_sl_int 1 #[(0, .int .i64 x18)]) w1 fun (x19 : Sl) w2 =>
  RUN Tryz.prog (.at .sl) (bsem .append #[T.t_sl_int, T.t_sl_int] T.t_sl_int #[out.v, x19.v]) w2 fun (x20 : Sl) w3 =>
  I3 x20 (IntKind.i64.wrap (x10 + 1)) w3 ∧ m3 x20 (IntKind.i64.wrap (x10 + 1)) w3 < m3 out x10 w1) (
  Q out w1)

theorem C_s_coThrough {Q : Sl → World → Prop} {l : Sl} {at1 : Sl} {w : World} (h : V_s_coThrough Q l at1 w) : Calls Tryz.prog F.s_coThrough #[l.v, at1.v] w (Ret [.at .sl] Q) :=
  mkC (hint := hint) (ann := annOf [(3, ⟨[(5, .sl), (10, .int .i64)], [7, 11, 12, 13, 14, 15, 16, 17, 18, 19, 20, 21]⟩)]) (args := [l.v, at1.v]) (rs := [.at .sl]) Tryz.func66 (by kernel_rfl) (by kernel_rfl) h

def V_s_neNear (Q : Sl → World → Prop) (n_0 : Sl) (n_1 : Sl) (n_2 : Sl) (v : Int) (w : World) : Prop :=
  NEW T.t_i_Network #[n_0.v, n_1.v, n_2.v] w fun (p_n : Addr) w1 =>
  LD [.sl] (p_n.add 0) w1 fun (x9 : Sl) =>
  IX x9 v 1 fun (px11 : Addr) =>
  LD [.sl] px11 w1 fun (x12 : Sl) =>
  ∃ (I3 : Sl → Int → World → Prop) (m3 : Sl → Int → World → Nat), I3 (⟨none, 0, 0⟩) 0 w1 ∧ ∀ (out : Sl) (x14 : Int) w2, I3 out x14 w2 → ∀ _ _ _ _ _ _ _ _ _ _ : Value,
  cond (decide ((x14 : Int) < x12.len)) (
  IX x12 x14 2 fun (px16 : Addr) =>
  LD [.int .i64, .int .i64] px16 w2 fun (x17_0 : Int) (x17_1 : Int) =>
  NEW T.t_i_End #[.int .i64 0, .int .i64 0] w2 fun (p_e : Addr) w3 =>
  ST p_e 0 [.int .i64 x17_0, .int .i64 x17_1] w3 fun w4 =>
  LD [.int .i64] (p_e.add 0) w4 fun (x20 : Int) =>
  RUN Tryz.prog (.at .sl) (Instr.buildSlice T.t_sl_int 1 #[(0, .int .i64 x20)]) w4 fun (x21 : Sl) w5 =>
  RUN Tryz.prog (.at .sl) (bsem .append #[T.t_sl_int, T.t_sl_int] T.t_sl_int #[out.v, x21.v]) w5 fun (x22 : Sl) w6 =>
  I3 x22 (IntKind.i64.wrap (x14 + 1)) w6 ∧ m3 x22 (IntKind.i64.wrap (x14 + 1)) w6 < m3 out x14 w2) (
  Q out w2)

theorem C_s_neNear {Q : Sl → World → Prop} {n_0 : Sl} {n_1 : Sl} {n_2 : Sl} {v : Int} {w : World} (h : V_s_neNear Q n_0 n_1 n_2 v w) : Calls Tryz.prog F.s_neNear #[.agg #[n_0.v, n_1.v, n_2.v], .int .i64 v] w (Ret [.at .sl] Q) :=
  mkC (hint := hint) (ann := annOf [(3, ⟨[(5, .sl), (14, .int .i64)], [7, 15, 16, 17, 18, 19, 20, 21, 22, 23]⟩)]) (args := [.agg #[n_0.v, n_1.v, n_2.v], .int .i64 v]) (rs := [.at .sl]) Tryz.func67 (by kernel_rfl) (by kernel_rfl) h

def V_s_l1Own (Q : Sl → World → Prop) (l : Sl) (w : World) : Prop :=
  RUN Tryz.prog (.at .sl) (Instr.buildSlice T.t_sl_int 0 #[]) w fun (x3 : Sl) w1 =>
  RUN Tryz.prog (.at .sl) (bsem .append #[T.t_sl_int, T.t_sl_int] T.t_sl_int #[x3.v, l.v]) w1 fun (x5 : Sl) w2 =>
  Q x5 w2

theorem C_s_l1Own {Q : Sl → World → Prop} {l : Sl} {w : World} (h : V_s_l1Own Q l w) : Calls Tryz.prog F.s_l1Own #[l.v] w (Ret [.at .sl] Q) :=
  mkC (hint := hint) (ann := annOf []) (args := [l.v]) (rs := [.at .sl]) Tryz.func68 (by kernel_rfl) (by kernel_rfl) h

def V_s_clLeast (Q : Int → World → Prop) (l : Sl) (w : World) : Prop :=
  ∃ (I2 : Int → World → Prop) (m2 : Int → World → Nat), I2 0 w ∧ ∀ (x : Int) w1, I2 x w1 → ∀ _ _ _ _ _ : Value,
  Calls Tryz.prog F.s_l1Has #[l.v, .int .i64 x] w1 (Ret [.at .bool] fun (x6 : Bool) w2 =>
  cond x6 (
  I2 (IntKind.i64.wrap (x + 1)) w2 ∧ m2 (IntKind.i64.wrap (x + 1)) w2 < m2 x w1) (
  Q x w2))

theorem C_s_clLeast {Q : Int → World → Prop} {l : Sl} {w : World} (h : V_s_clLeast Q l w) : Calls Tryz.prog F.s_clLeast #[l.v] w (Ret [.at (.int .i64)] Q) :=
  mkC (hint := hint) (ann := annOf [(2, ⟨[(3, .int .i64)], [4, 5, 6, 7, 8]⟩)]) (args := [l.v]) (rs := [.at (.int .i64)]) Tryz.func69 (by kernel_rfl) (by kernel_rfl) h

def V_s_clDrop (Q : Sl → World → Prop) (n_0 : Sl) (n_1 : Sl) (n_2 : Sl) (l : Sl) (c : Int) (w : World) : Prop :=
  NEW T.t_i_Network #[n_0.v, n_1.v, n_2.v] w fun (p_n : Addr) w1 =>
  Calls Tryz.prog F.s_l1Own #[l.v] w1 (Ret [.at .sl] fun (x11 : Sl) w2 =>
  ∃ (I3 : Int → World → Prop) (m3 : Int → World → Nat), I3 0 w2 ∧ ∀ (x14 : Int) w3, I3 x14 w3 → ∀ _ _ _ _ _ _ _ _ _ _ _ _ _ _ _ _ _ _ _ : Value,
  cond (decide ((x14 : Int) < l.len)) (
  IX l x14 1 fun (px17 : Addr) =>
  LD [.int .i64] px17 w3 fun (x18 : Int) =>
  cond ((x18 : Int) == c) (
  LD [.sl, .sl, .sl] p_n w3 fun (x25_0 : Sl) (x25_1 : Sl) (x25_2 : Sl) =>
  Calls Tryz.prog F.s_neNear #[.agg #[x25_0.v, x25_1.v, x25_2.v], .int .i64 x14] w3 (Ret [.at .sl] fun (x27 : Sl) w4 =>
  Calls Tryz.prog F.s_coThrough #[l.v, x27.v] w4 (Ret [.at .sl] fun (x28 : Sl) w5 =>
  Calls Tryz.prog F.s_clLeast #[x28.v] w5 (Ret [.at (.int .i64)] fun (x29 : Int) w6 =>
  IX x11 x14 1 fun (px30 : Addr) =>
  ST px30 0 [.int .i64 x29] w6 fun w7 =>
  I3 (IntKind.i64.wrap (x14 + 1)) w7 ∧ m3 (IntKind.i64.wrap (x14 + 1)) w7 < m3 x14 w3)))) (
  I3 (IntKind.i64.wrap (x14 + 1)) w3 ∧ m3 (IntKind.i64.wrap (x14 + 1)) w3 < m3 x14 w3)) (
  Q x11 w3))

theorem C_s_clDrop {Q : Sl → World → Prop} {n_0 : Sl} {n_1 : Sl} {n_2 : Sl} {l : Sl} {c : Int} {w : World} (h : V_s_clDrop Q n_0 n_1 n_2 l c w) : Calls Tryz.prog F.s_clDrop #[.agg #[n_0.v, n_1.v, n_2.v], l.v, .int .i64 c] w (Ret [.at .sl] Q) :=
  mkC (hint := hint) (ann := annOf [(3, ⟨[(14, .int .i64)], [8, 9, 15, 16, 17, 18, 19, 20, 21, 22, 23, 24, 25, 26, 27, 28, 29, 30, 31]⟩)]) (args := [.agg #[n_0.v, n_1.v, n_2.v], l.v, .int .i64 c]) (rs := [.at .sl]) Tryz.func70 (by kernel_rfl) (by kernel_rfl) h

def V_l_toEnd (Q : Int → Int → World → Prop) (a_0 : Int) (a_1 : Int) (w : World) : Prop :=
  NEW T.t_l_End #[.int .i64 a_0, .int .i64 a_1] w fun (p_a : Addr) w1 =>
  NEW T.t_i_End #[.int .i64 0, .int .i64 0] w1 fun (px2 : Addr) w2 =>
  NEW T.t_i_End #[.int .i64 0, .int .i64 0] w2 fun (p_out : Addr) w3 =>
  LD [.int .i64] (p_a.add 0) w3 fun (x5 : Int) =>
  ST (p_out.add 0) 0 [.int .i64 x5] w3 fun w4 =>
  LD [.int .i64] (p_a.add 1) w4 fun (x8 : Int) =>
  ST (p_out.add 1) 0 [.int .i64 x8] w4 fun w5 =>
  LD [.int .i64, .int .i64] p_out w5 fun (x10_0 : Int) (x10_1 : Int) =>
  ST px2 0 [.int .i64 x10_0, .int .i64 x10_1] w5 fun w6 =>
  LD [.int .i64, .int .i64] px2 w6 fun (r0_0 : Int) (r0_1 : Int) =>
  Q r0_0 r0_1 w6

theorem C_l_toEnd {Q : Int → Int → World → Prop} {a_0 : Int} {a_1 : Int} {w : World} (h : V_l_toEnd Q a_0 a_1 w) : Calls Tryz.prog F.l_toEnd #[.agg #[.int .i64 a_0, .int .i64 a_1]] w (Ret [.agg [.int .i64, .int .i64]] Q) :=
  mkC (hint := hint) (ann := annOf []) (args := [.agg #[.int .i64 a_0, .int .i64 a_1]]) (rs := [.agg [.int .i64, .int .i64]]) Tryz.func71 (by kernel_rfl) (by kernel_rfl) h

def V_i_increasing (Q : Bool → World → Prop) (list : Sl) (low : Int) (high : Int) (w : World) : Prop :=
  ∃ (I2 : Int → World → Prop) (m2 : Int → World → Nat), I2 0 w ∧ ∀ (x11 : Int) w1, I2 x11 w1 → ∀ _ _ _ _ _ _ _ _ _ _ _ _ _ _ _ _ _ _ _ _ _ _ _ _ _ _ : Value,
  cond (decide ((x11 : Int) < list.len)) (
  IX list x11 1 fun (px14 : Addr) =>
  LD [.int .i64] px14 w1 fun (x15 : Int) =>
  Calls Tryz.prog F.i_within #[.int .i64 x15, .int .i64 low, .int .i64 high] w1 (Ret [.at .bool] fun (x19 : Bool) w2 =>
  cond (!x19) (
  Q false w2) (
  cond (decide ((x11 : Int) > 0)) (
  IX list (IntKind.i64.wrap (x11 - 1)) 1 fun (px28 : Addr) =>
  LD [.int .i64] px28 w2 fun (x29 : Int) =>
  cond (decide ((x29 : Int) ≥ x15)) (
  Q false w2) (
  I2 (IntKind.i64.wrap (x11 + 1)) w2 ∧ m2 (IntKind.i64.wrap (x11 + 1)) w2 < m2 x11 w1)) (
  I2 (IntKind.i64.wrap (x11 + 1)) w2 ∧ m2 (IntKind.i64.wrap (x11 + 1)) w2 < m2 x11 w1)))) (
  Q true w1)

theorem C_i_increasing {Q : Bool → World → Prop} {list : Sl} {low : Int} {high : Int} {w : World} (h : V_i_increasing Q list low high w) : Calls Tryz.prog F.i_increasing #[list.v, .int .i64 low, .int .i64 high] w (Ret [.at .bool] Q) :=
  mkC (hint := hint) (ann := annOf [(2, ⟨[(11, .int .i64)], [6, 7, 8, 12, 13, 14, 15, 16, 17, 18, 19, 20, 21, 22, 23, 24, 25, 26, 27, 28, 29, 30, 31, 32, 33, 34]⟩)]) (args := [list.v, .int .i64 low, .int .i64 high]) (rs := [.at .bool]) Tryz.func73 (by kernel_rfl) (by kernel_rfl) h

def V_i_Network_hasNode (Q : Bool → World → Prop) (n_0 : Sl) (n_1 : Sl) (n_2 : Sl) (v : Int) (w : World) : Prop :=
  NEW T.t_i_Network #[n_0.v, n_1.v, n_2.v] w fun (p_n : Addr) w1 =>
  LD [.sl] (p_n.add 0) w1 fun (x7 : Sl) =>
  Calls Tryz.prog F.i_within #[.int .i64 v, .int .i64 0, .int .i64 (IntKind.i64.wrap (x7.len - 1))] w1 (Ret [.at .bool] fun (x10 : Bool) w2 =>
  Q x10 w2)

theorem C_i_Network_hasNode {Q : Bool → World → Prop} {n_0 : Sl} {n_1 : Sl} {n_2 : Sl} {v : Int} {w : World} (h : V_i_Network_hasNode Q n_0 n_1 n_2 v w) : Calls Tryz.prog F.i_Network_hasNode #[.agg #[n_0.v, n_1.v, n_2.v], .int .i64 v] w (Ret [.at .bool] Q) :=
  mkC (hint := hint) (ann := annOf []) (args := [.agg #[n_0.v, n_1.v, n_2.v], .int .i64 v]) (rs := [.at .bool]) Tryz.func74 (by kernel_rfl) (by kernel_rfl) h

def V_slices_ContainsFunc_sl_i_edge_i_edge (Q : Bool → World → Prop) (s : Sl) (f : Value) (w : World) : Prop :=
  Calls Tryz.prog F.slices_IndexFunc_sl_i_edge_i_edge #[s.v, f] w (Ret [.at (.int .i64)] fun (x7 : Int) w1 =>
  Q (decide ((x7 : Int) ≥ 0)) w1)

theorem C_slices_ContainsFunc_sl_i_edge_i_edge {Q : Bool → World → Prop} {s : Sl} {f : Value} {w : World} (h : V_slices_ContainsFunc_sl_i_edge_i_edge Q s f w) : Calls Tryz.prog F.slices_ContainsFunc_sl_i_edge_i_edge #[s.v, f] w (Ret [.at .bool] Q) :=
  mkC (hint := hint) (ann := annOf []) (args := [s.v, f]) (rs := [.at .bool]) Tryz.func75 (by kernel_rfl) (by kernel_rfl) h

def V_i_Network_edges_k5 (I6 : Sl → Int → World → Prop) (m6 : Sl → Int → World → Nat) (out_2 : Sl) (x18 : Int) (w3 : World) (out_3 : Sl) (w10 : World) : Prop :=
  I6 out_3 (IntKind.i64.wrap (x18 + 1)) w10 ∧ m6 out_3 (IntKind.i64.wrap (x18 + 1)) w10 < m6 out_2 x18 w3

def V_i_Network_edges (Q : Sl → World → Prop) (n_0 : Sl) (n_1 : Sl) (n_2 : Sl) (w : World) : Prop :=
  NEW T.t_i_Network #[n_0.v, n_1.v, n_2.v] w fun (p_n : Addr) w1 =>
  LD [.sl] (p_n.add 0) w1 fun (x9 : Sl) =>
  ∃ (I3 : Sl → Int → World → Prop) (m3 : Sl → Int → World → Nat), I3 (⟨none, 0, 0⟩) 0 w1 ∧ ∀ (out : Sl) (x11 : Int) w2, I3 out x11 w2 → ∀ _ _ _ _ _ _ _ _ _ _ _ _ _ _ _ _ _ _ _ _ _ _ _ _ _ _ _ _ _ _ _ _ _ _ _ _ _ _ _ _ _ _ _ : Value,
  cond (decide ((x11 : Int) < x9.len)) (
  IX x9 x11 1 fun (px14 : Addr) =>
  LD [.sl] px14 w2 fun (x15 : Sl) =>
  ∃ (I6 : Sl → Int → World → Prop) (m6 : Sl → Int → World → Nat), I6 out 0 w2 ∧ ∀ (out_2 : Sl) (x18 : Int) w3, I6 out_2 x18 w3 → ∀ _ _ _ _ _ _ _ _ _ _ _ _ _ _ _ _ _ _ _ _ _ _ _ _ _ _ _ _ _ _ _ _ _ : Value,
  cond (decide ((x18 : Int) < x15.len)) (
  IX x15 x18 2 fun (px21 : Addr) =>
  LD [.int .i64, .int .i64] px21 w3 fun (x22_0 : Int) (x22_1 : Int) =>
  NEW T.t_i_End #[.int .i64 0, .int .i64 0] w3 fun (p_e : Addr) w4 =>
  ST p_e 0 [.int .i64 x22_0, .int .i64 x22_1] w4 fun w5 =>
  LD [.int .i64] (p_e.add 0) w5 fun (x25 : Int) =>
  cond (decide ((x11 : Int) < x25)) (
  LD [.int .i64] (p_e.add 0) w5 fun (x43 : Int) =>
  LD [.int .i64] (p_e.add 1) w5 fun (x45 : Int) =>
  RUN Tryz.prog (.at .sl) (Instr.buildSlice T.t_sl_i_edge 1 #[(0, .agg #[.int .i64 x11, .int .i64 x18, .int .i64 x43, .int .i64 x45])]) w5 fun (x47 : Sl) w6 =>
  RUN Tryz.prog (.at .sl) (bsem .append #[T.t_sl_i_edge, T.t_sl_i_edge] T.t_sl_i_edge #[out_2.v, x47.v]) w6 fun (x48 : Sl) w7 =>
  V_i_Network_edges_k5 I6 m6 out_2 x18 w3 x48 w7) (
  LD [.int .i64] (p_e.add 0) w5 fun (x30 : Int) =>
  cond ((x11 : Int) == x30) (
  LD [.int .i64] (p_e.add 1) w5 fun (x35 : Int) =>
  cond (decide ((x18 : Int) ≤ x35)) (
  LD [.int .i64] (p_e.add 0) w5 fun (x43_2 : Int) =>
  LD [.int .i64] (p_e.add 1) w5 fun (x45_2 : Int) =>
  RUN Tryz.prog (.at .sl) (Instr.buildSlice T.t_sl_i_edge 1 #[(0, .agg #[.int .i64 x11, .int .i64 x18, .int .i64 x43_2, .int .i64 x45_2])]) w5 fun (x47_2 : Sl) w8 =>
  RUN Tryz.prog (.at .sl) (bsem .append #[T.t_sl_i_edge, T.t_sl_i_edge] T.t_sl_i_edge #[out_2.v, x47_2.v]) w8 fun (x48_2 : Sl) w9 =>
  V_i_Network_edges_k5 I6 m6 out_2 x18 w3 x48_2 w9) (
  V_i_Network_edges_k5 I6 m6 out_2 x18 w3 out_2 w5)) (
  V_i_Network_edges_k5 I6 m6 out_2 x18 w3 out_2 w5))) (
  I3 out_2 (IntKind.i64.wrap (x11 + 1)) w3 ∧ m3 out_2 (IntKind.i64.wrap (x11 + 1)) w3 < m3 out x11 w2)) (
  Q out w2)

theorem C_i_Network_edges {Q : Sl → World → Prop} {n_0 : Sl} {n_1 : Sl} {n_2 : Sl} {w : World} (h : V_i_Network_edges Q n_0 n_1 n_2 w) : Calls Tryz.prog F.i_Network_edges #[.agg #[n_0.v, n_1.v, n_2.v]] w (Ret [.at .sl] Q) :=
  mkC (hint := hint) (ann := annOf [(3, ⟨[(3, .sl), (11, .int .i64)], [4, 5, 6, 7, 12, 13, 14, 15, 16, 17, 18, 19, 20, 21, 22, 23, 24, 25, 26, 27, 28, 29, 30, 31, 32, 33, 34, 35, 36, 37, 38, 39, 40, 41, 42, 43, 44, 45, 46, 47, 48, 49, 50]⟩), (6, ⟨[(3, .sl), (18, .int .i64)], [6, 7, 19, 20, 21, 22, 23, 24, 25, 26, 27, 28, 29, 30, 31, 32, 33, 34, 35, 36, 37, 38, 39, 40, 41, 42, 43, 44, 45, 46, 47, 48, 49]⟩)]) (args := [.agg #[n_0.v, n_1.v, n_2.v]]) (rs := [.at .sl]) Tryz.func76 (by kernel_rfl) (by kernel_rfl) h

def V_i_isColouring_1 (Q : Bool → World → Prop) (e_0 : Int) (e_1 : Int) (e_2 : Int) (e_3 : Int) (cap0 : Addr) (w : World) : Prop :=
  NEW T.t_i_edge #[.int .i64 e_0, .int .i64 e_1, .int .i64 e_2, .int .i64 e_3] w fun (p_e : Addr) w1 =>
  LD [.sl] cap0 w1 fun (x4 : Sl) =>
  LD [.int .i64] (p_e.add 0) w1 fun (x6 : Int) =>
  IX x4 x6 1 fun (px7 : Addr) =>
  LD [.int .i64] px7 w1 fun (x8 : Int) =>
  LD [.sl] cap0 w1 fun (x9 : Sl) =>
  LD [.int .i64] (p_e.add 2) w1 fun (x11 : Int) =>
  IX x9 x11 1 fun (px12 : Addr) =>
  LD [.int .i64] px12 w1 fun (x13 : Int) =>
  ∀ w2, Ext w1 w2 →
  Q ((x8 : Int) == x13) w2

theorem C_i_isColouring_1 {Q : Bool → World → Prop} {e_0 : Int} {e_1 : Int} {e_2 : Int} {e_3 : Int} {cap0 : Addr} {w : World} (h : V_i_isColouring_1 Q e_0 e_1 e_2 e_3 cap0 w) : Calls Tryz.prog F.i_isColouring_1 #[.agg #[.int .i64 e_0, .int .i64 e_1, .int .i64 e_2, .int .i64 e_3], .pointer (some cap0)] w (Ret [.at .bool] Q) :=
  mkC (hint := hint) (ann := annOf []) (args := [.agg #[.int .i64 e_0, .int .i64 e_1, .int .i64 e_2, .int .i64 e_3], .pointer (some cap0)]) (rs := [.at .bool]) Tryz.func77 (by kernel_rfl) (by kernel_rfl) h

def V_slices_ContainsFunc_sl_int_int (Q : Bool → World → Prop) (s : Sl) (f : Value) (w : World) : Prop :=
  Calls Tryz.prog F.slices_IndexFunc_sl_int_int #[s.v, f] w (Ret [.at (.int .i64)] fun (x7 : Int) w1 =>
  Q (decide ((x7 : Int) ≥ 0)) w1)

theorem C_slices_ContainsFunc_sl_int_int {Q : Bool → World → Prop} {s : Sl} {f : Value} {w : World} (h : V_slices_ContainsFunc_sl_int_int Q s f w) : Calls Tryz.prog F.slices_ContainsFunc_sl_int_int #[s.v, f] w (Ret [.at .bool] Q) :=
  mkC (hint := hint) (ann := annOf []) (args := [s.v, f]) (rs := [.at .bool]) Tryz.func78 (by kernel_rfl) (by kernel_rfl) h

def V_i_allWithin_1 (Q : Bool → World → Prop) (n : Int) (cap0 : Addr) (cap1 : Addr) (w : World) : Prop :=
  LD [.int .i64] cap0 w fun (x6 : Int) =>
  LD [.int .i64] cap1 w fun (x7 : Int) =>
  Calls Tryz.prog F.i_within #[.int .i64 n, .int .i64 x6, .int .i64 x7] w (Ret [.at .bool] fun (x8 : Bool) w1 =>
  Q (!x8) w1)

theorem C_i_allWithin_1 {Q : Bool → World → Prop} {n : Int} {cap0 : Addr} {cap1 : Addr} {w : World} (h : V_i_allWithin_1 Q n cap0 cap1 w) : Calls Tryz.prog F.i_allWithin_1 #[.int .i64 n, .pointer (some cap0), .pointer (some cap1)] w (Ret [.at .bool] Q) :=
  mkC (hint := hint) (ann := annOf []) (args := [.int .i64 n, .pointer (some cap0), .pointer (some cap1)]) (rs := [.at .bool]) Tryz.func79 (by kernel_rfl) (by kernel_rfl) h

end Go.Proofs.YtoeaoinedidbiaaGreat
