/- What each function's code computes to. Printed by a program. -/
import Derived.Test.YtoeaoinedidbiaaNames
namespace Go.Proofs.Ytoeaoinedidbiaa
open Go.GX Go.RowKit
set_option linter.unusedVariables false
set_option maxRecDepth 100000

def V_s_l1Own (Q : Sl → World → Prop) (l : Sl) (w : World) : Prop :=
  RUN Try.prog (.at .sl) (Instr.buildSlice T.t_sl_int 0 #[]) w fun (x3 : Sl) w1 =>
  RUN Try.prog (.at .sl) (bsem .append #[T.t_sl_int, T.t_sl_int] T.t_sl_int #[x3.v, l.v]) w1 fun (x5 : Sl) w2 =>
  Q x5 w2

theorem C_s_l1Own {Q : Sl → World → Prop} {l : Sl} {w : World} (h : V_s_l1Own Q l w) : Calls Try.prog F.s_l1Own #[l.v] w (Ret [.at .sl] Q) :=
  mkC (hint := hint) (ann := annOf []) (args := [l.v]) (rs := [.at .sl]) Try.func78 (by kernel_rfl) (by kernel_rfl) h

def V_slices_ContainsFunc_sl_i_edge_i_edge (Q : Bool → World → Prop) (s : Sl) (f : Value) (w : World) : Prop :=
  Calls Try.prog F.slices_IndexFunc_sl_i_edge_i_edge #[s.v, f] w (Ret [.at (.int .i64)] fun (x7 : Int) w1 =>
  Q (decide ((x7 : Int) ≥ 0)) w1)

theorem C_slices_ContainsFunc_sl_i_edge_i_edge {Q : Bool → World → Prop} {s : Sl} {f : Value} {w : World} (h : V_slices_ContainsFunc_sl_i_edge_i_edge Q s f w) : Calls Try.prog F.slices_ContainsFunc_sl_i_edge_i_edge #[s.v, f] w (Ret [.at .bool] Q) :=
  mkC (hint := hint) (ann := annOf []) (args := [s.v, f]) (rs := [.at .bool]) Try.func79 (by kernel_rfl) (by kernel_rfl) h

def V_i_Network_edges_k5 (I6 : Sl → Int → World → Prop) (m6 : Sl → Int → World → Nat) (out_2 : Sl) (x18 : Int) (w3 : World) (out_3 : Sl) (w10 : World) : Prop :=
  I6 out_3 (IntKind.i64.wrap (x18 + 1)) w10 ∧ m6 out_3 (IntKind.i64.wrap (x18 + 1)) w10 < m6 out_2 x18 w3

def V_i_Network_edges (Q : Sl → World → Prop) (n_0 : Sl) (n_1 : Sl) (n_2 : Sl) (w : World) : Prop :=
  NEW T.t_i_Network #[n_0.v, n_1.v, n_2.v] w fun (p_n : Addr) w1 =>
  LD [.sl] (p_n.add 0) w1 fun (x9 : Sl) =>
  ∃ (I3 : Sl → Int → World → Prop) (m3 : Sl → Int → World → Nat), I3 (⟨none, 0, 0⟩) 0 w1 ∧ ∀ (out : Sl) (x11 : Int) w2, I3 out x11 w2 → ∀ _ _ _ _ _ _ _ _ _ _ _ _ _ _ _ _ _ _ _ _ _ _ _ _ _ _ _ _ _ _ _ _ _ _ _ _ _ _ _ _ _ _ _ : Value,
  cond (decide ((x11 : Int) < x9.len)) (
  IX x9 x11 1 fun (px14 : Addr) =>
  LD [.sl] px14 w2 fun (x15 : Sl) =>
  ∃ (I6 : Sl → Int → World → Prop) (m6 : Sl → Int → World → Nat), I6 out 0 w2 ∧ ∀ (out_2 : Sl) (x18 : Int) w3, I6 out_2 x18 w3 → ∀ _ _ _ _ _ _ _ _ _ _ _ _ _ _ _ _ _ _ _ _ _ _ _ _ _ _ _ _ _ _ _ _ _ : Value,
  cond (decide ((x18 : Int) < x15.len)) (
  IX x15 x18 2 fun (px21 : Addr) =>
  LD [.int .i64, .int .i64] px21 w3 fun (x22_0 : Int) (x22_1 : Int) =>
  NEW T.t_i_End #[.int .i64 0, .int .i64 0] w3 fun (p_e : Addr) w4 =>
  ST p_e 0 [.int .i64 x22_0, .int .i64 x22_1] w4 fun w5 =>
  LD [.int .i64] (p_e.add 0) w5 fun (x25 : Int) =>
  cond (decide ((x11 : Int) < x25)) (
  LD [.int .i64] (p_e.add 0) w5 fun (x43 : Int) =>
  LD [.int .i64] (p_e.add 1) w5 fun (x45 : Int) =>
  RUN Try.prog (.at .sl) (Instr.buildSlice T.t_sl_i_edge 1 #[(0, .agg #[.int .i64 x11, .int .i64 x18, .int .i64 x43, .int .i64 x45])]) w5 fun (x47 : Sl) w6 =>
  RUN Try.prog (.at .sl) (bsem .append #[T.t_sl_i_edge, T.t_sl_i_edge] T.t_sl_i_edge #[out_2.v, x47.v]) w6 fun (x48 : Sl) w7 =>
  V_i_Network_edges_k5 I6 m6 out_2 x18 w3 x48 w7) (
  LD [.int .i64] (p_e.add 0) w5 fun (x30 : Int) =>
  cond ((x11 : Int) == x30) (
  LD [.int .i64] (p_e.add 1) w5 fun (x35 : Int) =>
  cond (decide ((x18 : Int) ≤ x35)) (
  LD [.int .i64] (p_e.add 0) w5 fun (x43_2 : Int) =>
  LD [.int .i64] (p_e.add 1) w5 fun (x45_2 : Int) =>
  RUN Try.prog (.at .sl) (Instr.buildSlice T.t_sl_i_edge 1 #[(0, .agg #[.int .i64 x11, .int .i64 x18, .int .i64 x43_2, .int .i64 x45_2])]) w5 fun (x47_2 : Sl) w8 =>
  RUN Try.prog (.at .sl) (bsem .append #[T.t_sl_i_edge, T.t_sl_i_edge] T.t_sl_i_edge #[out_2.v, x47_2.v]) w8 fun (x48_2 : Sl) w9 =>
  V_i_Network_edges_k5 I6 m6 out_2 x18 w3 x48_2 w9) (
  V_i_Network_edges_k5 I6 m6 out_2 x18 w3 out_2 w5)) (
  V_i_Network_edges_k5 I6 m6 out_2 x18 w3 out_2 w5))) (
  I3 out_2 (IntKind.i64.wrap (x11 + 1)) w3 ∧ m3 out_2 (IntKind.i64.wrap (x11 + 1)) w3 < m3 out x11 w2)) (
  Q out w2)

theorem C_i_Network_edges {Q : Sl → World → Prop} {n_0 : Sl} {n_1 : Sl} {n_2 : Sl} {w : World} (h : V_i_Network_edges Q n_0 n_1 n_2 w) : Calls Try.prog F.i_Network_edges #[.agg #[n_0.v, n_1.v, n_2.v]] w (Ret [.at .sl] Q) :=
  mkC (hint := hint) (ann := annOf [(3, ⟨[(3, .sl), (11, .int .i64)], [4, 5, 6, 7, 12, 13, 14, 15, 16, 17, 18, 19, 20, 21, 22, 23, 24, 25, 26, 27, 28, 29, 30, 31, 32, 33, 34, 35, 36, 37, 38, 39, 40, 41, 42, 43, 44, 45, 46, 47, 48, 49, 50]⟩), (6, ⟨[(3, .sl), (18, .int .i64)], [6, 7, 19, 20, 21, 22, 23, 24, 25, 26, 27, 28, 29, 30, 31, 32, 33, 34, 35, 36, 37, 38, 39, 40, 41, 42, 43, 44, 45, 46, 47, 48, 49]⟩)]) (args := [.agg #[n_0.v, n_1.v, n_2.v]]) (rs := [.at .sl]) Try.func80 (by kernel_rfl) (by kernel_rfl) h

def V_i_edge_isLoop (Q : Bool → World → Prop) (e_0 : Int) (e_1 : Int) (e_2 : Int) (e_3 : Int) (w : World) : Prop :=
  NEW T.t_i_edge #[.int .i64 e_0, .int .i64 e_1, .int .i64 e_2, .int .i64 e_3] w fun (p_e : Addr) w1 =>
  LD [.int .i64] (p_e.add 0) w1 fun (x4 : Int) =>
  LD [.int .i64] (p_e.add 2) w1 fun (x6 : Int) =>
  cond ((x4 : Int) == x6) (
  LD [.int .i64] (p_e.add 1) w1 fun (x10 : Int) =>
  LD [.int .i64] (p_e.add 3) w1 fun (x12 : Int) =>
  Q ((x10 : Int) != x12) w1) (
  Q false w1)

theorem C_i_edge_isLoop {Q : Bool → World → Prop} {e_0 : Int} {e_1 : Int} {e_2 : Int} {e_3 : Int} {w : World} (h : V_i_edge_isLoop Q e_0 e_1 e_2 e_3 w) : Calls Try.prog F.i_edge_isLoop #[.agg #[.int .i64 e_0, .int .i64 e_1, .int .i64 e_2, .int .i64 e_3]] w (Ret [.at .bool] Q) :=
  mkC (hint := hint) (ann := annOf []) (args := [.agg #[.int .i64 e_0, .int .i64 e_1, .int .i64 e_2, .int .i64 e_3]]) (rs := [.at .bool]) Try.func81 (by kernel_rfl) (by kernel_rfl) h

def V_i_unlabeled (Q : Sl → World → Prop) (n_0 : Sl) (n_1 : Sl) (n_2 : Sl) (w : World) : Prop :=
  NEW T.t_i_Network #[n_0.v, n_1.v, n_2.v] w fun (p_n : Addr) w1 =>
  LD [.sl] (p_n.add 0) w1 fun (x7 : Sl) =>
  RUN Try.prog (.at .sl) (Instr.makeSlice T.t_sl_sl_int (.int .i64 x7.len) (.int .i64 x7.len)) w1 fun (x9 : Sl) w2 =>
  LD [.sl] (p_n.add 0) w2 fun (x11 : Sl) =>
  ∃ (I3 : Int → World → Prop) (m3 : Int → World → Nat), I3 0 w2 ∧ ∀ (x13 : Int) w3, I3 x13 w3 → ∀ _ _ _ _ _ _ _ _ _ _ _ _ _ _ : Value,
  cond (decide ((x13 : Int) < x11.len)) (
  IX x11 x13 1 fun (px16 : Addr) =>
  LD [.sl] px16 w3 fun (x17 : Sl) =>
  RUN Try.prog (.at .sl) (Instr.buildSlice T.t_sl_int 1 #[(0, .int .i64 (-1))]) w3 fun (x20 : Sl) w4 =>
  Calls Try.prog F.slices_Repeat_sl_int_int #[x20.v, .int .i64 x17.len] w4 (Ret [.at .sl] fun (x23 : Sl) w5 =>
  IX x9 x13 1 fun (px24 : Addr) =>
  ST px24 0 [x23.v] w5 fun w6 =>
  I3 (IntKind.i64.wrap (x13 + 1)) w6 ∧ m3 (IntKind.i64.wrap (x13 + 1)) w6 < m3 x13 w3)) (
  Q x9 w3)

theorem C_i_unlabeled {Q : Sl → World → Prop} {n_0 : Sl} {n_1 : Sl} {n_2 : Sl} {w : World} (h : V_i_unlabeled Q n_0 n_1 n_2 w) : Calls Try.prog F.i_unlabeled #[.agg #[n_0.v, n_1.v, n_2.v]] w (Ret [.at .sl] Q) :=
  mkC (hint := hint) (ann := annOf [(3, ⟨[(13, .int .i64)], [4, 5, 14, 15, 16, 17, 18, 19, 20, 21, 22, 23, 24, 25]⟩)]) (args := [.agg #[n_0.v, n_1.v, n_2.v]]) (rs := [.at .sl]) Try.func82 (by kernel_rfl) (by kernel_rfl) h

def V_i_leastFree (Q : Int → World → Prop) (used : Sl) (w : World) : Prop :=
  ∃ (I2 : Int → World → Prop) (m2 : Int → World → Nat), I2 0 w ∧ ∀ (c : Int) w1, I2 c w1 → ∀ _ _ _ _ _ : Value,
  Calls Try.prog F.slices_Contains_sl_int_int #[used.v, .int .i64 c] w1 (Ret [.at .bool] fun (x6 : Bool) w2 =>
  cond x6 (
  I2 (IntKind.i64.wrap (c + 1)) w2 ∧ m2 (IntKind.i64.wrap (c + 1)) w2 < m2 c w1) (
  Q c w2))

theorem C_i_leastFree {Q : Int → World → Prop} {used : Sl} {w : World} (h : V_i_leastFree Q used w) : Calls Try.prog F.i_leastFree #[used.v] w (Ret [.at (.int .i64)] Q) :=
  mkC (hint := hint) (ann := annOf [(2, ⟨[(3, .int .i64)], [4, 5, 6, 7, 8]⟩)]) (args := [used.v]) (rs := [.at (.int .i64)]) Try.func83 (by kernel_rfl) (by kernel_rfl) h

def V_slices_Concat_sl_int_int (Q : Sl → World → Prop) (slices : Sl) (w : World) : Prop :=
  ∃ (I3 : Int → Int → World → Prop) (m3 : Int → Int → World → Nat), I3 0 0 w ∧ ∀ (size1 : Int) (x11 : Int) w1, I3 size1 x11 w1 → ∀ _ _ _ _ _ _ _ _ _ _ _ _ : Value,
  cond (decide ((x11 : Int) < slices.len)) (
  IX slices x11 1 fun (px13 : Addr) =>
  LD [.sl] px13 w1 fun (x14 : Sl) =>
  cond (decide (((IntKind.i64.wrap (size1 + x14.len)) : Int) < 0)) (
  False) (
  I3 (IntKind.i64.wrap (size1 + x14.len)) (IntKind.i64.wrap (x11 + 1)) w1 ∧ m3 (IntKind.i64.wrap (size1 + x14.len)) (IntKind.i64.wrap (x11 + 1)) w1 < m3 size1 x11 w1)) (
  Calls Try.prog F.slices_Grow_sl_int_int #[.slice none 0 0, .int .i64 size1] w1 (Ret [.at .sl] fun (x24 : Sl) w2 =>
  ∃ (I11 : Sl → Int → World → Prop) (m11 : Sl → Int → World → Nat), I11 x24 0 w2 ∧ ∀ (newslice : Sl) (x27 : Int) w3, I11 newslice x27 w3 → ∀ _ _ _ _ _ _ _ _ : Value,
  cond (decide ((x27 : Int) < slices.len)) (
  IX slices x27 1 fun (px29 : Addr) =>
  LD [.sl] px29 w3 fun (x30 : Sl) =>
  RUN Try.prog (.at .sl) (bsem .append #[T.t_sl_int, T.t_sl_int] T.t_sl_int #[newslice.v, x30.v]) w3 fun (x33 : Sl) w4 =>
  I11 x33 (IntKind.i64.wrap (x27 + 1)) w4 ∧ m11 x33 (IntKind.i64.wrap (x27 + 1)) w4 < m11 newslice x27 w3) (
  Q newslice w3)))

theorem C_slices_Concat_sl_int_int {Q : Sl → World → Prop} {slices : Sl} {w : World} (h : V_slices_Concat_sl_int_int Q slices w) : Calls Try.prog F.slices_Concat_sl_int_int #[slices.v] w (Ret [.at .sl] Q) :=
  mkC (hint := hint) (ann := annOf [(3, ⟨[(3, .int .i64), (11, .int .i64)], [5, 12, 13, 14, 15, 16, 17, 18, 19, 20, 21, 22]⟩), (11, ⟨[(6, .sl), (27, .int .i64)], [8, 28, 29, 30, 31, 32, 33, 34]⟩)]) (args := [slices.v]) (rs := [.at .sl]) Try.func84 (by kernel_rfl) (by kernel_rfl) h

def V_s_DoubleCover (Q : Sl → Sl → Sl → Bool → World → Prop) (n_0 : Sl) (n_1 : Sl) (n_2 : Sl) (w : World) : Prop :=
  NEW T.t_i_Network #[n_0.v, n_1.v, n_2.v] w fun (p_n : Addr) w1 =>
  NEW T.t_i_Network #[.slice none 0 0, .slice none 0 0, .slice none 0 0] w1 fun (px2 : Addr) w2 =>
  LD [.sl, .sl, .sl] p_n w2 fun (x4_0 : Sl) (x4_1 : Sl) (x4_2 : Sl) =>
  Calls Try.prog F.s_neGood #[.agg #[x4_0.v, x4_1.v, x4_2.v]] w2 (Ret [.at .bool] fun (x5 : Bool) w3 =>
  cond (!x5) (
  ST px2 0 [.slice none 0 0, .slice none 0 0, .slice none 0 0] w3 fun w4 =>
  LD [.sl, .sl, .sl] px2 w4 fun (r0_0 : Sl) (r0_1 : Sl) (r0_2 : Sl) =>
  Q r0_0 r0_1 r0_2 false w4) (
  LD [.sl, .sl, .sl] p_n w3 fun (x8_0 : Sl) (x8_1 : Sl) (x8_2 : Sl) =>
  Calls Try.prog F.s_buDouble #[.agg #[x8_0.v, x8_1.v, x8_2.v]] w3 (Ret [.agg [.sl, .sl, .sl]] fun (x9_0 : Sl) (x9_1 : Sl) (x9_2 : Sl) w5 =>
  Calls Try.prog F.s_neIf #[.agg #[x9_0.v, x9_1.v, x9_2.v]] w5 (Ret [.agg [.sl, .sl, .sl], .at .bool] fun (x10_0_0 : Sl) (x10_0_1 : Sl) (x10_0_2 : Sl) (x10_1 : Bool) w6 =>
  ST px2 0 [x10_0_0.v, x10_0_1.v, x10_0_2.v] w6 fun w7 =>
  LD [.sl, .sl, .sl] px2 w7 fun (r0_0_2 : Sl) (r0_1_2 : Sl) (r0_2_2 : Sl) =>
  Q r0_0_2 r0_1_2 r0_2_2 x10_1 w7))))

theorem C_s_DoubleCover {Q : Sl → Sl → Sl → Bool → World → Prop} {n_0 : Sl} {n_1 : Sl} {n_2 : Sl} {w : World} (h : V_s_DoubleCover Q n_0 n_1 n_2 w) : Calls Try.prog F.s_DoubleCover #[.agg #[n_0.v, n_1.v, n_2.v]] w (Ret [.agg [.sl, .sl, .sl], .at .bool] Q) :=
  mkC (hint := hint) (ann := annOf []) (args := [.agg #[n_0.v, n_1.v, n_2.v]]) (rs := [.agg [.sl, .sl, .sl], .at .bool]) Try.func85 (by kernel_rfl) (by kernel_rfl) h

def V_s_mtCover (Q : Sl → World → Prop) (n_0 : Sl) (n_1 : Sl) (n_2 : Sl) (w : World) : Prop :=
  NEW T.t_i_Network #[n_0.v, n_1.v, n_2.v] w fun (p_n : Addr) w1 =>
  LD [.sl] (p_n.add 0) w1 fun (x11 : Sl) =>
  RUN Try.prog (.at .sl) (Instr.makeSlice T.t_sl_int (.int .i64 (IntKind.i64.wrap (2 * x11.len))) (.int .i64 (IntKind.i64.wrap (2 * x11.len)))) w1 fun (x15 : Sl) w2 =>
  ∃ (I4 : Int → World → Prop) (m4 : Int → World → Nat), I4 x11.len w2 ∧ ∀ (v : Int) w3, I4 v w3 → ∀ _ _ _ _ _ _ _ _ _ : Value,
  cond (decide ((v : Int) < (IntKind.i64.wrap (2 * x11.len)))) (
  IX x15 v 1 fun (px25 : Addr) =>
  ST px25 0 [.int .i64 1] w3 fun w4 =>
  I4 (IntKind.i64.wrap (v + 1)) w4 ∧ m4 (IntKind.i64.wrap (v + 1)) w4 < m4 v w3) (
  LD [.sl, .sl, .sl] p_n w3 fun (x27_0 : Sl) (x27_1 : Sl) (x27_2 : Sl) =>
  Calls Try.prog F.s_buDouble #[.agg #[x27_0.v, x27_1.v, x27_2.v]] w3 (Ret [.agg [.sl, .sl, .sl]] fun (x28_0 : Sl) (x28_1 : Sl) (x28_2 : Sl) w5 =>
  Calls Try.prog F.s_mtProposals #[.agg #[x28_0.v, x28_1.v, x28_2.v], x15.v] w5 (Ret [.at .sl, .at (.int .i64)] fun (x30_0 : Sl) (x30_1 : Int) w6 =>
  ∃ (I10 : Sl → Int → World → Prop) (m10 : Sl → Int → World → Nat), I10 (⟨none, 0, 0⟩) 0 w6 ∧ ∀ (out : Sl) (v_2 : Int) w7, I10 out v_2 w7 → ∀ _ _ _ _ _ _ _ _ _ _ _ _ _ _ _ _ _ _ _ _ _ _ _ : Value,
  cond (decide ((v_2 : Int) < x11.len)) (
  IX x30_0 v_2 1 fun (px40 : Addr) =>
  LD [.int .i64] px40 w7 fun (x41 : Int) =>
  cond (decide ((x41 : Int) ≥ 0)) (
  RUN Try.prog (.at .sl) (Instr.buildSlice T.t_sl_int 1 #[(0, .int .i64 v_2)]) w7 fun (x54 : Sl) w8 =>
  RUN Try.prog (.at .sl) (bsem .append #[T.t_sl_int, T.t_sl_int] T.t_sl_int #[out.v, x54.v]) w8 fun (x55 : Sl) w9 =>
  I10 x55 (IntKind.i64.wrap (v_2 + 1)) w9 ∧ m10 x55 (IntKind.i64.wrap (v_2 + 1)) w9 < m10 out v_2 w7) (
  IX x30_0 (IntKind.i64.wrap (v_2 + x11.len)) 1 fun (px48 : Addr) =>
  LD [.int .i64] px48 w7 fun (x49 : Int) =>
  cond (decide ((x49 : Int) ≥ 0)) (
  RUN Try.prog (.at .sl) (Instr.buildSlice T.t_sl_int 1 #[(0, .int .i64 v_2)]) w7 fun (x54_2 : Sl) w10 =>
  RUN Try.prog (.at .sl) (bsem .append #[T.t_sl_int, T.t_sl_int] T.t_sl_int #[out.v, x54_2.v]) w10 fun (x55_2 : Sl) w11 =>
  I10 x55_2 (IntKind.i64.wrap (v_2 + 1)) w11 ∧ m10 x55_2 (IntKind.i64.wrap (v_2 + 1)) w11 < m10 out v_2 w7) (
  I10 out (IntKind.i64.wrap (v_2 + 1)) w7 ∧ m10 out (IntKind.i64.wrap (v_2 + 1)) w7 < m10 out v_2 w7))) (
  Q out w7))))

theorem C_s_mtCover {Q : Sl → World → Prop} {n_0 : Sl} {n_1 : Sl} {n_2 : Sl} {w : World} (h : V_s_mtCover Q n_0 n_1 n_2 w) : Calls Try.prog F.s_mtCover #[.agg #[n_0.v, n_1.v, n_2.v]] w (Ret [.at .sl] Q) :=
  mkC (hint := hint) (ann := annOf [(4, ⟨[(5, .int .i64)], [17, 18, 19, 20, 21, 22, 23, 24, 25]⟩), (10, ⟨[(8, .sl), (9, .int .i64)], [33, 34, 35, 36, 37, 38, 39, 40, 41, 42, 43, 44, 45, 46, 47, 48, 49, 50, 51, 52, 53, 54, 55]⟩)]) (args := [.agg #[n_0.v, n_1.v, n_2.v]]) (rs := [.at .sl]) Try.func86 (by kernel_rfl) (by kernel_rfl) h

def V_i_DoubleCover_k2 (Q : Sl → Sl → Sl → Bool → World → Prop) (px1 : Addr) (px2 : Addr) (x15 : Sl) (x5 : Addr) (w52 : World) : Prop :=
  LD [.sl] (px1.add 0) w52 fun (x28 : Sl) =>
  ∃ (I6 : Int → World → Prop) (m6 : Int → World → Nat), I6 0 w52 ∧ ∀ (x30 : Int) w53, I6 x30 w53 → ∀ _ _ _ _ _ _ _ _ _ _ _ _ _ _ _ _ _ _ _ _ _ _ _ _ _ _ _ _ _ _ _ _ _ _ _ _ _ _ _ _ _ _ _ _ _ _ _ _ _ : Value,
  cond (decide ((x30 : Int) < x28.len)) (
  IX x28 x30 1 fun (px33 : Addr) =>
  LD [.sl] px33 w53 fun (x34 : Sl) =>
  ∃ (I9 : Int → World → Prop) (m9 : Int → World → Nat), I9 0 w53 ∧ ∀ (x37 : Int) w54, I9 x37 w54 → ∀ _ _ _ _ _ _ _ _ _ _ _ _ _ _ _ _ _ _ _ _ _ _ _ _ _ _ _ _ _ _ _ _ _ _ _ _ _ _ _ : Value,
  cond (decide ((x37 : Int) < x34.len)) (
  IX x34 x37 2 fun (px39 : Addr) =>
  LD [.int .i64, .int .i64] px39 w54 fun (x40_0 : Int) (x40_1 : Int) =>
  NEW T.t_i_End #[.int .i64 0, .int .i64 0] w54 fun (px9 : Addr) w55 =>
  ST px9 0 [.int .i64 x40_0, .int .i64 x40_1] w55 fun w56 =>
  ∀ w57, Ext w56 w57 → w57.heap = w56.heap → ∃ (D57 : Nat → Prop),
  ¬ D57 (x5.add 0).block ∧ (
  LD [.sl] (x5.add 0) w57 fun (x42 : Sl) =>
  ¬ D57 (x5.add 0).block ∧ (
  LD [.sl] (x5.add 0) w57 fun (x45 : Sl) =>
  IX x45 x30 1 fun (px47 : Addr) =>
  ¬ D57 px47.block ∧ (
  LD [.sl] px47 w57 fun (x48 : Sl) =>
  ¬ D57 (px9.add 0).block ∧ (
  LD [.int .i64] (px9.add 0) w57 fun (x50 : Int) =>
  Chg w57 w57 D57 ∧ (
  LD [.int .i64] (px9.add 1) w57 fun (x54 : Int) =>
  Chg w57 w57 D57 ∧ (
  Chg w57 w57 D57 ∧ (
  RUN Try.prog (.at .sl) (Instr.buildSlice T.t_sl_i_End 1 #[(0, .agg #[.int .i64 (IntKind.i64.wrap (x50 + x15.len)), .int .i64 x54])]) w57 fun (x56 : Sl) w58 =>
  Chg w57 w58 D57 ∧ (
  RUN Try.prog (.at .sl) (bsem .append #[T.t_sl_i_End, T.t_sl_i_End] T.t_sl_i_End #[x48.v, x56.v]) w58 fun (x57 : Sl) w59 =>
  Chg w57 w59 D57 ∧ (
  IX x42 x30 1 fun (px58 : Addr) =>
  ST px58 0 [x57.v] w59 fun w60 =>
  ∀ w61, Ext w60 w61 → w61.heap = w60.heap → ∃ (D61 : Nat → Prop),
  ¬ D61 (x5.add 0).block ∧ (
  LD [.sl] (x5.add 0) w61 fun (x60 : Sl) =>
  ¬ D61 (x5.add 0).block ∧ (
  LD [.sl] (x5.add 0) w61 fun (x65 : Sl) =>
  IX x65 (IntKind.i64.wrap (x30 + x15.len)) 1 fun (px69 : Addr) =>
  ¬ D61 px69.block ∧ (
  LD [.sl] px69 w61 fun (x70 : Sl) =>
  LD [.int .i64, .int .i64] px9 w61 fun (x71_0 : Int) (x71_1 : Int) =>
  Chg w61 w61 D61 ∧ (
  RUN Try.prog (.at .sl) (Instr.buildSlice T.t_sl_i_End 1 #[(0, .agg #[.int .i64 x71_0, .int .i64 x71_1])]) w61 fun (x72 : Sl) w62 =>
  Chg w61 w62 D61 ∧ (
  RUN Try.prog (.at .sl) (bsem .append #[T.t_sl_i_End, T.t_sl_i_End] T.t_sl_i_End #[x70.v, x72.v]) w62 fun (x73 : Sl) w63 =>
  Chg w61 w63 D61 ∧ (
  IX x60 (IntKind.i64.wrap (x30 + x15.len)) 1 fun (px74 : Addr) =>
  ST px74 0 [x73.v] w63 fun w64 =>
  I9 (IntKind.i64.wrap (x37 + 1)) w64 ∧ m9 (IntKind.i64.wrap (x37 + 1)) w64 < m9 x37 w54)))))))))))))))) (
  I6 (IntKind.i64.wrap (x30 + 1)) w54 ∧ m6 (IntKind.i64.wrap (x30 + 1)) w54 < m6 x30 w53)) (
  LD [.sl, .sl, .sl] x5 w53 fun (x77_0 : Sl) (x77_1 : Sl) (x77_2 : Sl) =>
  Calls Try.prog F.i_network #[.agg #[x77_0.v, x77_1.v, x77_2.v]] w53 (Ret [.agg [.sl, .sl, .sl], .at .bool] fun (x78_0_0 : Sl) (x78_0_1 : Sl) (x78_0_2 : Sl) (x78_1 : Bool) w65 =>
  ST px2 0 [x78_0_0.v, x78_0_1.v, x78_0_2.v] w65 fun w66 =>
  LD [.sl, .sl, .sl] px2 w66 fun (r0_0_2 : Sl) (r0_1_2 : Sl) (r0_2_2 : Sl) =>
  Q r0_0_2 r0_1_2 r0_2_2 x78_1 w66))

def V_i_DoubleCover (Q : Sl → Sl → Sl → Bool → World → Prop) (x0_0 : Sl) (x0_1 : Sl) (x0_2 : Sl) (w : World) : Prop :=
  NEW T.t_i_Network #[x0_0.v, x0_1.v, x0_2.v] w fun (px1 : Addr) w1 =>
  NEW T.t_i_Network #[.slice none 0 0, .slice none 0 0, .slice none 0 0] w1 fun (px2 : Addr) w2 =>
  LD [.sl, .sl, .sl] px1 w2 fun (x10_0 : Sl) (x10_1 : Sl) (x10_2 : Sl) =>
  Calls Try.prog F.i_IsNetwork #[.agg #[x10_0.v, x10_1.v, x10_2.v]] w2 (Ret [.at .bool] fun (x11 : Bool) w3 =>
  cond (!x11) (
  ST px2 0 [.slice none 0 0, .slice none 0 0, .slice none 0 0] w3 fun w4 =>
  LD [.sl, .sl, .sl] px2 w4 fun (r0_0 : Sl) (r0_1 : Sl) (r0_2 : Sl) =>
  Q r0_0 r0_1 r0_2 false w4) (
  LD [.sl] (px1.add 0) w3 fun (x15 : Sl) =>
  ∀ w5, Ext w3 w5 → w5.heap = w3.heap → ∃ (D5 : Nat → Prop),
  ¬ D5 (px1.add 2).block ∧ (
  LD [.sl] (px1.add 2) w5 fun (x21 : Sl) =>
  ¬ D5 (px1.add 2).block ∧ (
  LD [.sl] (px1.add 2) w5 fun (x23 : Sl) =>
  (
  RUN Try.prog (.at .sl) (Instr.makeSlice T.t_sl_sl_i_End (.int .i64 (IntKind.i64.wrap (2 * x15.len))) (.int .i64 (IntKind.i64.wrap (2 * x15.len)))) w5 fun (x19 : Sl) w6 =>
  Chg w5 w6 D5 ∧ (
  (
  RUN Try.prog (.at .sl) (Instr.buildSlice T.t_sl_sl_int 2 #[(0, x21.v), (1, x23.v)]) w6 fun (x24 : Sl) w7 =>
  Chg w5 w7 D5 ∧ (
  (
  Calls Try.prog F.slices_Concat_sl_int_int #[x24.v] w7 (Ret [.at .sl] fun (x25 : Sl) w8 =>
  Chg w5 w8 D5 ∧ (
  NEW T.t_i_Network #[.slice none 0 0, .slice none 0 0, .slice none 0 0] w8 fun (px5 : Addr) w9 =>
  Chg w5 w9 D5 ∧ (
  ST px5 0 [x19.v, .slice none 0 0, x25.v] w9 fun w10 =>
  Chg w5 w10 D5 ∧ (
  V_i_DoubleCover_k2 Q px1 px2 x15 px5 w10))))) ∧ (
  NEW T.t_i_Network #[.slice none 0 0, .slice none 0 0, .slice none 0 0] w7 fun (px5_2 : Addr) w11 =>
  Chg w5 w11 D5 ∧ (
  Calls Try.prog F.slices_Concat_sl_int_int #[x24.v] w11 (Ret [.at .sl] fun (x25_2 : Sl) w12 =>
  Chg w5 w12 D5 ∧ (
  Chg w5 w12 D5 ∧ (
  ST px5_2 0 [x19.v, .slice none 0 0, x25_2.v] w12 fun w13 =>
  Chg w5 w13 D5 ∧ (
  V_i_DoubleCover_k2 Q px1 px2 x15 px5_2 w13)))))))) ∧ (
  NEW T.t_i_Network #[.slice none 0 0, .slice none 0 0, .slice none 0 0] w6 fun (px5_3 : Addr) w14 =>
  Chg w5 w14 D5 ∧ (
  RUN Try.prog (.at .sl) (Instr.buildSlice T.t_sl_sl_int 2 #[(0, x21.v), (1, x23.v)]) w14 fun (x24_2 : Sl) w15 =>
  Chg w5 w15 D5 ∧ (
  Calls Try.prog F.slices_Concat_sl_int_int #[x24_2.v] w15 (Ret [.at .sl] fun (x25_3 : Sl) w16 =>
  Chg w5 w16 D5 ∧ (
  Chg w5 w16 D5 ∧ (
  ST px5_3 0 [x19.v, .slice none 0 0, x25_3.v] w16 fun w17 =>
  Chg w5 w17 D5 ∧ (
  V_i_DoubleCover_k2 Q px1 px2 x15 px5_3 w17))))))))) ∧ (
  RUN Try.prog (.at .sl) (Instr.buildSlice T.t_sl_sl_int 2 #[(0, x21.v), (1, x23.v)]) w5 fun (x24_3 : Sl) w18 =>
  Chg w5 w18 D5 ∧ (
  (
  RUN Try.prog (.at .sl) (Instr.makeSlice T.t_sl_sl_i_End (.int .i64 (IntKind.i64.wrap (2 * x15.len))) (.int .i64 (IntKind.i64.wrap (2 * x15.len)))) w18 fun (x19_2 : Sl) w19 =>
  Chg w5 w19 D5 ∧ (
  (
  Calls Try.prog F.slices_Concat_sl_int_int #[x24_3.v] w19 (Ret [.at .sl] fun (x25_4 : Sl) w20 =>
  Chg w5 w20 D5 ∧ (
  NEW T.t_i_Network #[.slice none 0 0, .slice none 0 0, .slice none 0 0] w20 fun (px5_4 : Addr) w21 =>
  Chg w5 w21 D5 ∧ (
  ST px5_4 0 [x19_2.v, .slice none 0 0, x25_4.v] w21 fun w22 =>
  Chg w5 w22 D5 ∧ (
  V_i_DoubleCover_k2 Q px1 px2 x15 px5_4 w22))))) ∧ (
  NEW T.t_i_Network #[.slice none 0 0, .slice none 0 0, .slice none 0 0] w19 fun (px5_5 : Addr) w23 =>
  Chg w5 w23 D5 ∧ (
  Calls Try.prog F.slices_Concat_sl_int_int #[x24_3.v] w23 (Ret [.at .sl] fun (x25_5 : Sl) w24 =>
  Chg w5 w24 D5 ∧ (
  Chg w5 w24 D5 ∧ (
  ST px5_5 0 [x19_2.v, .slice none 0 0, x25_5.v] w24 fun w25 =>
  Chg w5 w25 D5 ∧ (
  V_i_DoubleCover_k2 Q px1 px2 x15 px5_5 w25)))))))) ∧ (
  Calls Try.prog F.slices_Concat_sl_int_int #[x24_3.v] w18 (Ret [.at .sl] fun (x25_6 : Sl) w26 =>
  Chg w5 w26 D5 ∧ (
  (
  RUN Try.prog (.at .sl) (Instr.makeSlice T.t_sl_sl_i_End (.int .i64 (IntKind.i64.wrap (2 * x15.len))) (.int .i64 (IntKind.i64.wrap (2 * x15.len)))) w26 fun (x19_3 : Sl) w27 =>
  Chg w5 w27 D5 ∧ (
  NEW T.t_i_Network #[.slice none 0 0, .slice none 0 0, .slice none 0 0] w27 fun (px5_6 : Addr) w28 =>
  Chg w5 w28 D5 ∧ (
  ST px5_6 0 [x19_3.v, .slice none 0 0, x25_6.v] w28 fun w29 =>
  Chg w5 w29 D5 ∧ (
  V_i_DoubleCover_k2 Q px1 px2 x15 px5_6 w29)))) ∧ (
  NEW T.t_i_Network #[.slice none 0 0, .slice none 0 0, .slice none 0 0] w26 fun (px5_7 : Addr) w30 =>
  Chg w5 w30 D5 ∧ (
  RUN Try.prog (.at .sl) (Instr.makeSlice T.t_sl_sl_i_End (.int .i64 (IntKind.i64.wrap (2 * x15.len))) (.int .i64 (IntKind.i64.wrap (2 * x15.len)))) w30 fun (x19_4 : Sl) w31 =>
  Chg w5 w31 D5 ∧ (
  Chg w5 w31 D5 ∧ (
  ST px5_7 0 [x19_4.v, .slice none 0 0, x25_6.v] w31 fun w32 =>
  Chg w5 w32 D5 ∧ (
  V_i_DoubleCover_k2 Q px1 px2 x15 px5_7 w32)))))))) ∧ (
  NEW T.t_i_Network #[.slice none 0 0, .slice none 0 0, .slice none 0 0] w18 fun (px5_8 : Addr) w33 =>
  Chg w5 w33 D5 ∧ (
  (
  RUN Try.prog (.at .sl) (Instr.makeSlice T.t_sl_sl_i_End (.int .i64 (IntKind.i64.wrap (2 * x15.len))) (.int .i64 (IntKind.i64.wrap (2 * x15.len)))) w33 fun (x19_5 : Sl) w34 =>
  Chg w5 w34 D5 ∧ (
  Calls Try.prog F.slices_Concat_sl_int_int #[x24_3.v] w34 (Ret [.at .sl] fun (x25_7 : Sl) w35 =>
  Chg w5 w35 D5 ∧ (
  Chg w5 w35 D5 ∧ (
  ST px5_8 0 [x19_5.v, .slice none 0 0, x25_7.v] w35 fun w36 =>
  Chg w5 w36 D5 ∧ (
  V_i_DoubleCover_k2 Q px1 px2 x15 px5_8 w36)))))) ∧ (
  Calls Try.prog F.slices_Concat_sl_int_int #[x24_3.v] w33 (Ret [.at .sl] fun (x25_8 : Sl) w37 =>
  Chg w5 w37 D5 ∧ (
  RUN Try.prog (.at .sl) (Instr.makeSlice T.t_sl_sl_i_End (.int .i64 (IntKind.i64.wrap (2 * x15.len))) (.int .i64 (IntKind.i64.wrap (2 * x15.len)))) w37 fun (x19_6 : Sl) w38 =>
  Chg w5 w38 D5 ∧ (
  Chg w5 w38 D5 ∧ (
  ST px5_8 0 [x19_6.v, .slice none 0 0, x25_8.v] w38 fun w39 =>
  Chg w5 w39 D5 ∧ (
  V_i_DoubleCover_k2 Q px1 px2 x15 px5_8 w39)))))))))) ∧ (
  NEW T.t_i_Network #[.slice none 0 0, .slice none 0 0, .slice none 0 0] w5 fun (px5_9 : Addr) w40 =>
  Chg w5 w40 D5 ∧ (
  (
  RUN Try.prog (.at .sl) (Instr.makeSlice T.t_sl_sl_i_End (.int .i64 (IntKind.i64.wrap (2 * x15.len))) (.int .i64 (IntKind.i64.wrap (2 * x15.len)))) w40 fun (x19_7 : Sl) w41 =>
  Chg w5 w41 D5 ∧ (
  RUN Try.prog (.at .sl) (Instr.buildSlice T.t_sl_sl_int 2 #[(0, x21.v), (1, x23.v)]) w41 fun (x24_4 : Sl) w42 =>
  Chg w5 w42 D5 ∧ (
  Calls Try.prog F.slices_Concat_sl_int_int #[x24_4.v] w42 (Ret [.at .sl] fun (x25_9 : Sl) w43 =>
  Chg w5 w43 D5 ∧ (
  Chg w5 w43 D5 ∧ (
  ST px5_9 0 [x19_7.v, .slice none 0 0, x25_9.v] w43 fun w44 =>
  Chg w5 w44 D5 ∧ (
  V_i_DoubleCover_k2 Q px1 px2 x15 px5_9 w44))))))) ∧ (
  RUN Try.prog (.at .sl) (Instr.buildSlice T.t_sl_sl_int 2 #[(0, x21.v), (1, x23.v)]) w40 fun (x24_5 : Sl) w45 =>
  Chg w5 w45 D5 ∧ (
  (
  RUN Try.prog (.at .sl) (Instr.makeSlice T.t_sl_sl_i_End (.int .i64 (IntKind.i64.wrap (2 * x15.len))) (.int .i64 (IntKind.i64.wrap (2 * x15.len)))) w45 fun (x19_8 : Sl) w46 =>
  Chg w5 w46 D5 ∧ (
  Calls Try.prog F.slices_Concat_sl_int_int #[x24_5.v] w46 (Ret [.at .sl] fun (x25_10 : Sl) w47 =>
  Chg w5 w47 D5 ∧ (
  Chg w5 w47 D5 ∧ (
  ST px5_9 0 [x19_8.v, .slice none 0 0, x25_10.v] w47 fun w48 =>
  Chg w5 w48 D5 ∧ (
  V_i_DoubleCover_k2 Q px1 px2 x15 px5_9 w48)))))) ∧ (
  Calls Try.prog F.slices_Concat_sl_int_int #[x24_5.v] w45 (Ret [.at .sl] fun (x25_11 : Sl) w49 =>
  Chg w5 w49 D5 ∧ (
  RUN Try.prog (.at .sl) (Instr.makeSlice T.t_sl_sl_i_End (.int .i64 (IntKind.i64.wrap (2 * x15.len))) (.int .i64 (IntKind.i64.wrap (2 * x15.len)))) w49 fun (x19_9 : Sl) w50 =>
  Chg w5 w50 D5 ∧ (
  Chg w5 w50 D5 ∧ (
  ST px5_9 0 [x19_9.v, .slice none 0 0, x25_11.v] w50 fun w51 =>
  Chg w5 w51 D5 ∧ (
  V_i_DoubleCover_k2 Q px1 px2 x15 px5_9 w51))))))))))))))

theorem C_i_DoubleCover {Q : Sl → Sl → Sl → Bool → World → Prop} {x0_0 : Sl} {x0_1 : Sl} {x0_2 : Sl} {w : World} (h : V_i_DoubleCover Q x0_0 x0_1 x0_2 w) : Calls Try.prog F.i_DoubleCover #[.agg #[x0_0.v, x0_1.v, x0_2.v]] w (Ret [.agg [.sl, .sl, .sl], .at .bool] Q) :=
  mkC (hint := hint) (ann := annOf [(6, ⟨[(30, .int .i64)], [6, 7, 9, 31, 32, 33, 34, 35, 36, 37, 38, 39, 40, 41, 42, 43, 44, 45, 46, 47, 48, 49, 50, 51, 52, 53, 54, 55, 56, 57, 58, 59, 60, 61, 62, 63, 64, 65, 66, 67, 68, 69, 70, 71, 72, 73, 74, 75, 76]⟩), (9, ⟨[(37, .int .i64)], [9, 38, 39, 40, 41, 42, 43, 44, 45, 46, 47, 48, 49, 50, 51, 52, 53, 54, 55, 56, 57, 58, 59, 60, 61, 62, 63, 64, 65, 66, 67, 68, 69, 70, 71, 72, 73, 74, 75]⟩)]) (args := [.agg #[x0_0.v, x0_1.v, x0_2.v]]) (rs := [.agg [.sl, .sl, .sl], .at .bool]) Try.func87 (by kernel_rfl) (by kernel_rfl) h

def V_i_proposalMatching_k9 (I14 : Int → World → Prop) (m14 : Int → World → Nat) (x46 : Int) (w7 : World) (w16 : World) : Prop :=
  I14 (IntKind.i64.wrap (x46 + 1)) w16 ∧ m14 (IntKind.i64.wrap (x46 + 1)) w16 < m14 x46 w7

def V_i_proposalMatching_k10 (I14 : Int → World → Prop) (m14 : Int → World → Nat) (x46 : Int) (w7 : World) (x18 : Sl) (x38 : Int) (x42 : Sl) (x50 : Sl) (w8 : World) : Prop :=
  IX x50 x38 2 fun (px71 : Addr) =>
  LD [.int .i64, .int .i64] px71 w8 fun (x72_0 : Int) (x72_1 : Int) =>
  NEW T.t_i_End #[.int .i64 0, .int .i64 0] w8 fun (px14 : Addr) w9 =>
  ST px14 0 [.int .i64 x72_0, .int .i64 x72_1] w9 fun w10 =>
  LD [.int .i64] (px14.add 0) w10 fun (x75 : Int) =>
  IX x18 x75 1 fun (px76 : Addr) =>
  LD [.int .i64] px76 w10 fun (x77 : Int) =>
  cond (decide ((x77 : Int) < 0)) (
  LD [.int .i64] (px14.add 0) w10 fun (x82 : Int) =>
  IX x42 x82 1 fun (px83 : Addr) =>
  LD [.int .i64] px83 w10 fun (x84 : Int) =>
  cond (decide ((x84 : Int) < 0)) (
  ∀ w11, Ext w10 w11 →
  LD [.int .i64] (px14.add 0) w11 fun (x99 : Int) =>
  LD [.int .i64] (px14.add 1) w11 fun (x101 : Int) =>
  IX x42 x99 1 fun (px102 : Addr) =>
  ST px102 0 [.int .i64 x101] w11 fun w14 =>
  V_i_proposalMatching_k9 I14 m14 x46 w7 w14) (
  LD [.int .i64] (px14.add 1) w10 fun (x88 : Int) =>
  LD [.int .i64] (px14.add 0) w10 fun (x91 : Int) =>
  IX x42 x91 1 fun (px92 : Addr) =>
  LD [.int .i64] px92 w10 fun (x93 : Int) =>
  ∀ w12, Ext w10 w12 →
  cond (decide ((x88 : Int) < x93)) (
  LD [.int .i64] (px14.add 0) w12 fun (x99_2 : Int) =>
  LD [.int .i64] (px14.add 1) w12 fun (x101_2 : Int) =>
  IX x42 x99_2 1 fun (px102_2 : Addr) =>
  ST px102_2 0 [.int .i64 x101_2] w12 fun w15 =>
  V_i_proposalMatching_k9 I14 m14 x46 w7 w15) (
  V_i_proposalMatching_k9 I14 m14 x46 w7 w12))) (
  ∀ w13, Ext w10 w13 →
  V_i_proposalMatching_k9 I14 m14 x46 w7 w13)

def V_i_proposalMatching (Q : Sl → Int → World → Prop) (x0_0 : Sl) (x0_1 : Sl) (x0_2 : Sl) (x1 : Sl) (w : World) : Prop :=
  NEW T.t_i_Network #[x0_0.v, x0_1.v, x0_2.v] w fun (px2 : Addr) w1 =>
  LD [.sl, .sl, .sl] px2 w1 fun (x17_0 : Sl) (x17_1 : Sl) (x17_2 : Sl) =>
  Calls Try.prog F.i_noMatching #[.agg #[x17_0.v, x17_1.v, x17_2.v]] w1 (Ret [.at .sl] fun (x18 : Sl) w2 =>
  LD [.sl] (px2.add 0) w2 fun (x20 : Sl) =>
  ∃ (I4 : Int → Int → World → Prop) (m4 : Int → Int → World → Nat), I4 0 0 w2 ∧ ∀ (x7 : Int) (x22 : Int) w3, I4 x7 x22 w3 → ∀ _ _ _ _ _ _ _ _ _ _ _ _ _ _ _ _ : Value,
  cond (decide ((x22 : Int) < x20.len)) (
  IX x20 x22 1 fun (px25 : Addr) =>
  LD [.sl] px25 w3 fun (x26 : Sl) =>
  IX x1 x22 1 fun (px29 : Addr) =>
  LD [.int .i64] px29 w3 fun (x30 : Int) =>
  cond ((x30 : Int) == 0) (
  RUN Try.prog (.at (.int .i64)) (bsem .max #[T.t_int, T.t_int] T.t_int #[.int .i64 x7, .int .i64 x26.len]) w3 fun (x35 : Int) w4 =>
  I4 x35 (IntKind.i64.wrap (x22 + 1)) w4 ∧ m4 x35 (IntKind.i64.wrap (x22 + 1)) w4 < m4 x7 x22 w3) (
  I4 x7 (IntKind.i64.wrap (x22 + 1)) w3 ∧ m4 x7 (IntKind.i64.wrap (x22 + 1)) w3 < m4 x7 x22 w3)) (
  ∃ (I10 : Int → World → Prop) (m10 : Int → World → Nat), I10 0 w3 ∧ ∀ (x38 : Int) w5, I10 x38 w5 → ∀ _ _ _ _ _ _ _ _ _ _ _ _ _ _ _ _ _ _ _ _ _ _ _ _ _ _ _ _ _ _ _ _ _ _ _ _ _ _ _ _ _ _ _ _ _ _ _ _ _ _ _ _ _ _ _ _ _ _ _ _ _ _ _ _ _ _ _ _ _ _ _ _ _ _ _ _ _ _ _ _ _ _ _ _ _ _ _ _ _ _ _ _ _ _ _ _ _ _ _ : Value,
  cond (decide ((x38 : Int) < x7)) (
  LD [.sl, .sl, .sl] px2 w5 fun (x41_0 : Sl) (x41_1 : Sl) (x41_2 : Sl) =>
  Calls Try.prog F.i_noMatching #[.agg #[x41_0.v, x41_1.v, x41_2.v]] w5 (Ret [.at .sl] fun (x42 : Sl) w6 =>
  LD [.sl] (px2.add 0) w6 fun (x44 : Sl) =>
  ∃ (I14 : Int → World → Prop) (m14 : Int → World → Nat), I14 0 w6 ∧ ∀ (x46 : Int) w7, I14 x46 w7 → ∀ _ _ _ _ _ _ _ _ _ _ _ _ _ _ _ _ _ _ _ _ _ _ _ _ _ _ _ _ _ _ _ _ _ _ _ _ _ _ _ _ _ _ _ _ _ _ _ _ _ _ _ _ _ _ _ _ _ _ _ _ : Value,
  cond (decide ((x46 : Int) < x44.len)) (
  IX x44 x46 1 fun (px49 : Addr) =>
  LD [.sl] px49 w7 fun (x50 : Sl) =>
  IX x1 x46 1 fun (px53 : Addr) =>
  LD [.int .i64] px53 w7 fun (x54 : Int) =>
  cond ((x54 : Int) != 0) (
  V_i_proposalMatching_k9 I14 m14 x46 w7 w7) (
  IX x18 x46 1 fun (px59 : Addr) =>
  LD [.int .i64] px59 w7 fun (x60 : Int) =>
  cond (decide ((x60 : Int) ≥ 0)) (
  V_i_proposalMatching_k9 I14 m14 x46 w7 w7) (
  cond (decide ((x38 : Int) ≥ x50.len)) (
  V_i_proposalMatching_k9 I14 m14 x46 w7 w7) (
  V_i_proposalMatching_k10 I14 m14 x46 w7 x18 x38 x42 x50 w7)))) (
  ∃ (I22 : Int → World → Prop) (m22 : Int → World → Nat), I22 0 w7 ∧ ∀ (x106 : Int) w17, I22 x106 w17 → ∀ _ _ _ _ _ _ _ _ _ _ _ _ _ _ _ _ _ _ _ _ _ _ _ _ _ : Value,
  cond (decide ((x106 : Int) < x42.len)) (
  IX x42 x106 1 fun (px109 : Addr) =>
  LD [.int .i64] px109 w17 fun (x110 : Int) =>
  cond (decide ((x110 : Int) ≥ 0)) (
  LD [.sl] (px2.add 0) w17 fun (x117 : Sl) =>
  IX x117 x106 1 fun (px119 : Addr) =>
  LD [.sl] px119 w17 fun (x120 : Sl) =>
  IX x120 x110 2 fun (px122 : Addr) =>
  LD [.int .i64] (px122.add 0) w17 fun (x124 : Int) =>
  IX x18 x106 1 fun (px127 : Addr) =>
  ST px127 0 [.int .i64 x110] w17 fun w18 =>
  IX x18 x124 1 fun (px128 : Addr) =>
  ST px128 0 [.int .i64 x38] w18 fun w19 =>
  I22 (IntKind.i64.wrap (x106 + 1)) w19 ∧ m22 (IntKind.i64.wrap (x106 + 1)) w19 < m22 x106 w17) (
  I22 (IntKind.i64.wrap (x106 + 1)) w17 ∧ m22 (IntKind.i64.wrap (x106 + 1)) w17 < m22 x106 w17)) (
  I10 (IntKind.i64.wrap (x38 + 1)) w17 ∧ m10 (IntKind.i64.wrap (x38 + 1)) w17 < m10 x38 w5)))) (
  Q x18 x7 w5)))

theorem C_i_proposalMatching {Q : Sl → Int → World → Prop} {x0_0 : Sl} {x0_1 : Sl} {x0_2 : Sl} {x1 : Sl} {w : World} (h : V_i_proposalMatching Q x0_0 x0_1 x0_2 x1 w) : Calls Try.prog F.i_proposalMatching #[.agg #[x0_0.v, x0_1.v, x0_2.v], x1.v] w (Ret [.at .sl, .at (.int .i64)] Q) :=
  mkC (hint := hint) (ann := annOf [(4, ⟨[(7, .int .i64), (22, .int .i64)], [8, 9, 23, 24, 25, 26, 27, 28, 29, 30, 31, 32, 33, 34, 35, 36]⟩), (10, ⟨[(38, .int .i64)], [10, 11, 12, 13, 14, 15, 16, 39, 40, 41, 42, 43, 44, 45, 46, 47, 48, 49, 50, 51, 52, 53, 54, 55, 56, 57, 58, 59, 60, 61, 62, 63, 64, 65, 66, 67, 68, 69, 70, 71, 72, 73, 74, 75, 76, 77, 78, 79, 80, 81, 82, 83, 84, 85, 86, 87, 88, 89, 90, 91, 92, 93, 94, 95, 96, 97, 98, 99, 100, 101, 102, 103, 104, 105, 106, 107, 108, 109, 110, 111, 112, 113, 114, 115, 116, 117, 118, 119, 120, 121, 122, 123, 124, 125, 126, 127, 128, 129, 130]⟩), (14, ⟨[(46, .int .i64)], [12, 13, 14, 47, 48, 49, 50, 51, 52, 53, 54, 55, 56, 57, 58, 59, 60, 61, 62, 63, 64, 65, 66, 67, 68, 69, 70, 71, 72, 73, 74, 75, 76, 77, 78, 79, 80, 81, 82, 83, 84, 85, 86, 87, 88, 89, 90, 91, 92, 93, 94, 95, 96, 97, 98, 99, 100, 101, 102, 103]⟩), (22, ⟨[(106, .int .i64)], [15, 16, 107, 108, 109, 110, 111, 112, 113, 114, 115, 116, 117, 118, 119, 120, 121, 122, 123, 124, 125, 126, 127, 128, 129]⟩)]) (args := [.agg #[x0_0.v, x0_1.v, x0_2.v], x1.v]) (rs := [.at .sl, .at (.int .i64)]) Try.func88 (by kernel_rfl) (by kernel_rfl) h

def V_slices_Repeat_sl_int_int_k2 (x : Sl) (Q : Sl → World → Prop) (x18_1 : Int) (w2 : World) : Prop :=
  RUN Try.prog (.at .sl) (Instr.makeSlice T.t_sl_int (.int .i64 (IntKind.i64.wrap x18_1)) (.int .i64 (IntKind.i64.wrap x18_1))) w2 fun (x30 : Sl) w3 =>
  RUN Try.prog (.at (.int .i64)) (bsem .copy #[T.t_sl_int, T.t_sl_int] T.t_int #[x30.v, x.v]) w3 fun (x33 : Int) w4 =>
  ∃ (I8 : Int → World → Prop) (m8 : Int → World → Nat), I8 x33 w4 ∧ ∀ (n : Int) w5, I8 n w5 → ∀ _ _ _ _ _ _ _ _ _ _ _ _ _ : Value,
  cond (decide ((n : Int) < x30.len)) (
  ∀ w6, Ext w5 w6 → w6.heap = w5.heap → ∃ (D6 : Nat → Prop),
  SLC x30 (some n) none 1 fun (x41 : Sl) =>
  Chg w6 w6 D6 ∧ (
  SLC x30 none (some n) 1 fun (x44 : Sl) =>
  Chg w6 w6 D6 ∧ (
  RUN Try.prog (.at (.int .i64)) (bsem .copy #[T.t_sl_int, T.t_sl_int] T.t_int #[x41.v, x44.v]) w6 fun (x45 : Int) w7 =>
  Chg w6 w7 D6 ∧ (
  Chg w6 w7 D6 ∧ (
  I8 (IntKind.i64.wrap (n + x45)) w7 ∧ m8 (IntKind.i64.wrap (n + x45)) w7 < m8 n w5))))) (
  Q x30 w5)

def V_slices_Repeat_sl_int_int (Q : Sl → World → Prop) (x : Sl) (count : Int) (w : World) : Prop :=
  cond (decide ((count : Int) < 0)) (
  False) (
  Calls Try.prog F.math_bits_Mul #[.int .u64 (IntKind.u64.wrap x.len), .int .u64 (IntKind.u64.wrap count)] w (Ret [.at (.int .u64), .at (.int .u64)] fun (x18_0 : Int) (x18_1 : Int) w1 =>
  cond (decide ((x18_0 : Int) > 0)) (
  False) (
  cond (decide ((x18_1 : Int) > 9223372036854775807)) (
  False) (
  V_slices_Repeat_sl_int_int_k2 x Q x18_1 w1))))

theorem C_slices_Repeat_sl_int_int {Q : Sl → World → Prop} {x : Sl} {count : Int} {w : World} (h : V_slices_Repeat_sl_int_int Q x count w) : Calls Try.prog F.slices_Repeat_sl_int_int #[x.v, .int .i64 count] w (Ret [.at .sl] Q) :=
  mkC (hint := hint) (ann := annOf [(8, ⟨[(8, .int .i64)], [34, 35, 36, 37, 38, 39, 40, 41, 42, 43, 44, 45, 46]⟩)]) (args := [x.v, .int .i64 count]) (rs := [.at .sl]) Try.func89 (by kernel_rfl) (by kernel_rfl) h

def V_s_clAsked (Q : Bool → World → Prop) (n_0 : Sl) (n_1 : Sl) (n_2 : Sl) (l : Sl) (k : Int) (a : Int) (w : World) : Prop :=
  NEW T.t_i_Network #[n_0.v, n_1.v, n_2.v] w fun (p_n : Addr) w1 =>
  LD [.sl, .sl, .sl] p_n w1 fun (x9_0 : Sl) (x9_1 : Sl) (x9_2 : Sl) =>
  Calls Try.prog F.s_neGood #[.agg #[x9_0.v, x9_1.v, x9_2.v]] w1 (Ret [.at .bool] fun (x10 : Bool) w2 =>
  cond x10 (
  Calls Try.prog F.s_clPalette #[.int .i64 k, .int .i64 a] w2 (Ret [.at .bool] fun (x14 : Bool) w3 =>
  cond x14 (
  LD [.sl, .sl, .sl] p_n w3 fun (x17_0 : Sl) (x17_1 : Sl) (x17_2 : Sl) =>
  Calls Try.prog F.s_clProper #[.agg #[x17_0.v, x17_1.v, x17_2.v], l.v] w3 (Ret [.at .bool] fun (x19 : Bool) w4 =>
  cond x19 (
  Calls Try.prog F.s_l1All #[l.v, .int .i64 0, .int .i64 (IntKind.i64.wrap (k - 1))] w4 (Ret [.at .bool] fun (x25 : Bool) w5 =>
  cond x25 (
  LD [.sl, .sl, .sl] p_n w5 fun (x28_0 : Sl) (x28_1 : Sl) (x28_2 : Sl) =>
  Calls Try.prog F.s_neDegrees #[.agg #[x28_0.v, x28_1.v, x28_2.v]] w5 (Ret [.at .sl] fun (x29 : Sl) w6 =>
  Calls Try.prog F.s_meMost #[x29.v] w6 (Ret [.at (.int .i64)] fun (x30 : Int) w7 =>
  Q (decide ((x30 : Int) ≤ a)) w7))) (
  Q false w5))) (
  Q false w4))) (
  Q false w3))) (
  Q false w2))

theorem C_s_clAsked {Q : Bool → World → Prop} {n_0 : Sl} {n_1 : Sl} {n_2 : Sl} {l : Sl} {k : Int} {a : Int} {w : World} (h : V_s_clAsked Q n_0 n_1 n_2 l k a w) : Calls Try.prog F.s_clAsked #[.agg #[n_0.v, n_1.v, n_2.v], l.v, .int .i64 k, .int .i64 a] w (Ret [.at .bool] Q) :=
  mkC (hint := hint) (ann := annOf []) (args := [.agg #[n_0.v, n_1.v, n_2.v], l.v, .int .i64 k, .int .i64 a]) (rs := [.at .bool]) Try.func90 (by kernel_rfl) (by kernel_rfl) h

def V_s_clParameters (Q : Int → Int → World → Prop) (k : Int) (a : Int) (w : World) : Prop :=
  ∃ (I3 : Int → World → Prop) (m3 : Int → World → Nat), I3 2 w ∧ ∀ (q : Int) w1, I3 q w1 → ∀ _ _ _ _ _ _ _ _ _ _ _ _ _ _ _ _ _ _ _ _ _ _ _ : Value,
  ∃ (I4 : Int → World → Prop) (m4 : Int → World → Nat), I4 1 w1 ∧ ∀ (d : Int) w2, I4 d w2 → ∀ _ _ _ _ _ _ _ _ _ _ _ _ _ _ _ _ _ _ _ : Value,
  cond (decide (((IntKind.i64.wrap (a * d)) : Int) < q)) (
  cond (decide ((d : Int) ≤ 60)) (
  Calls Try.prog F.s_clPower #[.int .i64 q, .int .i64 d, .int .i64 k] w2 (Ret [.at .bool] fun (x25_2 : Bool) w4 =>
  cond x25_2 (
  Q q d w4) (
  I4 (IntKind.i64.wrap (d + 1)) w4 ∧ m4 (IntKind.i64.wrap (d + 1)) w4 < m4 d w2))) (
  Calls Try.prog F.s_nuNext #[.int .i64 (IntKind.i64.wrap (q + 1))] w2 (Ret [.at (.int .i64)] fun (x10_3 : Int) w7 =>
  I3 x10_3 w7 ∧ m3 x10_3 w7 < m3 q w1))) (
  Calls Try.prog F.s_nuNext #[.int .i64 (IntKind.i64.wrap (q + 1))] w2 (Ret [.at (.int .i64)] fun (x10_4 : Int) w8 =>
  I3 x10_4 w8 ∧ m3 x10_4 w8 < m3 q w1))

theorem C_s_clParameters {Q : Int → Int → World → Prop} {k : Int} {a : Int} {w : World} (h : V_s_clParameters Q k a w) : Calls Try.prog F.s_clParameters #[.int .i64 k, .int .i64 a] w (Ret [.at (.int .i64), .at (.int .i64)] Q) :=
  mkC (hint := hint) (ann := annOf [(3, ⟨[(6, .int .i64)], [4, 5, 7, 8, 9, 10, 11, 12, 13, 14, 15, 16, 17, 18, 19, 20, 21, 22, 23, 24, 25, 26, 27]⟩), (4, ⟨[(7, .int .i64)], [4, 5, 11, 12, 13, 14, 15, 16, 17, 18, 19, 20, 21, 22, 23, 24, 25, 26, 27]⟩)]) (args := [.int .i64 k, .int .i64 a]) (rs := [.at (.int .i64), .at (.int .i64)]) Try.func91 (by kernel_rfl) (by kernel_rfl) h

def V_s_clStep (Q : Sl → World → Prop) (n_0 : Sl) (n_1 : Sl) (n_2 : Sl) (l : Sl) (q : Int) (d : Int) (w : World) : Prop :=
  NEW T.t_i_Network #[n_0.v, n_1.v, n_2.v] w fun (p_n : Addr) w1 =>
  LD [.sl] (p_n.add 0) w1 fun (x12 : Sl) =>
  ∃ (I3 : Sl → Int → World → Prop) (m3 : Sl → Int → World → Nat), I3 (⟨none, 0, 0⟩) 0 w1 ∧ ∀ (out : Sl) (x14 : Int) w2, I3 out x14 w2 → ∀ _ _ _ _ _ _ _ _ _ _ _ _ _ _ _ _ _ _ _ : Value,
  cond (decide ((x14 : Int) < x12.len)) (
  ∀ w3, Ext w2 w3 → w3.heap = w2.heap → ∃ (D3 : Nat → Prop),
  IX l x14 1 fun (px22 : Addr) =>
  ¬ D3 px22.block ∧ (
  LD [.int .i64] px22 w3 fun (x23 : Int) =>
  ¬ D3 p_n.block ∧ (
  LD [.sl, .sl, .sl] p_n w3 fun (x25_0 : Sl) (x25_1 : Sl) (x25_2 : Sl) =>
  Chg w3 w3 D3 ∧ (
  Calls Try.prog F.s_neNear #[.agg #[x25_0.v, x25_1.v, x25_2.v], .int .i64 x14] w3 (Ret [.at .sl] fun (x27 : Sl) w4 =>
  Chg w3 w4 D3 ∧ (
  Calls Try.prog F.s_coThrough #[l.v, x27.v] w4 (Ret [.at .sl] fun (x28 : Sl) w5 =>
  Chg w3 w5 D3 ∧ (
  Calls Try.prog F.s_clTake #[.int .i64 q, .int .i64 d, .int .i64 x23, x28.v] w5 (Ret [.at (.int .i64)] fun (x29 : Int) w6 =>
  Chg w3 w6 D3 ∧ (
  RUN Try.prog (.at .sl) (Instr.buildSlice T.t_sl_int 1 #[(0, .int .i64 x29)]) w6 fun (x30 : Sl) w7 =>
  Chg w3 w7 D3 ∧ (
  RUN Try.prog (.at .sl) (bsem .append #[T.t_sl_int, T.t_sl_int] T.t_sl_int #[out.v, x30.v]) w7 fun (x31 : Sl) w8 =>
  Chg w3 w8 D3 ∧ (
  I3 x31 (IntKind.i64.wrap (x14 + 1)) w8 ∧ m3 x31 (IntKind.i64.wrap (x14 + 1)) w8 < m3 out x14 w2)))))))))))) (
  Q out w2)

theorem C_s_clStep {Q : Sl → World → Prop} {n_0 : Sl} {n_1 : Sl} {n_2 : Sl} {l : Sl} {q : Int} {d : Int} {w : World} (h : V_s_clStep Q n_0 n_1 n_2 l q d w) : Calls Try.prog F.s_clStep #[.agg #[n_0.v, n_1.v, n_2.v], l.v, .int .i64 q, .int .i64 d] w (Ret [.at .sl] Q) :=
  mkC (hint := hint) (ann := annOf [(3, ⟨[(9, .sl), (14, .int .i64)], [10, 15, 16, 17, 18, 19, 20, 21, 22, 23, 24, 25, 26, 27, 28, 29, 30, 31, 32]⟩)]) (args := [.agg #[n_0.v, n_1.v, n_2.v], l.v, .int .i64 q, .int .i64 d]) (rs := [.at .sl]) Try.func92 (by kernel_rfl) (by kernel_rfl) h

def V_i_paletteOk (Q : Bool → World → Prop) (n_0 : Sl) (n_1 : Sl) (n_2 : Sl) (colours : Sl) (k : Int) (a : Int) (w : World) : Prop :=
  NEW T.t_i_Network #[n_0.v, n_1.v, n_2.v] w fun (p_n : Addr) w1 =>
  LD [.sl, .sl, .sl] p_n w1 fun (x9_0 : Sl) (x9_1 : Sl) (x9_2 : Sl) =>
  Calls Try.prog F.i_IsNetwork #[.agg #[x9_0.v, x9_1.v, x9_2.v]] w1 (Ret [.at .bool] fun (x10 : Bool) w2 =>
  cond x10 (
  Calls Try.prog F.i_within #[.int .i64 k, .int .i64 1, .int .i64 1000000000000] w2 (Ret [.at .bool] fun (x13 : Bool) w3 =>
  cond x13 (
  LD [.sl, .sl, .sl] p_n w3 fun (x16_0 : Sl) (x16_1 : Sl) (x16_2 : Sl) =>
  Calls Try.prog F.i_isColouring #[.agg #[x16_0.v, x16_1.v, x16_2.v], colours.v] w3 (Ret [.at .bool] fun (x18 : Bool) w4 =>
  cond x18 (
  Calls Try.prog F.i_allWithin #[colours.v, .int .i64 0, .int .i64 (IntKind.i64.wrap (k - 1))] w4 (Ret [.at .bool] fun (x24 : Bool) w5 =>
  cond x24 (
  LD [.sl, .sl, .sl] p_n w5 fun (x27_0 : Sl) (x27_1 : Sl) (x27_2 : Sl) =>
  Calls Try.prog F.i_isBound #[.agg #[x27_0.v, x27_1.v, x27_2.v], .int .i64 a] w5 (Ret [.at .bool] fun (x29 : Bool) w6 =>
  Q x29 w6)) (
  Q false w5))) (
  Q false w4))) (
  Q false w3))) (
  Q false w2))

theorem C_i_paletteOk {Q : Bool → World → Prop} {n_0 : Sl} {n_1 : Sl} {n_2 : Sl} {colours : Sl} {k : Int} {a : Int} {w : World} (h : V_i_paletteOk Q n_0 n_1 n_2 colours k a w) : Calls Try.prog F.i_paletteOk #[.agg #[n_0.v, n_1.v, n_2.v], colours.v, .int .i64 k, .int .i64 a] w (Ret [.at .bool] Q) :=
  mkC (hint := hint) (ann := annOf []) (args := [.agg #[n_0.v, n_1.v, n_2.v], colours.v, .int .i64 k, .int .i64 a]) (rs := [.at .bool]) Try.func93 (by kernel_rfl) (by kernel_rfl) h

def V_i_polynomialStep (Q : Sl → Int → World → Prop) (x0_0 : Sl) (x0_1 : Sl) (x0_2 : Sl) (x1 : Sl) (x2 : Int) (x3 : Int) (w : World) : Prop :=
  NEW T.t_i_Network #[x0_0.v, x0_1.v, x0_2.v] w fun (px4 : Addr) w1 =>
  Calls Try.prog F.i_polynomialParameters #[.int .i64 x2, .int .i64 x3] w1 (Ret [.at (.int .i64), .at (.int .i64)] fun (x27_0 : Int) (x27_1 : Int) w2 =>
  RUN Try.prog (.at .sl) (Instr.makeSlice T.t_sl_sl_int (.int .i64 x1.len) (.int .i64 x1.len)) w2 fun (x32 : Sl) w3 =>
  NEW T.t_sl_sl_int #[.slice none 0 0] w3 fun (px12 : Addr) w4 =>
  ST px12 0 [x32.v] w4 fun w5 =>
  ∃ (I4 : Int → World → Prop) (m4 : Int → World → Nat), I4 0 w5 ∧ ∀ (x35 : Int) w6, I4 x35 w6 → ∀ _ _ _ _ _ _ _ _ _ _ _ _ _ _ _ _ _ _ _ _ _ _ _ _ _ _ _ _ _ _ _ _ _ _ _ _ _ _ _ _ _ _ : Value,
  cond (decide ((x35 : Int) < x1.len)) (
  IX x1 x35 1 fun (px38 : Addr) =>
  LD [.int .i64] px38 w6 fun (x39 : Int) =>
  Calls Try.prog F.i_DigitsOf #[.int .i64 x39, .int .i64 x27_0, .int .i64 (IntKind.i64.wrap (x27_1 + 1))] w6 (Ret [.at .sl, .at .bool] fun (x45_0 : Sl) (x45_1 : Bool) w7 =>
  ∃ (I8 : Int → World → Prop) (m8 : Int → World → Nat), I8 0 w7 ∧ ∀ (x49 : Int) w8, I8 x49 w8 → ∀ _ _ _ _ _ _ _ _ _ _ _ _ _ _ _ _ _ _ _ _ _ _ _ : Value,
  cond (decide ((x49 : Int) < x27_0)) (
  Calls Try.prog F.i_PolynomialAt #[.int .i64 x27_0, x45_0.v, .int .i64 x49] w8 (Ret [.at (.int .i64), .at .bool] fun (x56_0 : Int) (x56_1 : Bool) w9 =>
  ∀ w10, Ext w9 w10 → w10.heap = w9.heap → ∃ (D10 : Nat → Prop),
  ¬ D10 px12.block ∧ (
  LD [.sl] px12 w10 fun (x59 : Sl) =>
  ¬ D10 px12.block ∧ (
  LD [.sl] px12 w10 fun (x61 : Sl) =>
  IX x61 x35 1 fun (px63 : Addr) =>
  ¬ D10 px63.block ∧ (
  LD [.sl] px63 w10 fun (x64 : Sl) =>
  Chg w10 w10 D10 ∧ (
  RUN Try.prog (.at .sl) (Instr.buildSlice T.t_sl_int 1 #[(0, .int .i64 x56_0)]) w10 fun (x66 : Sl) w11 =>
  Chg w10 w11 D10 ∧ (
  RUN Try.prog (.at .sl) (bsem .append #[T.t_sl_int, T.t_sl_int] T.t_sl_int #[x64.v, x66.v]) w11 fun (x67 : Sl) w12 =>
  Chg w10 w12 D10 ∧ (
  IX x59 x35 1 fun (px68 : Addr) =>
  ST px68 0 [x67.v] w12 fun w13 =>
  I8 (IntKind.i64.wrap (x49 + 1)) w13 ∧ m8 (IntKind.i64.wrap (x49 + 1)) w13 < m8 x49 w8)))))))) (
  I4 (IntKind.i64.wrap (x35 + 1)) w8 ∧ m4 (IntKind.i64.wrap (x35 + 1)) w8 < m4 x35 w6))) (
  LD [.sl] (px4.add 0) w6 fun (x72 : Sl) =>
  ∃ (I16 : Sl → Int → World → Prop) (m16 : Sl → Int → World → Nat), I16 (⟨none, 0, 0⟩) 0 w6 ∧ ∀ (x20 : Sl) (x74 : Int) w14, I16 x20 x74 w14 → ∀ _ _ _ _ _ _ _ _ _ _ _ _ _ _ _ _ _ _ _ _ _ _ _ _ _ _ _ : Value,
  cond (decide ((x74 : Int) < x72.len)) (
  IX x72 x74 1 fun (px77 : Addr) =>
  LD [.sl] px77 w14 fun (x78 : Sl) =>
  NEW T.t_int #[.int .i64 0] w14 fun (px21 : Addr) w15 =>
  ST px21 0 [.int .i64 x74] w15 fun w16 =>
  NEW T.t_int #[.int .i64 0] w16 fun (px23 : Addr) w17 =>
  ST px23 0 [.int .i64 0] w17 fun w18 =>
  ∃ (I19 : World → Prop) (m19 : World → Nat), I19 w18 ∧ ∀  w19, I19 w19 → ∀ _ _ _ _ _ : Value,
  Calls Try.prog F.slices_ContainsFunc_sl_i_End_i_End #[x78.v, .func (.func F.i_polynomialStep_1) #[] #[.pointer (some px12), .pointer (some px23), .pointer (some px21)]] w19 (Ret [.at .bool] fun (x81 : Bool) w20 =>
  cond x81 (
  LD [.int .i64] px23 w20 fun (x82 : Int) =>
  ST px23 0 [.int .i64 (IntKind.i64.wrap (x82 + 1))] w20 fun w21 =>
  I19 w21 ∧ m19 w21 < m19 w19) (
  ∀ w22, Ext w20 w22 → w22.heap = w20.heap → ∃ (D22 : Nat → Prop),
  ¬ D22 px23.block ∧ (
  LD [.int .i64] px23 w22 fun (x85 : Int) =>
  ¬ D22 px12.block ∧ (
  LD [.sl] px12 w22 fun (x88 : Sl) =>
  ¬ D22 px21.block ∧ (
  LD [.int .i64] px21 w22 fun (x89 : Int) =>
  IX x88 x89 1 fun (px90 : Addr) =>
  ¬ D22 px90.block ∧ (
  LD [.sl] px90 w22 fun (x91 : Sl) =>
  LD [.int .i64] px23 w22 fun (x92 : Int) =>
  Chg w22 w22 D22 ∧ (
  IX x91 x92 1 fun (px93 : Addr) =>
  Chg w22 w22 D22 ∧ (
  LD [.int .i64] px93 w22 fun (x94 : Int) =>
  Chg w22 w22 D22 ∧ (
  Chg w22 w22 D22 ∧ (
  RUN Try.prog (.at .sl) (Instr.buildSlice T.t_sl_int 1 #[(0, .int .i64 (IntKind.i64.wrap ((IntKind.i64.wrap (x85 * x27_0)) + x94)))]) w22 fun (x96 : Sl) w23 =>
  Chg w22 w23 D22 ∧ (
  RUN Try.prog (.at .sl) (bsem .append #[T.t_sl_int, T.t_sl_int] T.t_sl_int #[x20.v, x96.v]) w23 fun (x97 : Sl) w24 =>
  Chg w22 w24 D22 ∧ (
  I16 x97 (IntKind.i64.wrap (x74 + 1)) w24 ∧ m16 x97 (IntKind.i64.wrap (x74 + 1)) w24 < m16 x20 x74 w14))))))))))))) (
  Q x20 (IntKind.i64.wrap (x27_0 * x27_0)) w14)))

theorem C_i_polynomialStep {Q : Sl → Int → World → Prop} {x0_0 : Sl} {x0_1 : Sl} {x0_2 : Sl} {x1 : Sl} {x2 : Int} {x3 : Int} {w : World} (h : V_i_polynomialStep Q x0_0 x0_1 x0_2 x1 x2 x3 w) : Calls Try.prog F.i_polynomialStep #[.agg #[x0_0.v, x0_1.v, x0_2.v], x1.v, .int .i64 x2, .int .i64 x3] w (Ret [.at .sl, .at (.int .i64)] Q) :=
  mkC (hint := hint) (ann := annOf [(4, ⟨[(35, .int .i64)], [13, 14, 15, 16, 17, 18, 19, 36, 37, 38, 39, 40, 41, 42, 43, 44, 45, 46, 47, 48, 49, 50, 51, 52, 53, 54, 55, 56, 57, 58, 59, 60, 61, 62, 63, 64, 65, 66, 67, 68, 69, 70]⟩), (8, ⟨[(49, .int .i64)], [17, 18, 19, 50, 51, 52, 53, 54, 55, 56, 57, 58, 59, 60, 61, 62, 63, 64, 65, 66, 67, 68, 69]⟩), (16, ⟨[(20, .sl), (74, .int .i64)], [21, 22, 23, 75, 76, 77, 78, 79, 80, 81, 82, 83, 84, 85, 86, 87, 88, 89, 90, 91, 92, 93, 94, 95, 96, 97, 98]⟩), (19, ⟨[], [79, 80, 81, 82, 83]⟩)]) (args := [.agg #[x0_0.v, x0_1.v, x0_2.v], x1.v, .int .i64 x2, .int .i64 x3]) (rs := [.at .sl, .at (.int .i64)]) Try.func94 (by kernel_rfl) (by kernel_rfl) h

def V_s_cyLevels_k1 (Q : Int → Int → Bool → World → Prop) (p_p : Addr) (x12_0 : Sl) (w3 : World) : Prop :=
  LD [.int .i64, .sl] p_p w3 fun (x23_0 : Int) (x23_1 : Sl) =>
  IX x12_0 0 1 fun (px25 : Addr) =>
  LD [.int .i64] px25 w3 fun (x26 : Int) =>
  QCALL Try.prog F.s_FlexibilityOf #[.agg #[.int .i64 x23_0, x23_1.v], .int .i64 x26] w3 [.at (.int .i64), .at .bool] fun (x27_0 : Int) (x27_1 : Bool) =>
  ∀ w4, Ext w3 w4 →
  ∃ (I6 : Int → World → Prop) (m6 : Int → World → Nat), I6 0 w4 ∧ ∀ (levels : Int) w5, I6 levels w5 → ∀ _ _ _ _ _ _ _ : Value,
  (0 : Int) ≤ (IntKind.u64.wrap levels) ∧ (
  cond (decide (((shlI .i64 1 (IntKind.u64.wrap levels)) : Int) < x27_0)) (
  I6 (IntKind.i64.wrap (levels + 1)) w5 ∧ m6 (IntKind.i64.wrap (levels + 1)) w5 < m6 levels w5) (
  IX x12_0 0 1 fun (px38 : Addr) =>
  LD [.int .i64] px38 w5 fun (x39 : Int) =>
  Q x39 levels true w5))

def V_s_cyLevels (Q : Int → Int → Bool → World → Prop) (p_0 : Int) (p_1 : Sl) (w : World) : Prop :=
  NEW T.t_i_WalkProblem #[.int .i64 p_0, p_1.v] w fun (p_p : Addr) w1 =>
  LD [.int .i64, .sl] p_p w1 fun (x11_0 : Int) (x11_1 : Sl) =>
  Calls Try.prog F.s_FlexibleLabels #[.agg #[.int .i64 x11_0, x11_1.v]] w1 (Ret [.at .sl, .at .bool] fun (x12_0 : Sl) (x12_1 : Bool) w2 =>
  cond (!x12_1) (
  Q 0 0 false w2) (
  cond ((x12_0.len : Int) == 0) (
  Q 0 0 false w2) (
  V_s_cyLevels_k1 Q p_p x12_0 w2)))

theorem C_s_cyLevels {Q : Int → Int → Bool → World → Prop} {p_0 : Int} {p_1 : Sl} {w : World} (h : V_s_cyLevels Q p_0 p_1 w) : Calls Try.prog F.s_cyLevels #[.agg #[.int .i64 p_0, p_1.v]] w (Ret [.at (.int .i64), .at (.int .i64), .at .bool] Q) :=
  mkC (hint := hint) (ann := annOf [(6, ⟨[(9, .int .i64)], [30, 31, 32, 33, 34, 35, 36]⟩)]) (args := [.agg #[.int .i64 p_0, p_1.v]]) (rs := [.at (.int .i64), .at (.int .i64), .at .bool]) Try.func95 (by kernel_rfl) (by kernel_rfl) h

def V_i_IsWalkProblem (Q : Bool → World → Prop) (p_0 : Int) (p_1 : Sl) (w : World) : Prop :=
  NEW T.t_i_WalkProblem #[.int .i64 p_0, p_1.v] w fun (p_p : Addr) w1 =>
  LD [.int .i64] (p_p.add 0) w1 fun (x6 : Int) =>
  Calls Try.prog F.i_within #[.int .i64 x6, .int .i64 1, .int .i64 12] w1 (Ret [.at .bool] fun (x7 : Bool) w2 =>
  cond (!x7) (
  Q false w2) (
  LD [.sl] (p_p.add 1) w2 fun (x10 : Sl) =>
  ∃ (I4 : Int → World → Prop) (m4 : Int → World → Nat), I4 0 w2 ∧ ∀ (x12 : Int) w3, I4 x12 w3 → ∀ _ _ _ _ _ _ _ _ _ _ _ _ _ _ _ _ _ _ _ _ _ _ _ _ _ _ _ _ _ _ _ _ : Value,
  cond (decide ((x12 : Int) < x10.len)) (
  IX x10 x12 1 fun (px15 : Addr) =>
  LD [.sl] px15 w3 fun (x16 : Sl) =>
  cond ((x16.len : Int) != 2) (
  Q false w3) (
  LD [.int .i64, .sl] p_p w3 fun (x21_0 : Int) (x21_1 : Sl) =>
  Calls Try.prog F.i_WalkProblem_hasLabels #[.agg #[.int .i64 x21_0, x21_1.v], x16.v] w3 (Ret [.at .bool] fun (x23 : Bool) w4 =>
  cond (!x23) (
  Q false w4) (
  cond (decide ((x12 : Int) > 0)) (
  LD [.sl] (p_p.add 1) w4 fun (x31 : Sl) =>
  IX x31 (IntKind.i64.wrap (x12 - 1)) 1 fun (px34 : Addr) =>
  LD [.sl] px34 w4 fun (x35 : Sl) =>
  Calls Try.prog F.slices_Compare_sl_int_int #[x35.v, x16.v] w4 (Ret [.at (.int .i64)] fun (x37 : Int) w5 =>
  cond (decide ((x37 : Int) ≥ 0)) (
  Q false w5) (
  I4 (IntKind.i64.wrap (x12 + 1)) w5 ∧ m4 (IntKind.i64.wrap (x12 + 1)) w5 < m4 x12 w3))) (
  I4 (IntKind.i64.wrap (x12 + 1)) w4 ∧ m4 (IntKind.i64.wrap (x12 + 1)) w4 < m4 x12 w3))))) (
  Q true w3)))

theorem C_i_IsWalkProblem {Q : Bool → World → Prop} {p_0 : Int} {p_1 : Sl} {w : World} (h : V_i_IsWalkProblem Q p_0 p_1 w) : Calls Try.prog F.i_IsWalkProblem #[.agg #[.int .i64 p_0, p_1.v]] w (Ret [.at .bool] Q) :=
  mkC (hint := hint) (ann := annOf [(4, ⟨[(12, .int .i64)], [2, 3, 4, 13, 14, 15, 16, 17, 18, 19, 20, 21, 22, 23, 24, 25, 26, 27, 28, 29, 30, 31, 32, 33, 34, 35, 36, 37, 38, 39, 40, 41]⟩)]) (args := [.agg #[.int .i64 p_0, p_1.v]]) (rs := [.at .bool]) Try.func96 (by kernel_rfl) (by kernel_rfl) h

def V_i_WalkProblem_flexibleLabels (Q : Sl → World → Prop) (p_0 : Int) (p_1 : Sl) (w : World) : Prop :=
  NEW T.t_i_WalkProblem #[.int .i64 p_0, p_1.v] w fun (p_p : Addr) w1 =>
  LD [.int .i64, .sl] p_p w1 fun (x9_0 : Int) (x9_1 : Sl) =>
  Calls Try.prog F.i_WalkProblem_walkComponents #[.agg #[.int .i64 x9_0, x9_1.v]] w1 (Ret [.at .sl, .at .sl] fun (x10_0 : Sl) (x10_1 : Sl) w2 =>
  ∃ (I4 : Sl → Int → World → Prop) (m4 : Sl → Int → World → Nat), I4 (⟨none, 0, 0⟩) 0 w2 ∧ ∀ (out : Sl) (x15 : Int) w3, I4 out x15 w3 → ∀ _ _ _ _ _ _ _ _ _ _ _ _ _ _ _ : Value,
  cond (decide ((x15 : Int) < x10_0.len)) (
  IX x10_0 x15 1 fun (px18 : Addr) =>
  LD [.sl] px18 w3 fun (x19 : Sl) =>
  IX x10_1 x15 1 fun (px22 : Addr) =>
  LD [.int .i64] px22 w3 fun (x23 : Int) =>
  cond ((x23 : Int) == 1) (
  RUN Try.prog (.at .sl) (bsem .append #[T.t_sl_int, T.t_sl_int] T.t_sl_int #[out.v, x19.v]) w3 fun (x27 : Sl) w4 =>
  I4 x27 (IntKind.i64.wrap (x15 + 1)) w4 ∧ m4 x27 (IntKind.i64.wrap (x15 + 1)) w4 < m4 out x15 w3) (
  I4 out (IntKind.i64.wrap (x15 + 1)) w3 ∧ m4 out (IntKind.i64.wrap (x15 + 1)) w3 < m4 out x15 w3)) (
  Calls Try.prog F.slices_Sort_sl_int_int #[out.v] w3 (Ret [] fun w5 =>
  Q out w5)))

theorem C_i_WalkProblem_flexibleLabels {Q : Sl → World → Prop} {p_0 : Int} {p_1 : Sl} {w : World} (h : V_i_WalkProblem_flexibleLabels Q p_0 p_1 w) : Calls Try.prog F.i_WalkProblem_flexibleLabels #[.agg #[.int .i64 p_0, p_1.v]] w (Ret [.at .sl] Q) :=
  mkC (hint := hint) (ann := annOf [(4, ⟨[(3, .sl), (15, .int .i64)], [6, 7, 16, 17, 18, 19, 20, 21, 22, 23, 24, 25, 26, 27, 28]⟩)]) (args := [.agg #[.int .i64 p_0, p_1.v]]) (rs := [.at .sl]) Try.func97 (by kernel_rfl) (by kernel_rfl) h

def V_i_WalkProblem_flexibilityOf (Q : Int → World → Prop) (p_0 : Int) (p_1 : Sl) (a : Int) (w : World) : Prop :=
  NEW T.t_i_WalkProblem #[.int .i64 p_0, p_1.v] w fun (p_p : Addr) w1 =>
  LD [.int .i64, .sl] p_p w1 fun (x7_0 : Int) (x7_1 : Sl) =>
  Calls Try.prog F.i_WalkProblem_reached #[.agg #[.int .i64 x7_0, x7_1.v], .int .i64 a, .int .i64 288] w1 (Ret [.at .sl] fun (x9 : Sl) w2 =>
  ∃ (I3 : Int → World → Prop) (m3 : Int → World → Nat), I3 (IntKind.i64.wrap (x9.len - 1)) w2 ∧ ∀ (k : Int) w3, I3 k w3 → ∀ _ _ _ _ _ _ _ _ _ _ _ _ _ _ : Value,
  cond (decide ((k : Int) > 0)) (
  IX x9 k 1 fun (px18 : Addr) =>
  LD [.int .i64] px18 w3 fun (x19 : Int) =>
  (0 : Int) ≤ a ∧ (
  cond (((bitAnd .i64 (shrI .i64 x19 a) 1) : Int) == 1) (
  I3 (IntKind.i64.wrap (k - 1)) w3 ∧ m3 (IntKind.i64.wrap (k - 1)) w3 < m3 k w3) (
  Q (IntKind.i64.wrap (k + 1)) w3))) (
  Q (IntKind.i64.wrap (k + 1)) w3))

theorem C_i_WalkProblem_flexibilityOf {Q : Int → World → Prop} {p_0 : Int} {p_1 : Sl} {a : Int} {w : World} (h : V_i_WalkProblem_flexibilityOf Q p_0 p_1 a w) : Calls Try.prog F.i_WalkProblem_flexibilityOf #[.agg #[.int .i64 p_0, p_1.v], .int .i64 a] w (Ret [.at (.int .i64)] Q) :=
  mkC (hint := hint) (ann := annOf [(3, ⟨[(6, .int .i64)], [13, 14, 15, 16, 17, 18, 19, 20, 21, 22, 23, 24, 25, 26]⟩)]) (args := [.agg #[.int .i64 p_0, p_1.v], .int .i64 a]) (rs := [.at (.int .i64)]) Try.func98 (by kernel_rfl) (by kernel_rfl) h

def V_s_mtColoured_k1 (colours : Sl) (Q : Bool → World → Prop) (p_n : Addr) (w3 : World) : Prop :=
  LD [.sl, .sl, .sl] p_n w3 fun (x18_0 : Sl) (x18_1 : Sl) (x18_2 : Sl) =>
  Calls Try.prog F.s_neEdges #[.agg #[x18_0.v, x18_1.v, x18_2.v]] w3 (Ret [.at .sl] fun (x19 : Sl) w4 =>
  ∃ (I4 : Int → World → Prop) (m4 : Int → World → Nat), I4 0 w4 ∧ ∀ (x21 : Int) w5, I4 x21 w5 → ∀ _ _ _ _ _ _ _ _ _ _ _ _ _ _ _ _ _ _ _ _ _ _ _ _ _ _ _ _ : Value,
  cond (decide ((x21 : Int) < x19.len)) (
  IX x19 x21 1 fun (px23 : Addr) =>
  LD [.sl] px23 w5 fun (x24 : Sl) =>
  IX x24 0 1 fun (px26 : Addr) =>
  LD [.int .i64] px26 w5 fun (x27 : Int) =>
  IX x24 2 1 fun (px29 : Addr) =>
  LD [.int .i64] px29 w5 fun (x30 : Int) =>
  cond ((x27 : Int) != x30) (
  IX x24 0 1 fun (px35 : Addr) =>
  LD [.int .i64] px35 w5 fun (x36 : Int) =>
  IX colours x36 1 fun (px37 : Addr) =>
  LD [.int .i64] px37 w5 fun (x38 : Int) =>
  IX x24 2 1 fun (px41 : Addr) =>
  LD [.int .i64] px41 w5 fun (x42 : Int) =>
  IX colours x42 1 fun (px43 : Addr) =>
  LD [.int .i64] px43 w5 fun (x44 : Int) =>
  ∀ w6, Ext w5 w6 →
  cond ((x38 : Int) == x44) (
  Q false w6) (
  I4 (IntKind.i64.wrap (x21 + 1)) w6 ∧ m4 (IntKind.i64.wrap (x21 + 1)) w6 < m4 x21 w5)) (
  ∀ w7, Ext w5 w7 →
  I4 (IntKind.i64.wrap (x21 + 1)) w7 ∧ m4 (IntKind.i64.wrap (x21 + 1)) w7 < m4 x21 w5)) (
  Q true w5))

def V_s_mtColoured (Q : Bool → World → Prop) (n_0 : Sl) (n_1 : Sl) (n_2 : Sl) (colours : Sl) (w : World) : Prop :=
  NEW T.t_i_Network #[n_0.v, n_1.v, n_2.v] w fun (p_n : Addr) w1 =>
  LD [.sl] (p_n.add 0) w1 fun (x10 : Sl) =>
  cond ((colours.len : Int) != x10.len) (
  Q false w1) (
  Calls Try.prog F.s_l1All #[colours.v, .int .i64 0, .int .i64 40] w1 (Ret [.at .bool] fun (x15 : Bool) w2 =>
  cond (!x15) (
  Q false w2) (
  V_s_mtColoured_k1 colours Q p_n w2)))

theorem C_s_mtColoured {Q : Bool → World → Prop} {n_0 : Sl} {n_1 : Sl} {n_2 : Sl} {colours : Sl} {w : World} (h : V_s_mtColoured Q n_0 n_1 n_2 colours w) : Calls Try.prog F.s_mtColoured #[.agg #[n_0.v, n_1.v, n_2.v], colours.v] w (Ret [.at .bool] Q) :=
  mkC (hint := hint) (ann := annOf [(4, ⟨[(21, .int .i64)], [4, 6, 22, 23, 24, 25, 26, 27, 28, 29, 30, 31, 32, 33, 34, 35, 36, 37, 38, 39, 40, 41, 42, 43, 44, 45, 46, 47]⟩)]) (args := [.agg #[n_0.v, n_1.v, n_2.v], colours.v]) (rs := [.at .bool]) Try.func99 (by kernel_rfl) (by kernel_rfl) h

def V_s_viMany (Q : Int → World → Prop) (class1 : Sl) (w : World) : Prop :=
  ∃ (I3 : Int → Int → World → Prop) (m3 : Int → Int → World → Nat), I3 0 0 w ∧ ∀ (n : Int) (x8 : Int) w1, I3 n x8 w1 → ∀ _ _ _ _ _ _ _ _ _ : Value,
  cond (decide ((x8 : Int) < class1.len)) (
  IX class1 x8 1 fun (px10 : Addr) =>
  LD [.int .i64] px10 w1 fun (x11 : Int) =>
  Calls Try.prog F.s_l1Most #[.int .i64 n, .int .i64 (IntKind.i64.wrap (x11 + 1))] w1 (Ret [.at (.int .i64)] fun (x15 : Int) w2 =>
  I3 x15 (IntKind.i64.wrap (x8 + 1)) w2 ∧ m3 x15 (IntKind.i64.wrap (x8 + 1)) w2 < m3 n x8 w1)) (
  Q n w1)

theorem C_s_viMany {Q : Int → World → Prop} {class1 : Sl} {w : World} (h : V_s_viMany Q class1 w) : Calls Try.prog F.s_viMany #[class1.v] w (Ret [.at (.int .i64)] Q) :=
  mkC (hint := hint) (ann := annOf [(3, ⟨[(3, .int .i64), (8, .int .i64)], [5, 9, 10, 11, 12, 13, 14, 15, 16]⟩)]) (args := [class1.v]) (rs := [.at (.int .i64)]) Try.func100 (by kernel_rfl) (by kernel_rfl) h

def V_s_mtOwn (Q : Bool → World → Prop) (n_0 : Sl) (n_1 : Sl) (n_2 : Sl) (v : Int) (w : World) : Prop :=
  NEW T.t_i_Network #[n_0.v, n_1.v, n_2.v] w fun (p_n : Addr) w1 =>
  LD [.sl, .sl, .sl] p_n w1 fun (x5_0 : Sl) (x5_1 : Sl) (x5_2 : Sl) =>
  Calls Try.prog F.s_neNear #[.agg #[x5_0.v, x5_1.v, x5_2.v], .int .i64 v] w1 (Ret [.at .sl] fun (x7 : Sl) w2 =>
  Calls Try.prog F.s_l1Has #[x7.v, .int .i64 v] w2 (Ret [.at .bool] fun (x9 : Bool) w3 =>
  Q x9 w3))

theorem C_s_mtOwn {Q : Bool → World → Prop} {n_0 : Sl} {n_1 : Sl} {n_2 : Sl} {v : Int} {w : World} (h : V_s_mtOwn Q n_0 n_1 n_2 v w) : Calls Try.prog F.s_mtOwn #[.agg #[n_0.v, n_1.v, n_2.v], .int .i64 v] w (Ret [.at .bool] Q) :=
  mkC (hint := hint) (ann := annOf []) (args := [.agg #[n_0.v, n_1.v, n_2.v], .int .i64 v]) (rs := [.at .bool]) Try.func101 (by kernel_rfl) (by kernel_rfl) h

end Go.Proofs.Ytoeaoinedidbiaa
