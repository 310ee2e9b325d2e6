/- What each function's code computes to. Printed by a program. -/
import Derived.Test.YtghibjghjjnchaaNames
namespace Go.Proofs.Ytghibjghjjnchaa
open Go.GX Go.RowKit
set_option linter.unusedVariables false
set_option maxRecDepth 100000

def V_s_mtMaximal (Q : Bool → World → Prop) (n_0 : Sl) (n_1 : Sl) (n_2 : Sl) (m : Sl) (w : World) : Prop :=
  NEW T.t_i_Network #[n_0.v, n_1.v, n_2.v] w fun (p_n : Addr) w1 =>
  LD [.sl, .sl, .sl] p_n w1 fun (x7_0 : Sl) (x7_1 : Sl) (x7_2 : Sl) =>
  Calls Try.prog F.s_neEdges #[.agg #[x7_0.v, x7_1.v, x7_2.v]] w1 (Ret [.at .sl] fun (x8 : Sl) w2 =>
  ∃ (I2 : Int → World → Prop) (m2 : Int → World → Nat), I2 0 w2 ∧ ∀ (x10 : Int) w3, I2 x10 w3 → ∀ _ _ _ _ _ _ _ _ _ _ _ _ _ _ _ _ _ _ _ _ _ _ _ _ _ _ _ _ _ _ _ : Value,
  cond (decide ((x10 : Int) < x8.len)) (
  IX x8 x10 1 fun (px12 : Addr) =>
  LD [.sl] px12 w3 fun (x13 : Sl) =>
  IX x13 0 1 fun (px15 : Addr) =>
  LD [.int .i64] px15 w3 fun (x16 : Int) =>
  IX x13 2 1 fun (px18 : Addr) =>
  LD [.int .i64] px18 w3 fun (x19 : Int) =>
  cond ((x16 : Int) != x19) (
  IX x13 0 1 fun (px24 : Addr) =>
  LD [.int .i64] px24 w3 fun (x25 : Int) =>
  IX m x25 1 fun (px26 : Addr) =>
  LD [.int .i64] px26 w3 fun (x27 : Int) =>
  cond (decide ((x27 : Int) < 0)) (
  IX x13 2 1 fun (px33 : Addr) =>
  LD [.int .i64] px33 w3 fun (x34 : Int) =>
  IX m x34 1 fun (px35 : Addr) =>
  LD [.int .i64] px35 w3 fun (x36 : Int) =>
  ∀ w4, Ext w3 w4 →
  cond (decide ((x36 : Int) < 0)) (
  Q false w4) (
  I2 (IntKind.i64.wrap (x10 + 1)) w4 ∧ m2 (IntKind.i64.wrap (x10 + 1)) w4 < m2 x10 w3)) (
  ∀ w5, Ext w3 w5 →
  I2 (IntKind.i64.wrap (x10 + 1)) w5 ∧ m2 (IntKind.i64.wrap (x10 + 1)) w5 < m2 x10 w3)) (
  ∀ w6, Ext w3 w6 →
  I2 (IntKind.i64.wrap (x10 + 1)) w6 ∧ m2 (IntKind.i64.wrap (x10 + 1)) w6 < m2 x10 w3)) (
  Q true w3))

theorem C_s_mtMaximal {Q : Bool → World → Prop} {n_0 : Sl} {n_1 : Sl} {n_2 : Sl} {m : Sl} {w : World} (h : V_s_mtMaximal Q n_0 n_1 n_2 m w) : Calls Try.prog F.s_mtMaximal #[.agg #[n_0.v, n_1.v, n_2.v], m.v] w (Ret [.at .bool] Q) :=
  mkC (hint := hint) (ann := annOf [(2, ⟨[(10, .int .i64)], [4, 6, 11, 12, 13, 14, 15, 16, 17, 18, 19, 20, 21, 22, 23, 24, 25, 26, 27, 28, 29, 30, 31, 32, 33, 34, 35, 36, 37, 38, 39]⟩)]) (args := [.agg #[n_0.v, n_1.v, n_2.v], m.v]) (rs := [.at .bool]) Try.func76 (by kernel_rfl) (by kernel_rfl) h

def V_slices_ContainsFunc_sl_i_edge_i_edge (Q : Bool → World → Prop) (s : Sl) (f : Value) (w : World) : Prop :=
  Calls Try.prog F.slices_IndexFunc_sl_i_edge_i_edge #[s.v, f] w (Ret [.at (.int .i64)] fun (x7 : Int) w1 =>
  Q (decide ((x7 : Int) ≥ 0)) w1)

theorem C_slices_ContainsFunc_sl_i_edge_i_edge {Q : Bool → World → Prop} {s : Sl} {f : Value} {w : World} (h : V_slices_ContainsFunc_sl_i_edge_i_edge Q s f w) : Calls Try.prog F.slices_ContainsFunc_sl_i_edge_i_edge #[s.v, f] w (Ret [.at .bool] Q) :=
  mkC (hint := hint) (ann := annOf []) (args := [s.v, f]) (rs := [.at .bool]) Try.func77 (by kernel_rfl) (by kernel_rfl) h

def V_i_Network_edges_k5 (I6 : Sl → Int → World → Prop) (m6 : Sl → Int → World → Nat) (out_2 : Sl) (x18 : Int) (w3 : World) (out_3 : Sl) (w10 : World) : Prop :=
  I6 out_3 (IntKind.i64.wrap (x18 + 1)) w10 ∧ m6 out_3 (IntKind.i64.wrap (x18 + 1)) w10 < m6 out_2 x18 w3

def V_i_Network_edges (Q : Sl → World → Prop) (n_0 : Sl) (n_1 : Sl) (n_2 : Sl) (w : World) : Prop :=
  NEW T.t_i_Network #[n_0.v, n_1.v, n_2.v] w fun (p_n : Addr) w1 =>
  LD [.sl] (p_n.add 0) w1 fun (x9 : Sl) =>
  ∃ (I3 : Sl → Int → World → Prop) (m3 : Sl → Int → World → Nat), I3 (⟨none, 0, 0⟩) 0 w1 ∧ ∀ (out : Sl) (x11 : Int) w2, I3 out x11 w2 → ∀ _ _ _ _ _ _ _ _ _ _ _ _ _ _ _ _ _ _ _ _ _ _ _ _ _ _ _ _ _ _ _ _ _ _ _ _ _ _ _ _ _ _ _ : Value,
  cond (decide ((x11 : Int) < x9.len)) (
  IX x9 x11 1 fun (px14 : Addr) =>
  LD [.sl] px14 w2 fun (x15 : Sl) =>
  ∃ (I6 : Sl → Int → World → Prop) (m6 : Sl → Int → World → Nat), I6 out 0 w2 ∧ ∀ (out_2 : Sl) (x18 : Int) w3, I6 out_2 x18 w3 → ∀ _ _ _ _ _ _ _ _ _ _ _ _ _ _ _ _ _ _ _ _ _ _ _ _ _ _ _ _ _ _ _ _ _ : Value,
  cond (decide ((x18 : Int) < x15.len)) (
  IX x15 x18 2 fun (px21 : Addr) =>
  LD [.int .i64, .int .i64] px21 w3 fun (x22_0 : Int) (x22_1 : Int) =>
  NEW T.t_i_End #[.int .i64 0, .int .i64 0] w3 fun (p_e : Addr) w4 =>
  ST p_e 0 [.int .i64 x22_0, .int .i64 x22_1] w4 fun w5 =>
  LD [.int .i64] (p_e.add 0) w5 fun (x25 : Int) =>
  cond (decide ((x11 : Int) < x25)) (
  LD [.int .i64] (p_e.add 0) w5 fun (x43 : Int) =>
  LD [.int .i64] (p_e.add 1) w5 fun (x45 : Int) =>
  RUN Try.prog (.at .sl) (Instr.buildSlice T.t_sl_i_edge 1 #[(0, .agg #[.int .i64 x11, .int .i64 x18, .int .i64 x43, .int .i64 x45])]) w5 fun (x47 : Sl) w6 =>
  RUN Try.prog (.at .sl) (bsem .append #[T.t_sl_i_edge, T.t_sl_i_edge] T.t_sl_i_edge #[out_2.v, x47.v]) w6 fun (x48 : Sl) w7 =>
  V_i_Network_edges_k5 I6 m6 out_2 x18 w3 x48 w7) (
  LD [.int .i64] (p_e.add 0) w5 fun (x30 : Int) =>
  cond ((x11 : Int) == x30) (
  LD [.int .i64] (p_e.add 1) w5 fun (x35 : Int) =>
  cond (decide ((x18 : Int) ≤ x35)) (
  LD [.int .i64] (p_e.add 0) w5 fun (x43_2 : Int) =>
  LD [.int .i64] (p_e.add 1) w5 fun (x45_2 : Int) =>
  RUN Try.prog (.at .sl) (Instr.buildSlice T.t_sl_i_edge 1 #[(0, .agg #[.int .i64 x11, .int .i64 x18, .int .i64 x43_2, .int .i64 x45_2])]) w5 fun (x47_2 : Sl) w8 =>
  RUN Try.prog (.at .sl) (bsem .append #[T.t_sl_i_edge, T.t_sl_i_edge] T.t_sl_i_edge #[out_2.v, x47_2.v]) w8 fun (x48_2 : Sl) w9 =>
  V_i_Network_edges_k5 I6 m6 out_2 x18 w3 x48_2 w9) (
  V_i_Network_edges_k5 I6 m6 out_2 x18 w3 out_2 w5)) (
  V_i_Network_edges_k5 I6 m6 out_2 x18 w3 out_2 w5))) (
  I3 out_2 (IntKind.i64.wrap (x11 + 1)) w3 ∧ m3 out_2 (IntKind.i64.wrap (x11 + 1)) w3 < m3 out x11 w2)) (
  Q out w2)

theorem C_i_Network_edges {Q : Sl → World → Prop} {n_0 : Sl} {n_1 : Sl} {n_2 : Sl} {w : World} (h : V_i_Network_edges Q n_0 n_1 n_2 w) : Calls Try.prog F.i_Network_edges #[.agg #[n_0.v, n_1.v, n_2.v]] w (Ret [.at .sl] Q) :=
  mkC (hint := hint) (ann := annOf [(3, ⟨[(3, .sl), (11, .int .i64)], [4, 5, 6, 7, 12, 13, 14, 15, 16, 17, 18, 19, 20, 21, 22, 23, 24, 25, 26, 27, 28, 29, 30, 31, 32, 33, 34, 35, 36, 37, 38, 39, 40, 41, 42, 43, 44, 45, 46, 47, 48, 49, 50]⟩), (6, ⟨[(3, .sl), (18, .int .i64)], [6, 7, 19, 20, 21, 22, 23, 24, 25, 26, 27, 28, 29, 30, 31, 32, 33, 34, 35, 36, 37, 38, 39, 40, 41, 42, 43, 44, 45, 46, 47, 48, 49]⟩)]) (args := [.agg #[n_0.v, n_1.v, n_2.v]]) (rs := [.at .sl]) Try.func78 (by kernel_rfl) (by kernel_rfl) h

def V_i_IsMaximalMatching_1 (Q : Bool → World → Prop) (e_0 : Int) (e_1 : Int) (e_2 : Int) (e_3 : Int) (cap0 : Addr) (w : World) : Prop :=
  NEW T.t_i_edge #[.int .i64 e_0, .int .i64 e_1, .int .i64 e_2, .int .i64 e_3] w fun (p_e : Addr) w1 =>
  LD [.int .i64] (p_e.add 0) w1 fun (x5 : Int) =>
  LD [.int .i64] (p_e.add 2) w1 fun (x7 : Int) =>
  cond ((x5 : Int) != x7) (
  LD [.sl] cap0 w1 fun (x10 : Sl) =>
  LD [.int .i64] (p_e.add 0) w1 fun (x12 : Int) =>
  IX x10 x12 1 fun (px13 : Addr) =>
  LD [.int .i64] px13 w1 fun (x14 : Int) =>
  cond (decide ((x14 : Int) < 0)) (
  LD [.sl] cap0 w1 fun (x18 : Sl) =>
  LD [.int .i64] (p_e.add 2) w1 fun (x20 : Int) =>
  IX x18 x20 1 fun (px21 : Addr) =>
  LD [.int .i64] px21 w1 fun (x22 : Int) =>
  Q (decide ((x22 : Int) < 0)) w1) (
  Q false w1)) (
  Q false w1)

theorem C_i_IsMaximalMatching_1 {Q : Bool → World → Prop} {e_0 : Int} {e_1 : Int} {e_2 : Int} {e_3 : Int} {cap0 : Addr} {w : World} (h : V_i_IsMaximalMatching_1 Q e_0 e_1 e_2 e_3 cap0 w) : Calls Try.prog F.i_IsMaximalMatching_1 #[.agg #[.int .i64 e_0, .int .i64 e_1, .int .i64 e_2, .int .i64 e_3], .pointer (some cap0)] w (Ret [.at .bool] Q) :=
  mkC (hint := hint) (ann := annOf []) (args := [.agg #[.int .i64 e_0, .int .i64 e_1, .int .i64 e_2, .int .i64 e_3], .pointer (some cap0)]) (rs := [.at .bool]) Try.func79 (by kernel_rfl) (by kernel_rfl) h

def V_s_mtOwn (Q : Bool → World → Prop) (n_0 : Sl) (n_1 : Sl) (n_2 : Sl) (v : Int) (w : World) : Prop :=
  NEW T.t_i_Network #[n_0.v, n_1.v, n_2.v] w fun (p_n : Addr) w1 =>
  LD [.sl, .sl, .sl] p_n w1 fun (x5_0 : Sl) (x5_1 : Sl) (x5_2 : Sl) =>
  Calls Try.prog F.s_neNear #[.agg #[x5_0.v, x5_1.v, x5_2.v], .int .i64 v] w1 (Ret [.at .sl] fun (x7 : Sl) w2 =>
  Calls Try.prog F.s_l1Has #[x7.v, .int .i64 v] w2 (Ret [.at .bool] fun (x9 : Bool) w3 =>
  Q x9 w3))

theorem C_s_mtOwn {Q : Bool → World → Prop} {n_0 : Sl} {n_1 : Sl} {n_2 : Sl} {v : Int} {w : World} (h : V_s_mtOwn Q n_0 n_1 n_2 v w) : Calls Try.prog F.s_mtOwn #[.agg #[n_0.v, n_1.v, n_2.v], .int .i64 v] w (Ret [.at .bool] Q) :=
  mkC (hint := hint) (ann := annOf []) (args := [.agg #[n_0.v, n_1.v, n_2.v], .int .i64 v]) (rs := [.at .bool]) Try.func80 (by kernel_rfl) (by kernel_rfl) h

def V_s_mtApart (Q : Bool → World → Prop) (n_0 : Sl) (n_1 : Sl) (n_2 : Sl) (v : Int) (set1 : Sl) (w : World) : Prop :=
  NEW T.t_i_Network #[n_0.v, n_1.v, n_2.v] w fun (p_n : Addr) w1 =>
  LD [.sl, .sl, .sl] p_n w1 fun (x9_0 : Sl) (x9_1 : Sl) (x9_2 : Sl) =>
  Calls Try.prog F.s_neNear #[.agg #[x9_0.v, x9_1.v, x9_2.v], .int .i64 v] w1 (Ret [.at .sl] fun (x11 : Sl) w2 =>
  ∃ (I2 : Int → World → Prop) (m2 : Int → World → Nat), I2 0 w2 ∧ ∀ (x13 : Int) w3, I2 x13 w3 → ∀ _ _ _ _ _ _ _ _ _ : Value,
  cond (decide ((x13 : Int) < x11.len)) (
  IX x11 x13 1 fun (px15 : Addr) =>
  LD [.int .i64] px15 w3 fun (x16 : Int) =>
  Calls Try.prog F.s_l1Has #[set1.v, .int .i64 x16] w3 (Ret [.at .bool] fun (x19 : Bool) w4 =>
  cond x19 (
  Q false w4) (
  I2 (IntKind.i64.wrap (x13 + 1)) w4 ∧ m2 (IntKind.i64.wrap (x13 + 1)) w4 < m2 x13 w3))) (
  Q true w3))

theorem C_s_mtApart {Q : Bool → World → Prop} {n_0 : Sl} {n_1 : Sl} {n_2 : Sl} {v : Int} {set1 : Sl} {w : World} (h : V_s_mtApart Q n_0 n_1 n_2 v set1 w) : Calls Try.prog F.s_mtApart #[.agg #[n_0.v, n_1.v, n_2.v], .int .i64 v, set1.v] w (Ret [.at .bool] Q) :=
  mkC (hint := hint) (ann := annOf [(2, ⟨[(13, .int .i64)], [6, 8, 14, 15, 16, 17, 18, 19, 20]⟩)]) (args := [.agg #[n_0.v, n_1.v, n_2.v], .int .i64 v, set1.v]) (rs := [.at .bool]) Try.func81 (by kernel_rfl) (by kernel_rfl) h

def V_slices_Contains_sl_int_int (Q : Bool → World → Prop) (s : Sl) (v : Int) (w : World) : Prop :=
  Calls Try.prog F.slices_Index_sl_int_int #[s.v, .int .i64 v] w (Ret [.at (.int .i64)] fun (x7 : Int) w1 =>
  Q (decide ((x7 : Int) ≥ 0)) w1)

theorem C_slices_Contains_sl_int_int {Q : Bool → World → Prop} {s : Sl} {v : Int} {w : World} (h : V_slices_Contains_sl_int_int Q s v w) : Calls Try.prog F.slices_Contains_sl_int_int #[s.v, .int .i64 v] w (Ret [.at .bool] Q) :=
  mkC (hint := hint) (ann := annOf []) (args := [s.v, .int .i64 v]) (rs := [.at .bool]) Try.func82 (by kernel_rfl) (by kernel_rfl) h

def V_i_areJoined (Q : Bool → World → Prop) (n_0 : Sl) (n_1 : Sl) (n_2 : Sl) (u : Int) (v : Int) (w : World) : Prop :=
  NEW T.t_i_Network #[n_0.v, n_1.v, n_2.v] w fun (p_n : Addr) w1 =>
  NEW T.t_int #[.int .i64 v] w1 fun (p_v : Addr) w2 =>
  LD [.sl] (p_n.add 0) w2 fun (x8 : Sl) =>
  IX x8 u 1 fun (px10 : Addr) =>
  LD [.sl] px10 w2 fun (x11 : Sl) =>
  Calls Try.prog F.slices_ContainsFunc_sl_i_End_i_End #[x11.v, .func (.func F.i_areJoined_1) #[] #[.pointer (some p_v)]] w2 (Ret [.at .bool] fun (x13 : Bool) w3 =>
  Q x13 w3)

theorem C_i_areJoined {Q : Bool → World → Prop} {n_0 : Sl} {n_1 : Sl} {n_2 : Sl} {u : Int} {v : Int} {w : World} (h : V_i_areJoined Q n_0 n_1 n_2 u v w) : Calls Try.prog F.i_areJoined #[.agg #[n_0.v, n_1.v, n_2.v], .int .i64 u, .int .i64 v] w (Ret [.at .bool] Q) :=
  mkC (hint := hint) (ann := annOf []) (args := [.agg #[n_0.v, n_1.v, n_2.v], .int .i64 u, .int .i64 v]) (rs := [.at .bool]) Try.func83 (by kernel_rfl) (by kernel_rfl) h

def V_i_hasNear (Q : Bool → World → Prop) (n_0 : Sl) (n_1 : Sl) (n_2 : Sl) (v : Int) (set1 : Sl) (w : World) : Prop :=
  NEW T.t_i_Network #[n_0.v, n_1.v, n_2.v] w fun (p_n : Addr) w1 =>
  NEW T.t_sl_int #[set1.v] w1 fun (p_set : Addr) w2 =>
  LD [.sl] (p_n.add 0) w2 fun (x8 : Sl) =>
  IX x8 v 1 fun (px10 : Addr) =>
  LD [.sl] px10 w2 fun (x11 : Sl) =>
  Calls Try.prog F.slices_ContainsFunc_sl_i_End_i_End #[x11.v, .func (.func F.i_hasNear_1) #[] #[.pointer (some p_set)]] w2 (Ret [.at .bool] fun (x13 : Bool) w3 =>
  Q x13 w3)

theorem C_i_hasNear {Q : Bool → World → Prop} {n_0 : Sl} {n_1 : Sl} {n_2 : Sl} {v : Int} {set1 : Sl} {w : World} (h : V_i_hasNear Q n_0 n_1 n_2 v set1 w) : Calls Try.prog F.i_hasNear #[.agg #[n_0.v, n_1.v, n_2.v], .int .i64 v, set1.v] w (Ret [.at .bool] Q) :=
  mkC (hint := hint) (ann := annOf []) (args := [.agg #[n_0.v, n_1.v, n_2.v], .int .i64 v, set1.v]) (rs := [.at .bool]) Try.func84 (by kernel_rfl) (by kernel_rfl) h

def V_s_ruSet (Q : Bool → World → Prop) (n_0 : Sl) (n_1 : Sl) (n_2 : Sl) (set1 : Sl) (w : World) : Prop :=
  NEW T.t_i_Network #[n_0.v, n_1.v, n_2.v] w fun (p_n : Addr) w1 =>
  LD [.sl, .sl, .sl] p_n w1 fun (x5_0 : Sl) (x5_1 : Sl) (x5_2 : Sl) =>
  Calls Try.prog F.s_neGood #[.agg #[x5_0.v, x5_1.v, x5_2.v]] w1 (Ret [.at .bool] fun (x6 : Bool) w2 =>
  cond x6 (
  LD [.sl] (p_n.add 0) w2 fun (x10 : Sl) =>
  Calls Try.prog F.s_l1Rising #[set1.v, .int .i64 0, .int .i64 (IntKind.i64.wrap (x10.len - 1))] w2 (Ret [.at .bool] fun (x13 : Bool) w3 =>
  Q x13 w3)) (
  Q false w2))

theorem C_s_ruSet {Q : Bool → World → Prop} {n_0 : Sl} {n_1 : Sl} {n_2 : Sl} {set1 : Sl} {w : World} (h : V_s_ruSet Q n_0 n_1 n_2 set1 w) : Calls Try.prog F.s_ruSet #[.agg #[n_0.v, n_1.v, n_2.v], set1.v] w (Ret [.at .bool] Q) :=
  mkC (hint := hint) (ann := annOf []) (args := [.agg #[n_0.v, n_1.v, n_2.v], set1.v]) (rs := [.at .bool]) Try.func85 (by kernel_rfl) (by kernel_rfl) h

def V_s_ruCovers (Q : Bool → World → Prop) (n_0 : Sl) (n_1 : Sl) (n_2 : Sl) (set1 : Sl) (beta : Int) (w : World) : Prop :=
  NEW T.t_i_Network #[n_0.v, n_1.v, n_2.v] w fun (p_n : Addr) w1 =>
  LD [.sl] (p_n.add 0) w1 fun (x9 : Sl) =>
  ∃ (I2 : Int → World → Prop) (m2 : Int → World → Nat), I2 0 w1 ∧ ∀ (x11 : Int) w2, I2 x11 w2 → ∀ _ _ _ _ _ _ _ _ _ _ _ _ : Value,
  cond (decide ((x11 : Int) < x9.len)) (
  LD [.sl, .sl, .sl] p_n w2 fun (x14_0 : Sl) (x14_1 : Sl) (x14_2 : Sl) =>
  Calls Try.prog F.s_ruFar #[.agg #[x14_0.v, x14_1.v, x14_2.v], set1.v, .int .i64 x11] w2 (Ret [.at (.int .i64)] fun (x17 : Int) w3 =>
  Calls Try.prog F.s_l1In #[.int .i64 x17, .int .i64 0, .int .i64 beta] w3 (Ret [.at .bool] fun (x19 : Bool) w4 =>
  cond (!x19) (
  Q false w4) (
  I2 (IntKind.i64.wrap (x11 + 1)) w4 ∧ m2 (IntKind.i64.wrap (x11 + 1)) w4 < m2 x11 w2)))) (
  Q true w2)

theorem C_s_ruCovers {Q : Bool → World → Prop} {n_0 : Sl} {n_1 : Sl} {n_2 : Sl} {set1 : Sl} {beta : Int} {w : World} (h : V_s_ruCovers Q n_0 n_1 n_2 set1 beta w) : Calls Try.prog F.s_ruCovers #[.agg #[n_0.v, n_1.v, n_2.v], set1.v, .int .i64 beta] w (Ret [.at .bool] Q) :=
  mkC (hint := hint) (ann := annOf [(2, ⟨[(11, .int .i64)], [6, 7, 12, 13, 14, 15, 16, 17, 18, 19, 20, 21]⟩)]) (args := [.agg #[n_0.v, n_1.v, n_2.v], set1.v, .int .i64 beta]) (rs := [.at .bool]) Try.func86 (by kernel_rfl) (by kernel_rfl) h

def V_i_isDominating (Q : Bool → World → Prop) (n_0 : Sl) (n_1 : Sl) (n_2 : Sl) (set1 : Sl) (w : World) : Prop :=
  NEW T.t_i_Network #[n_0.v, n_1.v, n_2.v] w fun (p_n : Addr) w1 =>
  NEW T.t_sl_int #[set1.v] w1 fun (p_set : Addr) w2 =>
  LD [.sl] (p_n.add 0) w2 fun (x6 : Sl) =>
  Calls Try.prog F.i_numbersTo #[.int .i64 x6.len] w2 (Ret [.at .sl] fun (x8 : Sl) w3 =>
  Calls Try.prog F.slices_ContainsFunc_sl_int_int #[x8.v, .func (.func F.i_isDominating_1) #[] #[.pointer (some p_set), .pointer (some p_n)]] w3 (Ret [.at .bool] fun (x10 : Bool) w4 =>
  Q (!x10) w4))

theorem C_i_isDominating {Q : Bool → World → Prop} {n_0 : Sl} {n_1 : Sl} {n_2 : Sl} {set1 : Sl} {w : World} (h : V_i_isDominating Q n_0 n_1 n_2 set1 w) : Calls Try.prog F.i_isDominating #[.agg #[n_0.v, n_1.v, n_2.v], set1.v] w (Ret [.at .bool] Q) :=
  mkC (hint := hint) (ann := annOf []) (args := [.agg #[n_0.v, n_1.v, n_2.v], set1.v]) (rs := [.at .bool]) Try.func87 (by kernel_rfl) (by kernel_rfl) h

def V_s_l1In (Q : Bool → World → Prop) (n : Int) (lo : Int) (hi : Int) (w : World) : Prop :=
  cond (decide ((n : Int) ≥ lo)) (
  Q (decide ((n : Int) ≤ hi)) w) (
  Q false w)

theorem C_s_l1In {Q : Bool → World → Prop} {n : Int} {lo : Int} {hi : Int} {w : World} (h : V_s_l1In Q n lo hi w) : Calls Try.prog F.s_l1In #[.int .i64 n, .int .i64 lo, .int .i64 hi] w (Ret [.at .bool] Q) :=
  mkC (hint := hint) (ann := annOf []) (args := [.int .i64 n, .int .i64 lo, .int .i64 hi]) (rs := [.at .bool]) Try.func88 (by kernel_rfl) (by kernel_rfl) h

def V_s_nuNext (Q : Int → World → Prop) (n : Int) (w : World) : Prop :=
  ∃ (I1 : Int → World → Prop) (m1 : Int → World → Nat), I1 n w ∧ ∀ (n_2 : Int) w1, I1 n_2 w1 → ∀ _ _ _ _ _ : Value,
  Calls Try.prog F.s_nuPrime #[.int .i64 n_2] w1 (Ret [.at .bool] fun (x4 : Bool) w2 =>
  cond (!x4) (
  I1 (IntKind.i64.wrap (n_2 + 1)) w2 ∧ m1 (IntKind.i64.wrap (n_2 + 1)) w2 < m1 n_2 w1) (
  Q n_2 w2))

theorem C_s_nuNext {Q : Int → World → Prop} {n : Int} {w : World} (h : V_s_nuNext Q n w) : Calls Try.prog F.s_nuNext #[.int .i64 n] w (Ret [.at (.int .i64)] Q) :=
  mkC (hint := hint) (ann := annOf [(1, ⟨[(0, .int .i64)], [3, 4, 5, 6, 7]⟩)]) (args := [.int .i64 n]) (rs := [.at (.int .i64)]) Try.func89 (by kernel_rfl) (by kernel_rfl) h

def V_s_clPower (Q : Bool → World → Prop) (q : Int) (d : Int) (k : Int) (w : World) : Prop :=
  ∃ (I3 : Int → Int → World → Prop) (m3 : Int → Int → World → Nat), I3 1 0 w ∧ ∀ (all : Int) (i : Int) w1, I3 all i w1 → ∀ _ _ _ _ _ _ _ _ _ _ _ _ : Value,
  cond (decide ((i : Int) ≤ d)) (
  cond (decide (((IntKind.i64.wrap (all * q)) : Int) ≥ k)) (
  Q true w1) (
  I3 (IntKind.i64.wrap (all * q)) (IntKind.i64.wrap (i + 1)) w1 ∧ m3 (IntKind.i64.wrap (all * q)) (IntKind.i64.wrap (i + 1)) w1 < m3 all i w1)) (
  Q false w1)

theorem C_s_clPower {Q : Bool → World → Prop} {q : Int} {d : Int} {k : Int} {w : World} (h : V_s_clPower Q q d k w) : Calls Try.prog F.s_clPower #[.int .i64 q, .int .i64 d, .int .i64 k] w (Ret [.at .bool] Q) :=
  mkC (hint := hint) (ann := annOf [(3, ⟨[(7, .int .i64), (8, .int .i64)], [6, 9, 10, 11, 12, 13, 14, 15, 16, 17, 18, 19]⟩)]) (args := [.int .i64 q, .int .i64 d, .int .i64 k]) (rs := [.at .bool]) Try.func90 (by kernel_rfl) (by kernel_rfl) h

def V_i_isPrime (Q : Bool → World → Prop) (n : Int) (w : World) : Prop :=
  ∃ (I2 : Int → World → Prop) (m2 : Int → World → Nat), I2 2 w ∧ ∀ (d : Int) w1, I2 d w1 → ∀ _ _ _ _ _ _ _ _ _ _ _ _ : Value,
  cond (decide (((IntKind.i64.wrap (d * d)) : Int) ≤ n)) (
  (d : Int) ≠ 0 ∧ (
  cond (((Int.tmod n d) : Int) == 0) (
  Q false w1) (
  I2 (IntKind.i64.wrap (d + 1)) w1 ∧ m2 (IntKind.i64.wrap (d + 1)) w1 < m2 d w1))) (
  Q (decide ((n : Int) > 1)) w1)

theorem C_i_isPrime {Q : Bool → World → Prop} {n : Int} {w : World} (h : V_i_isPrime Q n w) : Calls Try.prog F.i_isPrime #[.int .i64 n] w (Ret [.at .bool] Q) :=
  mkC (hint := hint) (ann := annOf [(2, ⟨[(3, .int .i64)], [2, 4, 5, 6, 7, 8, 9, 10, 11, 12, 13, 14]⟩)]) (args := [.int .i64 n]) (rs := [.at .bool]) Try.func91 (by kernel_rfl) (by kernel_rfl) h

def V_slices_Collect_int (Q : Sl → World → Prop) (seq : Value) (w : World) : Prop :=
  Calls Try.prog F.slices_AppendSeq_sl_int_int #[.slice none 0 0, seq] w (Ret [.at .sl] fun (x4 : Sl) w1 =>
  Q x4 w1)

theorem C_slices_Collect_int {Q : Sl → World → Prop} {seq : Value} {w : World} (h : V_slices_Collect_int Q seq w) : Calls Try.prog F.slices_Collect_int #[seq] w (Ret [.at .sl] Q) :=
  mkC (hint := hint) (ann := annOf []) (args := [seq]) (rs := [.at .sl]) Try.func92 (by kernel_rfl) (by kernel_rfl) h

def V_slices_Values_sl_int_int_1 (Q : World → Prop) (yield : Value) (cap0 : Addr) (w : World) : Prop :=
  LD [.sl] cap0 w fun (x5 : Sl) =>
  ∃ (I1 : Int → World → Prop) (m1 : Int → World → Nat), I1 0 w ∧ ∀ (x7 : Int) w1, I1 x7 w1 → ∀ _ _ _ _ _ _ _ _ _ : Value,
  cond (decide ((x7 : Int) < x5.len)) (
  IX x5 x7 1 fun (px9 : Addr) =>
  LD [.int .i64] px9 w1 fun (x10 : Int) =>
  CALLV Try.prog yield #[.int .i64 x10] w1 (Ret [.at .bool] fun (x13 : Bool) w2 =>
  cond (!x13) (
  Q w2) (
  I1 (IntKind.i64.wrap (x7 + 1)) w2 ∧ m1 (IntKind.i64.wrap (x7 + 1)) w2 < m1 x7 w1))) (
  Q w1)

theorem C_slices_Values_sl_int_int_1 {Q : World → Prop} {yield : Value} {cap0 : Addr} {w : World} (h : V_slices_Values_sl_int_int_1 Q yield cap0 w) : Calls Try.prog F.slices_Values_sl_int_int_1 #[yield, .pointer (some cap0)] w (Ret [] Q) :=
  mkC (hint := hint) (ann := annOf [(1, ⟨[(7, .int .i64)], [4, 8, 9, 10, 11, 12, 13, 14, 15]⟩)]) (args := [yield, .pointer (some cap0)]) (rs := []) Try.func94 (by kernel_rfl) (by kernel_rfl) h

def V_l_szEndS (Q : Int → World → Prop) (a : Sl) (left : Int) (w : World) : Prop :=
  cond (decide (((IntKind.i64.wrap (left - a.len)) : Int) < 0)) (
  Q (-1) w) (
  Q (IntKind.i64.wrap (left - a.len)) w)

theorem C_l_szEndS {Q : Int → World → Prop} {a : Sl} {left : Int} {w : World} (h : V_l_szEndS Q a left w) : Calls Try.prog F.l_szEndS #[a.v, .int .i64 left] w (Ret [.at (.int .i64)] Q) :=
  mkC (hint := hint) (ann := annOf []) (args := [a.v, .int .i64 left]) (rs := [.at (.int .i64)]) Try.func95 (by kernel_rfl) (by kernel_rfl) h

def V_s_neIds (Q : Bool → World → Prop) (ids : Sl) (nodes : Int) (w : World) : Prop :=
  ∃ (I2 : Int → World → Prop) (m2 : Int → World → Nat), I2 0 w ∧ ∀ (x9 : Int) w1, I2 x9 w1 → ∀ _ _ _ _ _ _ _ _ _ _ _ _ _ _ _ _ _ _ : Value,
  cond (decide ((x9 : Int) < ids.len)) (
  IX ids x9 1 fun (px12 : Addr) =>
  LD [.int .i64] px12 w1 fun (x13 : Int) =>
  Calls Try.prog F.s_l1In #[.int .i64 x13, .int .i64 1, .int .i64 999999] w1 (Ret [.at .bool] fun (x15 : Bool) w2 =>
  cond (!x15) (
  Q false w2) (
  SLC ids none (some x9) 1 fun (x20 : Sl) =>
  Calls Try.prog F.s_l1Has #[x20.v, .int .i64 x13] w2 (Ret [.at .bool] fun (x22 : Bool) w3 =>
  cond x22 (
  Q false w3) (
  I2 (IntKind.i64.wrap (x9 + 1)) w3 ∧ m2 (IntKind.i64.wrap (x9 + 1)) w3 < m2 x9 w1))))) (
  cond ((ids.len : Int) == 0) (
  Q true w1) (
  Q ((ids.len : Int) == nodes) w1))

theorem C_s_neIds {Q : Bool → World → Prop} {ids : Sl} {nodes : Int} {w : World} (h : V_s_neIds Q ids nodes w) : Calls Try.prog F.s_neIds #[ids.v, .int .i64 nodes] w (Ret [.at .bool] Q) :=
  mkC (hint := hint) (ann := annOf [(2, ⟨[(9, .int .i64)], [4, 5, 6, 10, 11, 12, 13, 14, 15, 16, 17, 18, 19, 20, 21, 22, 23, 24]⟩)]) (args := [ids.v, .int .i64 nodes]) (rs := [.at .bool]) Try.func96 (by kernel_rfl) (by kernel_rfl) h

def V_s_l1All (Q : Bool → World → Prop) (l : Sl) (lo : Int) (hi : Int) (w : World) : Prop :=
  ∃ (I2 : Int → World → Prop) (m2 : Int → World → Nat), I2 0 w ∧ ∀ (x11 : Int) w1, I2 x11 w1 → ∀ _ _ _ _ _ _ _ _ _ _ _ : Value,
  cond (decide ((x11 : Int) < l.len)) (
  IX l x11 1 fun (px13 : Addr) =>
  LD [.int .i64] px13 w1 fun (x14 : Int) =>
  Calls Try.prog F.s_l1In #[.int .i64 x14, .int .i64 lo, .int .i64 hi] w1 (Ret [.at .bool] fun (x18 : Bool) w2 =>
  cond (!x18) (
  Q false w2) (
  I2 (IntKind.i64.wrap (x11 + 1)) w2 ∧ m2 (IntKind.i64.wrap (x11 + 1)) w2 < m2 x11 w1))) (
  Q true w1)

theorem C_s_l1All {Q : Bool → World → Prop} {l : Sl} {lo : Int} {hi : Int} {w : World} (h : V_s_l1All Q l lo hi w) : Calls Try.prog F.s_l1All #[l.v, .int .i64 lo, .int .i64 hi] w (Ret [.at .bool] Q) :=
  mkC (hint := hint) (ann := annOf [(2, ⟨[(11, .int .i64)], [6, 8, 12, 13, 14, 15, 16, 17, 18, 19, 20]⟩)]) (args := [l.v, .int .i64 lo, .int .i64 hi]) (rs := [.at .bool]) Try.func97 (by kernel_rfl) (by kernel_rfl) h

def V_l_toEndS (Q : Sl → World → Prop) (a : Sl) (w : World) : Prop :=
  RUN Try.prog (.at .sl) (Instr.makeSlice T.t_sl_i_End (.int .i64 a.len) (.int .i64 a.len)) w fun (x7 : Sl) w1 =>
  ∃ (I3 : Int → World → Prop) (m3 : Int → World → Nat), I3 0 w1 ∧ ∀ (i : Int) w2, I3 i w2 → ∀ _ _ _ _ _ _ _ _ _ _ _ _ _ _ : Value,
  cond (decide ((i : Int) < a.len)) (
  IX a i 2 fun (px18 : Addr) =>
  LD [.int .i64, .int .i64] px18 w2 fun (x19_0 : Int) (x19_1 : Int) =>
  Calls Try.prog F.l_toEnd #[.agg #[.int .i64 x19_0, .int .i64 x19_1]] w2 (Ret [.agg [.int .i64, .int .i64]] fun (x20_0 : Int) (x20_1 : Int) w3 =>
  IX x7 i 2 fun (px21 : Addr) =>
  ST px21 0 [.int .i64 x20_0, .int .i64 x20_1] w3 fun w4 =>
  I3 (IntKind.i64.wrap (i + 1)) w4 ∧ m3 (IntKind.i64.wrap (i + 1)) w4 < m3 i w2)) (
  Q x7 w2)

theorem C_l_toEndS {Q : Sl → World → Prop} {a : Sl} {w : World} (h : V_l_toEndS Q a w) : Calls Try.prog F.l_toEndS #[a.v] w (Ret [.at .sl] Q) :=
  mkC (hint := hint) (ann := annOf [(3, ⟨[(4, .int .i64)], [8, 9, 10, 11, 12, 13, 14, 15, 16, 17, 18, 19, 20, 21]⟩)]) (args := [a.v]) (rs := [.at .sl]) Try.func98 (by kernel_rfl) (by kernel_rfl) h

def V_i_idsOk (Q : Bool → World → Prop) (ids : Sl) (nodes : Int) (w : World) : Prop :=
  cond ((ids.len : Int) == 0) (
  Q true w) (
  Calls Try.prog F.slices_Clone_sl_int_int #[ids.v] w (Ret [.at .sl] fun (x10 : Sl) w1 =>
  Calls Try.prog F.slices_Sort_sl_int_int #[x10.v] w1 (Ret [] fun  w2 =>
  cond ((ids.len : Int) == nodes) (
  Calls Try.prog F.i_increasing #[x10.v, .int .i64 1, .int .i64 999999] w2 (Ret [.at .bool] fun (x19 : Bool) w3 =>
  Q x19 w3)) (
  Q false w2))))

theorem C_i_idsOk {Q : Bool → World → Prop} {ids : Sl} {nodes : Int} {w : World} (h : V_i_idsOk Q ids nodes w) : Calls Try.prog F.i_idsOk #[ids.v, .int .i64 nodes] w (Ret [.at .bool] Q) :=
  mkC (hint := hint) (ann := annOf []) (args := [ids.v, .int .i64 nodes]) (rs := [.at .bool]) Try.func99 (by kernel_rfl) (by kernel_rfl) h

def V_i_inputsOk (Q : Bool → World → Prop) (inputs : Sl) (nodes : Int) (w : World) : Prop :=
  cond ((inputs.len : Int) == nodes) (
  Calls Try.prog F.i_allWithin #[inputs.v, .int .i64 0, .int .i64 9] w (Ret [.at .bool] fun (x11 : Bool) w1 =>
  Q x11 w1)) (
  Q false w)

theorem C_i_inputsOk {Q : Bool → World → Prop} {inputs : Sl} {nodes : Int} {w : World} (h : V_i_inputsOk Q inputs nodes w) : Calls Try.prog F.i_inputsOk #[inputs.v, .int .i64 nodes] w (Ret [.at .bool] Q) :=
  mkC (hint := hint) (ann := annOf []) (args := [inputs.v, .int .i64 nodes]) (rs := [.at .bool]) Try.func100 (by kernel_rfl) (by kernel_rfl) h

def V_i_Network_hasPort (Q : Bool → World → Prop) (n_0 : Sl) (n_1 : Sl) (n_2 : Sl) (v : Int) (i : Int) (w : World) : Prop :=
  NEW T.t_i_Network #[n_0.v, n_1.v, n_2.v] w fun (p_n : Addr) w1 =>
  LD [.sl, .sl, .sl] p_n w1 fun (x7_0 : Sl) (x7_1 : Sl) (x7_2 : Sl) =>
  Calls Try.prog F.i_Network_hasNode #[.agg #[x7_0.v, x7_1.v, x7_2.v], .int .i64 v] w1 (Ret [.at .bool] fun (x9 : Bool) w2 =>
  cond x9 (
  LD [.sl] (p_n.add 0) w2 fun (x13 : Sl) =>
  IX x13 v 1 fun (px15 : Addr) =>
  LD [.sl] px15 w2 fun (x16 : Sl) =>
  Calls Try.prog F.i_within #[.int .i64 i, .int .i64 0, .int .i64 (IntKind.i64.wrap (x16.len - 1))] w2 (Ret [.at .bool] fun (x19 : Bool) w3 =>
  Q x19 w3)) (
  Q false w2))

theorem C_i_Network_hasPort {Q : Bool → World → Prop} {n_0 : Sl} {n_1 : Sl} {n_2 : Sl} {v : Int} {i : Int} {w : World} (h : V_i_Network_hasPort Q n_0 n_1 n_2 v i w) : Calls Try.prog F.i_Network_hasPort #[.agg #[n_0.v, n_1.v, n_2.v], .int .i64 v, .int .i64 i] w (Ret [.at .bool] Q) :=
  mkC (hint := hint) (ann := annOf []) (args := [.agg #[n_0.v, n_1.v, n_2.v], .int .i64 v, .int .i64 i]) (rs := [.at .bool]) Try.func101 (by kernel_rfl) (by kernel_rfl) h

def V_l_eqEndS (Q : Bool → World → Prop) (a : Sl) (b : Sl) (w : World) : Prop :=
  cond ((a.len : Int) != b.len) (
  Q false w) (
  ∃ (I4 : Int → World → Prop) (m4 : Int → World → Nat), I4 0 w ∧ ∀ (i : Int) w1, I4 i w1 → ∀ _ _ _ _ _ _ _ _ _ _ _ _ _ _ _ _ _ : Value,
  cond (decide ((i : Int) < a.len)) (
  IX a i 2 fun (px19 : Addr) =>
  LD [.int .i64, .int .i64] px19 w1 fun (x20_0 : Int) (x20_1 : Int) =>
  IX b i 2 fun (px23 : Addr) =>
  LD [.int .i64, .int .i64] px23 w1 fun (x24_0 : Int) (x24_1 : Int) =>
  QCALL Try.prog F.l_eqEnd #[.agg #[.int .i64 x20_0, .int .i64 x20_1], .agg #[.int .i64 x24_0, .int .i64 x24_1]] w1 [.at .bool] fun (x25 : Bool) =>
  ∀ w2, Ext w1 w2 →
  cond (!x25) (
  Q false w2) (
  I4 (IntKind.i64.wrap (i + 1)) w2 ∧ m4 (IntKind.i64.wrap (i + 1)) w2 < m4 i w1)) (
  Q true w1))

theorem C_l_eqEndS {Q : Bool → World → Prop} {a : Sl} {b : Sl} {w : World} (h : V_l_eqEndS Q a b w) : Calls Try.prog F.l_eqEndS #[a.v, b.v] w (Ret [.at .bool] Q) :=
  mkC (hint := hint) (ann := annOf [(4, ⟨[(5, .int .i64)], [4, 11, 12, 13, 14, 15, 16, 17, 18, 19, 20, 21, 22, 23, 24, 25, 26]⟩)]) (args := [a.v, b.v]) (rs := [.at .bool]) Try.func102 (by kernel_rfl) (by kernel_rfl) h

def V_s_imEdge (Q : Int → Int → Bool → World → Prop) (n_0 : Sl) (n_1 : Sl) (n_2 : Sl) (l : Sl) (w : World) : Prop :=
  NEW T.t_i_Network #[n_0.v, n_1.v, n_2.v] w fun (p_n : Addr) w1 =>
  LD [.sl] (p_n.add 0) w1 fun (x11 : Sl) =>
  ∃ (I2 : Int → World → Prop) (m2 : Int → World → Nat), I2 0 w1 ∧ ∀ (x13 : Int) w2, I2 x13 w2 → ∀ _ _ _ _ _ _ _ _ _ _ _ _ _ _ _ _ _ _ _ _ _ _ _ _ _ _ _ _ _ _ _ _ _ _ _ _ : Value,
  cond (decide ((x13 : Int) < x11.len)) (
  LD [.sl, .sl, .sl] p_n w2 fun (x16_0 : Sl) (x16_1 : Sl) (x16_2 : Sl) =>
  Calls Try.prog F.s_neNear #[.agg #[x16_0.v, x16_1.v, x16_2.v], .int .i64 x13] w2 (Ret [.at .sl] fun (x18 : Sl) w3 =>
  ∃ (I6 : Int → World → Prop) (m6 : Int → World → Nat), I6 x13 w3 ∧ ∀ (v : Int) w4, I6 v w4 → ∀ _ _ _ _ _ _ _ _ _ _ _ _ _ _ _ _ _ _ _ _ _ _ _ _ _ _ : Value,
  LD [.sl] (p_n.add 0) w4 fun (x22 : Sl) =>
  cond (decide ((v : Int) < x22.len)) (
  QCALL Try.prog F.s_l1Has #[x18.v, .int .i64 v] w4 [.at .bool] fun (x29 : Bool) =>
  cond x29 (
  IX l x13 1 fun (px33 : Addr) =>
  LD [.int .i64] px33 w4 fun (x34 : Int) =>
  IX l v 1 fun (px37 : Addr) =>
  LD [.int .i64] px37 w4 fun (x38 : Int) =>
  ∀ w5, Ext w4 w5 →
  cond ((x34 : Int) == x38) (
  Q x13 v true w5) (
  I6 (IntKind.i64.wrap (v + 1)) w5 ∧ m6 (IntKind.i64.wrap (v + 1)) w5 < m6 v w4)) (
  ∀ w6, Ext w4 w6 →
  I6 (IntKind.i64.wrap (v + 1)) w6 ∧ m6 (IntKind.i64.wrap (v + 1)) w6 < m6 v w4)) (
  I2 (IntKind.i64.wrap (x13 + 1)) w4 ∧ m2 (IntKind.i64.wrap (x13 + 1)) w4 < m2 x13 w2))) (
  Q 0 0 false w2)

theorem C_s_imEdge {Q : Int → Int → Bool → World → Prop} {n_0 : Sl} {n_1 : Sl} {n_2 : Sl} {l : Sl} {w : World} (h : V_s_imEdge Q n_0 n_1 n_2 l w) : Calls Try.prog F.s_imEdge #[.agg #[n_0.v, n_1.v, n_2.v], l.v] w (Ret [.at (.int .i64), .at (.int .i64), .at .bool] Q) :=
  mkC (hint := hint) (ann := annOf [(2, ⟨[(13, .int .i64)], [4, 5, 6, 7, 8, 9, 14, 15, 16, 17, 18, 19, 20, 21, 22, 23, 24, 25, 26, 27, 28, 29, 30, 31, 32, 33, 34, 35, 36, 37, 38, 39, 40, 41, 42, 43]⟩), (6, ⟨[(9, .int .i64)], [4, 5, 6, 20, 21, 22, 23, 24, 25, 26, 27, 28, 29, 30, 31, 32, 33, 34, 35, 36, 37, 38, 39, 40, 41, 42]⟩)]) (args := [.agg #[n_0.v, n_1.v, n_2.v], l.v]) (rs := [.at (.int .i64), .at (.int .i64), .at .bool]) Try.func103 (by kernel_rfl) (by kernel_rfl) h

def V_i_allWithin (Q : Bool → World → Prop) (list : Sl) (low : Int) (high : Int) (w : World) : Prop :=
  NEW T.t_int #[.int .i64 low] w fun (p_low : Addr) w1 =>
  NEW T.t_int #[.int .i64 high] w1 fun (p_high : Addr) w2 =>
  Calls Try.prog F.slices_ContainsFunc_sl_int_int #[list.v, .func (.func F.i_allWithin_1) #[] #[.pointer (some p_low), .pointer (some p_high)]] w2 (Ret [.at .bool] fun (x9 : Bool) w3 =>
  Q (!x9) w3)

theorem C_i_allWithin {Q : Bool → World → Prop} {list : Sl} {low : Int} {high : Int} {w : World} (h : V_i_allWithin Q list low high w) : Calls Try.prog F.i_allWithin #[list.v, .int .i64 low, .int .i64 high] w (Ret [.at .bool] Q) :=
  mkC (hint := hint) (ann := annOf []) (args := [list.v, .int .i64 low, .int .i64 high]) (rs := [.at .bool]) Try.func104 (by kernel_rfl) (by kernel_rfl) h

def V_i_isColouring_1 (Q : Bool → World → Prop) (e_0 : Int) (e_1 : Int) (e_2 : Int) (e_3 : Int) (cap0 : Addr) (w : World) : Prop :=
  NEW T.t_i_edge #[.int .i64 e_0, .int .i64 e_1, .int .i64 e_2, .int .i64 e_3] w fun (p_e : Addr) w1 =>
  LD [.sl] cap0 w1 fun (x4 : Sl) =>
  LD [.int .i64] (p_e.add 0) w1 fun (x6 : Int) =>
  IX x4 x6 1 fun (px7 : Addr) =>
  LD [.int .i64] px7 w1 fun (x8 : Int) =>
  LD [.sl] cap0 w1 fun (x9 : Sl) =>
  LD [.int .i64] (p_e.add 2) w1 fun (x11 : Int) =>
  IX x9 x11 1 fun (px12 : Addr) =>
  LD [.int .i64] px12 w1 fun (x13 : Int) =>
  ∀ w2, Ext w1 w2 →
  Q ((x8 : Int) == x13) w2

theorem C_i_isColouring_1 {Q : Bool → World → Prop} {e_0 : Int} {e_1 : Int} {e_2 : Int} {e_3 : Int} {cap0 : Addr} {w : World} (h : V_i_isColouring_1 Q e_0 e_1 e_2 e_3 cap0 w) : Calls Try.prog F.i_isColouring_1 #[.agg #[.int .i64 e_0, .int .i64 e_1, .int .i64 e_2, .int .i64 e_3], .pointer (some cap0)] w (Ret [.at .bool] Q) :=
  mkC (hint := hint) (ann := annOf []) (args := [.agg #[.int .i64 e_0, .int .i64 e_1, .int .i64 e_2, .int .i64 e_3], .pointer (some cap0)]) (rs := [.at .bool]) Try.func105 (by kernel_rfl) (by kernel_rfl) h

def V_s_neNear (Q : Sl → World → Prop) (n_0 : Sl) (n_1 : Sl) (n_2 : Sl) (v : Int) (w : World) : Prop :=
  NEW T.t_i_Network #[n_0.v, n_1.v, n_2.v] w fun (p_n : Addr) w1 =>
  LD [.sl] (p_n.add 0) w1 fun (x9 : Sl) =>
  IX x9 v 1 fun (px11 : Addr) =>
  LD [.sl] px11 w1 fun (x12 : Sl) =>
  ∃ (I3 : Sl → Int → World → Prop) (m3 : Sl → Int → World → Nat), I3 (⟨none, 0, 0⟩) 0 w1 ∧ ∀ (out : Sl) (x14 : Int) w2, I3 out x14 w2 → ∀ _ _ _ _ _ _ _ _ _ _ : Value,
  cond (decide ((x14 : Int) < x12.len)) (
  IX x12 x14 2 fun (px16 : Addr) =>
  LD [.int .i64, .int .i64] px16 w2 fun (x17_0 : Int) (x17_1 : Int) =>
  NEW T.t_i_End #[.int .i64 0, .int .i64 0] w2 fun (p_e : Addr) w3 =>
  ST p_e 0 [.int .i64 x17_0, .int .i64 x17_1] w3 fun w4 =>
  LD [.int .i64] (p_e.add 0) w4 fun (x20 : Int) =>
  RUN Try.prog (.at .sl) (Instr.buildSlice T.t_sl_int 1 #[(0, .int .i64 x20)]) w4 fun (x21 : Sl) w5 =>
  RUN Try.prog (.at .sl) (bsem .append #[T.t_sl_int, T.t_sl_int] T.t_sl_int #[out.v, x21.v]) w5 fun (x22 : Sl) w6 =>
  I3 x22 (IntKind.i64.wrap (x14 + 1)) w6 ∧ m3 x22 (IntKind.i64.wrap (x14 + 1)) w6 < m3 out x14 w2) (
  Q out w2)

theorem C_s_neNear {Q : Sl → World → Prop} {n_0 : Sl} {n_1 : Sl} {n_2 : Sl} {v : Int} {w : World} (h : V_s_neNear Q n_0 n_1 n_2 v w) : Calls Try.prog F.s_neNear #[.agg #[n_0.v, n_1.v, n_2.v], .int .i64 v] w (Ret [.at .sl] Q) :=
  mkC (hint := hint) (ann := annOf [(3, ⟨[(5, .sl), (14, .int .i64)], [7, 15, 16, 17, 18, 19, 20, 21, 22, 23]⟩)]) (args := [.agg #[n_0.v, n_1.v, n_2.v], .int .i64 v]) (rs := [.at .sl]) Try.func106 (by kernel_rfl) (by kernel_rfl) h

def V_i_near (Q : Sl → World → Prop) (n_0 : Sl) (n_1 : Sl) (n_2 : Sl) (v : Int) (numbers : Sl) (w : World) : Prop :=
  NEW T.t_i_Network #[n_0.v, n_1.v, n_2.v] w fun (p_n : Addr) w1 =>
  LD [.sl] (p_n.add 0) w1 fun (x11 : Sl) =>
  IX x11 v 1 fun (px13 : Addr) =>
  LD [.sl] px13 w1 fun (x14 : Sl) =>
  ∃ (I3 : Sl → Int → World → Prop) (m3 : Sl → Int → World → Nat), I3 (⟨none, 0, 0⟩) 0 w1 ∧ ∀ (out : Sl) (x16 : Int) w2, I3 out x16 w2 → ∀ _ _ _ _ _ _ _ _ _ _ _ _ _ : Value,
  cond (decide ((x16 : Int) < x14.len)) (
  IX x14 x16 2 fun (px18 : Addr) =>
  LD [.int .i64, .int .i64] px18 w2 fun (x19_0 : Int) (x19_1 : Int) =>
  NEW T.t_i_End #[.int .i64 0, .int .i64 0] w2 fun (p_e : Addr) w3 =>
  ST p_e 0 [.int .i64 x19_0, .int .i64 x19_1] w3 fun w4 =>
  LD [.int .i64] (p_e.add 0) w4 fun (x23 : Int) =>
  IX numbers x23 1 fun (px24 : Addr) =>
  LD [.int .i64] px24 w4 fun (x25 : Int) =>
  RUN Try.prog (.at .sl) (Instr.buildSlice T.t_sl_int 1 #[(0, .int .i64 x25)]) w4 fun (x26 : Sl) w5 =>
  RUN Try.prog (.at .sl) (bsem .append #[T.t_sl_int, T.t_sl_int] T.t_sl_int #[out.v, x26.v]) w5 fun (x27 : Sl) w6 =>
  I3 x27 (IntKind.i64.wrap (x16 + 1)) w6 ∧ m3 x27 (IntKind.i64.wrap (x16 + 1)) w6 < m3 out x16 w2) (
  Q out w2)

theorem C_i_near {Q : Sl → World → Prop} {n_0 : Sl} {n_1 : Sl} {n_2 : Sl} {v : Int} {numbers : Sl} {w : World} (h : V_i_near Q n_0 n_1 n_2 v numbers w) : Calls Try.prog F.i_near #[.agg #[n_0.v, n_1.v, n_2.v], .int .i64 v, numbers.v] w (Ret [.at .sl] Q) :=
  mkC (hint := hint) (ann := annOf [(3, ⟨[(7, .sl), (16, .int .i64)], [9, 17, 18, 19, 20, 21, 22, 23, 24, 25, 26, 27, 28]⟩)]) (args := [.agg #[n_0.v, n_1.v, n_2.v], .int .i64 v, numbers.v]) (rs := [.at .sl]) Try.func107 (by kernel_rfl) (by kernel_rfl) h

def V_s_l1Rising (Q : Bool → World → Prop) (l : Sl) (lo : Int) (hi : Int) (w : World) : Prop :=
  ∃ (I2 : Int → World → Prop) (m2 : Int → World → Nat), I2 0 w ∧ ∀ (x11 : Int) w1, I2 x11 w1 → ∀ _ _ _ _ _ _ _ _ _ _ _ _ _ _ _ _ _ _ _ _ _ _ _ _ _ _ : Value,
  cond (decide ((x11 : Int) < l.len)) (
  IX l x11 1 fun (px14 : Addr) =>
  LD [.int .i64] px14 w1 fun (x15 : Int) =>
  Calls Try.prog F.s_l1In #[.int .i64 x15, .int .i64 lo, .int .i64 hi] w1 (Ret [.at .bool] fun (x19 : Bool) w2 =>
  cond (!x19) (
  Q false w2) (
  cond (decide ((x11 : Int) > 0)) (
  IX l (IntKind.i64.wrap (x11 - 1)) 1 fun (px28 : Addr) =>
  LD [.int .i64] px28 w2 fun (x29 : Int) =>
  cond (decide ((x29 : Int) ≥ x15)) (
  Q false w2) (
  I2 (IntKind.i64.wrap (x11 + 1)) w2 ∧ m2 (IntKind.i64.wrap (x11 + 1)) w2 < m2 x11 w1)) (
  I2 (IntKind.i64.wrap (x11 + 1)) w2 ∧ m2 (IntKind.i64.wrap (x11 + 1)) w2 < m2 x11 w1)))) (
  Q true w1)

theorem C_s_l1Rising {Q : Bool → World → Prop} {l : Sl} {lo : Int} {hi : Int} {w : World} (h : V_s_l1Rising Q l lo hi w) : Calls Try.prog F.s_l1Rising #[l.v, .int .i64 lo, .int .i64 hi] w (Ret [.at .bool] Q) :=
  mkC (hint := hint) (ann := annOf [(2, ⟨[(11, .int .i64)], [6, 7, 8, 12, 13, 14, 15, 16, 17, 18, 19, 20, 21, 22, 23, 24, 25, 26, 27, 28, 29, 30, 31, 32, 33, 34]⟩)]) (args := [l.v, .int .i64 lo, .int .i64 hi]) (rs := [.at .bool]) Try.func108 (by kernel_rfl) (by kernel_rfl) h

def V_i_increasing (Q : Bool → World → Prop) (list : Sl) (low : Int) (high : Int) (w : World) : Prop :=
  ∃ (I2 : Int → World → Prop) (m2 : Int → World → Nat), I2 0 w ∧ ∀ (x11 : Int) w1, I2 x11 w1 → ∀ _ _ _ _ _ _ _ _ _ _ _ _ _ _ _ _ _ _ _ _ _ _ _ _ _ _ : Value,
  cond (decide ((x11 : Int) < list.len)) (
  IX list x11 1 fun (px14 : Addr) =>
  LD [.int .i64] px14 w1 fun (x15 : Int) =>
  Calls Try.prog F.i_within #[.int .i64 x15, .int .i64 low, .int .i64 high] w1 (Ret [.at .bool] fun (x19 : Bool) w2 =>
  cond (!x19) (
  Q false w2) (
  cond (decide ((x11 : Int) > 0)) (
  IX list (IntKind.i64.wrap (x11 - 1)) 1 fun (px28 : Addr) =>
  LD [.int .i64] px28 w2 fun (x29 : Int) =>
  cond (decide ((x29 : Int) ≥ x15)) (
  Q false w2) (
  I2 (IntKind.i64.wrap (x11 + 1)) w2 ∧ m2 (IntKind.i64.wrap (x11 + 1)) w2 < m2 x11 w1)) (
  I2 (IntKind.i64.wrap (x11 + 1)) w2 ∧ m2 (IntKind.i64.wrap (x11 + 1)) w2 < m2 x11 w1)))) (
  Q true w1)

theorem C_i_increasing {Q : Bool → World → Prop} {list : Sl} {low : Int} {high : Int} {w : World} (h : V_i_increasing Q list low high w) : Calls Try.prog F.i_increasing #[list.v, .int .i64 low, .int .i64 high] w (Ret [.at .bool] Q) :=
  mkC (hint := hint) (ann := annOf [(2, ⟨[(11, .int .i64)], [6, 7, 8, 12, 13, 14, 15, 16, 17, 18, 19, 20, 21, 22, 23, 24, 25, 26, 27, 28, 29, 30, 31, 32, 33, 34]⟩)]) (args := [list.v, .int .i64 low, .int .i64 high]) (rs := [.at .bool]) Try.func109 (by kernel_rfl) (by kernel_rfl) h

def V_i_isIndependent_1 (Q : Bool → World → Prop) (e_0 : Int) (e_1 : Int) (e_2 : Int) (e_3 : Int) (cap0 : Addr) (w : World) : Prop :=
  NEW T.t_i_edge #[.int .i64 e_0, .int .i64 e_1, .int .i64 e_2, .int .i64 e_3] w fun (p_e : Addr) w1 =>
  LD [.sl] cap0 w1 fun (x4 : Sl) =>
  LD [.int .i64] (p_e.add 0) w1 fun (x6 : Int) =>
  Calls Try.prog F.slices_Contains_sl_int_int #[x4.v, .int .i64 x6] w1 (Ret [.at .bool] fun (x7 : Bool) w2 =>
  cond x7 (
  LD [.sl] cap0 w2 fun (x9 : Sl) =>
  LD [.int .i64] (p_e.add 2) w2 fun (x11 : Int) =>
  Calls Try.prog F.slices_Contains_sl_int_int #[x9.v, .int .i64 x11] w2 (Ret [.at .bool] fun (x12 : Bool) w3 =>
  Q x12 w3)) (
  Q false w2))

theorem C_i_isIndependent_1 {Q : Bool → World → Prop} {e_0 : Int} {e_1 : Int} {e_2 : Int} {e_3 : Int} {cap0 : Addr} {w : World} (h : V_i_isIndependent_1 Q e_0 e_1 e_2 e_3 cap0 w) : Calls Try.prog F.i_isIndependent_1 #[.agg #[.int .i64 e_0, .int .i64 e_1, .int .i64 e_2, .int .i64 e_3], .pointer (some cap0)] w (Ret [.at .bool] Q) :=
  mkC (hint := hint) (ann := annOf []) (args := [.agg #[.int .i64 e_0, .int .i64 e_1, .int .i64 e_2, .int .i64 e_3], .pointer (some cap0)]) (rs := [.at .bool]) Try.func110 (by kernel_rfl) (by kernel_rfl) h

def V_s_neEdges (Q : Sl → World → Prop) (n_0 : Sl) (n_1 : Sl) (n_2 : Sl) (w : World) : Prop :=
  NEW T.t_i_Network #[n_0.v, n_1.v, n_2.v] w fun (p_n : Addr) w1 =>
  LD [.sl] (p_n.add 0) w1 fun (x9 : Sl) =>
  ∃ (I3 : Sl → Int → World → Prop) (m3 : Sl → Int → World → Nat), I3 (⟨none, 0, 0⟩) 0 w1 ∧ ∀ (out : Sl) (x11 : Int) w2, I3 out x11 w2 → ∀ _ _ _ _ _ _ _ _ _ _ _ _ _ _ _ _ _ _ _ _ _ _ _ _ _ _ _ _ _ _ _ : Value,
  cond (decide ((x11 : Int) < x9.len)) (
  IX x9 x11 1 fun (px14 : Addr) =>
  LD [.sl] px14 w2 fun (x15 : Sl) =>
  ∃ (I6 : Sl → Int → World → Prop) (m6 : Sl → Int → World → Nat), I6 out 0 w2 ∧ ∀ (out_2 : Sl) (x18 : Int) w3, I6 out_2 x18 w3 → ∀ _ _ _ _ _ _ _ _ _ _ _ _ _ _ _ _ _ _ _ _ _ : Value,
  cond (decide ((x18 : Int) < x15.len)) (
  IX x15 x18 2 fun (px21 : Addr) =>
  LD [.int .i64, .int .i64] px21 w3 fun (x22_0 : Int) (x22_1 : Int) =>
  NEW T.t_i_End #[.int .i64 0, .int .i64 0] w3 fun (p_e : Addr) w4 =>
  ST p_e 0 [.int .i64 x22_0, .int .i64 x22_1] w4 fun w5 =>
  LD [.sl, .sl, .sl] p_n w5 fun (x23_0 : Sl) (x23_1 : Sl) (x23_2 : Sl) =>
  Calls Try.prog F.s_neFirst #[.agg #[x23_0.v, x23_1.v, x23_2.v], .int .i64 x11, .int .i64 x18] w5 (Ret [.at .bool] fun (x26 : Bool) w6 =>
  cond x26 (
  LD [.int .i64] (p_e.add 0) w6 fun (x31 : Int) =>
  LD [.int .i64] (p_e.add 1) w6 fun (x33 : Int) =>
  RUN Try.prog (.at .sl) (Instr.buildSlice T.t_sl_int 4 #[(0, .int .i64 x11), (1, .int .i64 x18), (2, .int .i64 x31), (3, .int .i64 x33)]) w6 fun (x34 : Sl) w7 =>
  RUN Try.prog (.at .sl) (Instr.buildSlice T.t_sl_sl_int 1 #[(0, x34.v)]) w7 fun (x35 : Sl) w8 =>
  RUN Try.prog (.at .sl) (bsem .append #[T.t_sl_sl_int, T.t_sl_sl_int] T.t_sl_sl_int #[out_2.v, x35.v]) w8 fun (x36 : Sl) w9 =>
  I6 x36 (IntKind.i64.wrap (x18 + 1)) w9 ∧ m6 x36 (IntKind.i64.wrap (x18 + 1)) w9 < m6 out_2 x18 w3) (
  I6 out_2 (IntKind.i64.wrap (x18 + 1)) w6 ∧ m6 out_2 (IntKind.i64.wrap (x18 + 1)) w6 < m6 out_2 x18 w3))) (
  I3 out_2 (IntKind.i64.wrap (x11 + 1)) w3 ∧ m3 out_2 (IntKind.i64.wrap (x11 + 1)) w3 < m3 out x11 w2)) (
  Q out w2)

theorem C_s_neEdges {Q : Sl → World → Prop} {n_0 : Sl} {n_1 : Sl} {n_2 : Sl} {w : World} (h : V_s_neEdges Q n_0 n_1 n_2 w) : Calls Try.prog F.s_neEdges #[.agg #[n_0.v, n_1.v, n_2.v]] w (Ret [.at .sl] Q) :=
  mkC (hint := hint) (ann := annOf [(3, ⟨[(3, .sl), (11, .int .i64)], [4, 5, 6, 7, 12, 13, 14, 15, 16, 17, 18, 19, 20, 21, 22, 23, 24, 25, 26, 27, 28, 29, 30, 31, 32, 33, 34, 35, 36, 37, 38]⟩), (6, ⟨[(3, .sl), (18, .int .i64)], [6, 7, 19, 20, 21, 22, 23, 24, 25, 26, 27, 28, 29, 30, 31, 32, 33, 34, 35, 36, 37]⟩)]) (args := [.agg #[n_0.v, n_1.v, n_2.v]]) (rs := [.at .sl]) Try.func111 (by kernel_rfl) (by kernel_rfl) h

def V_i_isCover_1 (Q : Bool → World → Prop) (e_0 : Int) (e_1 : Int) (e_2 : Int) (e_3 : Int) (cap0 : Addr) (w : World) : Prop :=
  NEW T.t_i_edge #[.int .i64 e_0, .int .i64 e_1, .int .i64 e_2, .int .i64 e_3] w fun (p_e : Addr) w1 =>
  LD [.sl] cap0 w1 fun (x4 : Sl) =>
  LD [.int .i64] (p_e.add 0) w1 fun (x6 : Int) =>
  Calls Try.prog F.slices_Contains_sl_int_int #[x4.v, .int .i64 x6] w1 (Ret [.at .bool] fun (x7 : Bool) w2 =>
  cond (!x7) (
  LD [.sl] cap0 w2 fun (x10 : Sl) =>
  LD [.int .i64] (p_e.add 2) w2 fun (x12 : Int) =>
  Calls Try.prog F.slices_Contains_sl_int_int #[x10.v, .int .i64 x12] w2 (Ret [.at .bool] fun (x13 : Bool) w3 =>
  Q (!x13) w3)) (
  Q false w2))

theorem C_i_isCover_1 {Q : Bool → World → Prop} {e_0 : Int} {e_1 : Int} {e_2 : Int} {e_3 : Int} {cap0 : Addr} {w : World} (h : V_i_isCover_1 Q e_0 e_1 e_2 e_3 cap0 w) : Calls Try.prog F.i_isCover_1 #[.agg #[.int .i64 e_0, .int .i64 e_1, .int .i64 e_2, .int .i64 e_3], .pointer (some cap0)] w (Ret [.at .bool] Q) :=
  mkC (hint := hint) (ann := annOf []) (args := [.agg #[.int .i64 e_0, .int .i64 e_1, .int .i64 e_2, .int .i64 e_3], .pointer (some cap0)]) (rs := [.at .bool]) Try.func112 (by kernel_rfl) (by kernel_rfl) h

def V_slices_IndexFunc_sl_i_edge_i_edge (Q : Int → World → Prop) (s : Sl) (f : Value) (w : World) : Prop :=
  ∃ (I2 : Int → World → Prop) (m2 : Int → World → Nat), I2 0 w ∧ ∀ (x8 : Int) w1, I2 x8 w1 → ∀ _ _ _ _ _ _ _ _ _ _ _ _ : Value,
  cond (decide ((x8 : Int) < s.len)) (
  IX s x8 4 fun (px14 : Addr) =>
  LD [.int .i64, .int .i64, .int .i64, .int .i64] px14 w1 fun (x15_0 : Int) (x15_1 : Int) (x15_2 : Int) (x15_3 : Int) =>
  CALLV Try.prog f #[.agg #[.int .i64 x15_0, .int .i64 x15_1, .int .i64 x15_2, .int .i64 x15_3]] w1 (Ret [.at .bool] fun (x16 : Bool) w2 =>
  cond x16 (
  Q x8 w2) (
  I2 (IntKind.i64.wrap (x8 + 1)) w2 ∧ m2 (IntKind.i64.wrap (x8 + 1)) w2 < m2 x8 w1))) (
  Q (-1) w1)

theorem C_slices_IndexFunc_sl_i_edge_i_edge {Q : Int → World → Prop} {s : Sl} {f : Value} {w : World} (h : V_slices_IndexFunc_sl_i_edge_i_edge Q s f w) : Calls Try.prog F.slices_IndexFunc_sl_i_edge_i_edge #[s.v, f] w (Ret [.at (.int .i64)] Q) :=
  mkC (hint := hint) (ann := annOf [(2, ⟨[(8, .int .i64)], [4, 5, 9, 10, 11, 12, 13, 14, 15, 16, 17, 18]⟩)]) (args := [s.v, f]) (rs := [.at (.int .i64)]) Try.func113 (by kernel_rfl) (by kernel_rfl) h

def V_slices_Index_sl_int_int (Q : Int → World → Prop) (s : Sl) (v : Int) (w : World) : Prop :=
  ∃ (I2 : Int → World → Prop) (m2 : Int → World → Nat), I2 0 w ∧ ∀ (x8 : Int) w1, I2 x8 w1 → ∀ _ _ _ _ _ _ _ _ _ _ _ _ : Value,
  cond (decide ((x8 : Int) < s.len)) (
  IX s x8 1 fun (px14 : Addr) =>
  LD [.int .i64] px14 w1 fun (x15 : Int) =>
  cond ((v : Int) == x15) (
  Q x8 w1) (
  I2 (IntKind.i64.wrap (x8 + 1)) w1 ∧ m2 (IntKind.i64.wrap (x8 + 1)) w1 < m2 x8 w1)) (
  Q (-1) w1)

theorem C_slices_Index_sl_int_int {Q : Int → World → Prop} {s : Sl} {v : Int} {w : World} (h : V_slices_Index_sl_int_int Q s v w) : Calls Try.prog F.slices_Index_sl_int_int #[s.v, .int .i64 v] w (Ret [.at (.int .i64)] Q) :=
  mkC (hint := hint) (ann := annOf [(2, ⟨[(8, .int .i64)], [4, 5, 9, 10, 11, 12, 13, 14, 15, 16, 17, 18]⟩)]) (args := [s.v, .int .i64 v]) (rs := [.at (.int .i64)]) Try.func114 (by kernel_rfl) (by kernel_rfl) h

def V_slices_ContainsFunc_sl_i_End_i_End (Q : Bool → World → Prop) (s : Sl) (f : Value) (w : World) : Prop :=
  Calls Try.prog F.slices_IndexFunc_sl_i_End_i_End #[s.v, f] w (Ret [.at (.int .i64)] fun (x7 : Int) w1 =>
  Q (decide ((x7 : Int) ≥ 0)) w1)

theorem C_slices_ContainsFunc_sl_i_End_i_End {Q : Bool → World → Prop} {s : Sl} {f : Value} {w : World} (h : V_slices_ContainsFunc_sl_i_End_i_End Q s f w) : Calls Try.prog F.slices_ContainsFunc_sl_i_End_i_End #[s.v, f] w (Ret [.at .bool] Q) :=
  mkC (hint := hint) (ann := annOf []) (args := [s.v, f]) (rs := [.at .bool]) Try.func115 (by kernel_rfl) (by kernel_rfl) h

def V_i_areJoined_1 (Q : Bool → World → Prop) (e_0 : Int) (e_1 : Int) (cap0 : Addr) (w : World) : Prop :=
  NEW T.t_i_End #[.int .i64 e_0, .int .i64 e_1] w fun (p_e : Addr) w1 =>
  LD [.int .i64] (p_e.add 0) w1 fun (x5 : Int) =>
  LD [.int .i64] cap0 w1 fun (x6 : Int) =>
  Q ((x5 : Int) == x6) w1

theorem C_i_areJoined_1 {Q : Bool → World → Prop} {e_0 : Int} {e_1 : Int} {cap0 : Addr} {w : World} (h : V_i_areJoined_1 Q e_0 e_1 cap0 w) : Calls Try.prog F.i_areJoined_1 #[.agg #[.int .i64 e_0, .int .i64 e_1], .pointer (some cap0)] w (Ret [.at .bool] Q) :=
  mkC (hint := hint) (ann := annOf []) (args := [.agg #[.int .i64 e_0, .int .i64 e_1], .pointer (some cap0)]) (rs := [.at .bool]) Try.func116 (by kernel_rfl) (by kernel_rfl) h

def V_i_hasNear_1 (Q : Bool → World → Prop) (e_0 : Int) (e_1 : Int) (cap0 : Addr) (w : World) : Prop :=
  NEW T.t_i_End #[.int .i64 e_0, .int .i64 e_1] w fun (p_e : Addr) w1 =>
  LD [.sl] cap0 w1 fun (x4 : Sl) =>
  LD [.int .i64] (p_e.add 0) w1 fun (x6 : Int) =>
  Calls Try.prog F.slices_Contains_sl_int_int #[x4.v, .int .i64 x6] w1 (Ret [.at .bool] fun (x7 : Bool) w2 =>
  Q x7 w2)

theorem C_i_hasNear_1 {Q : Bool → World → Prop} {e_0 : Int} {e_1 : Int} {cap0 : Addr} {w : World} (h : V_i_hasNear_1 Q e_0 e_1 cap0 w) : Calls Try.prog F.i_hasNear_1 #[.agg #[.int .i64 e_0, .int .i64 e_1], .pointer (some cap0)] w (Ret [.at .bool] Q) :=
  mkC (hint := hint) (ann := annOf []) (args := [.agg #[.int .i64 e_0, .int .i64 e_1], .pointer (some cap0)]) (rs := [.at .bool]) Try.func117 (by kernel_rfl) (by kernel_rfl) h

def V_s_ruFar_k3 (I4 : Int → Int → World → Prop) (m4 : Int → Int → World → Nat) (out : Int) (x16 : Int) (w3 : World) (out_2 : Int) (w4 : World) : Prop :=
  I4 out_2 (IntKind.i64.wrap (x16 + 1)) w4 ∧ m4 out_2 (IntKind.i64.wrap (x16 + 1)) w4 < m4 out x16 w3

def V_s_ruFar (Q : Int → World → Prop) (n_0 : Sl) (n_1 : Sl) (n_2 : Sl) (set1 : Sl) (v : Int) (w : World) : Prop :=
  NEW T.t_i_Network #[n_0.v, n_1.v, n_2.v] w fun (p_n : Addr) w1 =>
  LD [.sl, .sl, .sl] p_n w1 fun (x11_0 : Sl) (x11_1 : Sl) (x11_2 : Sl) =>
  Calls Try.prog F.s_meFrom #[.agg #[x11_0.v, x11_1.v, x11_2.v], .int .i64 v] w1 (Ret [.at .sl] fun (x13 : Sl) w2 =>
  ∃ (I4 : Int → Int → World → Prop) (m4 : Int → Int → World → Nat), I4 (-1) 0 w2 ∧ ∀ (out : Int) (x16 : Int) w3, I4 out x16 w3 → ∀ _ _ _ _ _ _ _ _ _ _ _ _ _ _ _ _ _ _ _ _ _ _ _ _ _ _ : Value,
  cond (decide ((x16 : Int) < set1.len)) (
  IX set1 x16 1 fun (px18 : Addr) =>
  LD [.int .i64] px18 w3 fun (x19 : Int) =>
  IX x13 x19 1 fun (px22 : Addr) =>
  LD [.int .i64] px22 w3 fun (x23 : Int) =>
  cond (decide ((x23 : Int) ≥ 0)) (
  cond (decide ((out : Int) < 0)) (
  IX x13 x19 1 fun (px39 : Addr) =>
  LD [.int .i64] px39 w3 fun (x40 : Int) =>
  V_s_ruFar_k3 I4 m4 out x16 w3 x40 w3) (
  IX x13 x19 1 fun (px31 : Addr) =>
  LD [.int .i64] px31 w3 fun (x32 : Int) =>
  cond (decide ((x32 : Int) < out)) (
  IX x13 x19 1 fun (px39_2 : Addr) =>
  LD [.int .i64] px39_2 w3 fun (x40_2 : Int) =>
  V_s_ruFar_k3 I4 m4 out x16 w3 x40_2 w3) (
  V_s_ruFar_k3 I4 m4 out x16 w3 out w3))) (
  V_s_ruFar_k3 I4 m4 out x16 w3 out w3)) (
  Q out w3))

theorem C_s_ruFar {Q : Int → World → Prop} {n_0 : Sl} {n_1 : Sl} {n_2 : Sl} {set1 : Sl} {v : Int} {w : World} (h : V_s_ruFar Q n_0 n_1 n_2 set1 v w) : Calls Try.prog F.s_ruFar #[.agg #[n_0.v, n_1.v, n_2.v], set1.v, .int .i64 v] w (Ret [.at (.int .i64)] Q) :=
  mkC (hint := hint) (ann := annOf [(4, ⟨[(7, .int .i64), (16, .int .i64)], [10, 17, 18, 19, 20, 21, 22, 23, 24, 25, 26, 27, 28, 29, 30, 31, 32, 33, 34, 35, 36, 37, 38, 39, 40, 41]⟩)]) (args := [.agg #[n_0.v, n_1.v, n_2.v], set1.v, .int .i64 v]) (rs := [.at (.int .i64)]) Try.func118 (by kernel_rfl) (by kernel_rfl) h

def V_slices_ContainsFunc_sl_int_int (Q : Bool → World → Prop) (s : Sl) (f : Value) (w : World) : Prop :=
  Calls Try.prog F.slices_IndexFunc_sl_int_int #[s.v, f] w (Ret [.at (.int .i64)] fun (x7 : Int) w1 =>
  Q (decide ((x7 : Int) ≥ 0)) w1)

theorem C_slices_ContainsFunc_sl_int_int {Q : Bool → World → Prop} {s : Sl} {f : Value} {w : World} (h : V_slices_ContainsFunc_sl_int_int Q s f w) : Calls Try.prog F.slices_ContainsFunc_sl_int_int #[s.v, f] w (Ret [.at .bool] Q) :=
  mkC (hint := hint) (ann := annOf []) (args := [s.v, f]) (rs := [.at .bool]) Try.func119 (by kernel_rfl) (by kernel_rfl) h

def V_i_numbersTo (Q : Sl → World → Prop) (n : Int) (w : World) : Prop :=
  RUN Try.prog (.at .sl) (Instr.makeSlice T.t_sl_int (.int .i64 n) (.int .i64 n)) w fun (x6 : Sl) w1 =>
  ∃ (I3 : Int → World → Prop) (m3 : Int → World → Nat), I3 0 w1 ∧ ∀ (x9 : Int) w2, I3 x9 w2 → ∀ _ _ _ _ _ _ _ _ : Value,
  cond (decide ((x9 : Int) < x6.len)) (
  IX x6 x9 1 fun (px15 : Addr) =>
  ST px15 0 [.int .i64 x9] w2 fun w3 =>
  I3 (IntKind.i64.wrap (x9 + 1)) w3 ∧ m3 (IntKind.i64.wrap (x9 + 1)) w3 < m3 x9 w2) (
  Q x6 w2)

theorem C_i_numbersTo {Q : Sl → World → Prop} {n : Int} {w : World} (h : V_i_numbersTo Q n w) : Calls Try.prog F.i_numbersTo #[.int .i64 n] w (Ret [.at .sl] Q) :=
  mkC (hint := hint) (ann := annOf [(3, ⟨[(9, .int .i64)], [4, 10, 11, 12, 13, 14, 15, 16]⟩)]) (args := [.int .i64 n]) (rs := [.at .sl]) Try.func120 (by kernel_rfl) (by kernel_rfl) h

def V_i_isDominating_1 (Q : Bool → World → Prop) (v : Int) (cap0 : Addr) (cap1 : Addr) (w : World) : Prop :=
  LD [.sl] cap0 w fun (x5 : Sl) =>
  Calls Try.prog F.slices_Contains_sl_int_int #[x5.v, .int .i64 v] w (Ret [.at .bool] fun (x7 : Bool) w1 =>
  cond (!x7) (
  LD [.sl, .sl, .sl] cap1 w1 fun (x10_0 : Sl) (x10_1 : Sl) (x10_2 : Sl) =>
  LD [.sl] cap0 w1 fun (x12 : Sl) =>
  Calls Try.prog F.i_hasNear #[.agg #[x10_0.v, x10_1.v, x10_2.v], .int .i64 v, x12.v] w1 (Ret [.at .bool] fun (x13 : Bool) w2 =>
  Q (!x13) w2)) (
  Q false w1))

theorem C_i_isDominating_1 {Q : Bool → World → Prop} {v : Int} {cap0 : Addr} {cap1 : Addr} {w : World} (h : V_i_isDominating_1 Q v cap0 cap1 w) : Calls Try.prog F.i_isDominating_1 #[.int .i64 v, .pointer (some cap0), .pointer (some cap1)] w (Ret [.at .bool] Q) :=
  mkC (hint := hint) (ann := annOf []) (args := [.int .i64 v, .pointer (some cap0), .pointer (some cap1)]) (rs := [.at .bool]) Try.func121 (by kernel_rfl) (by kernel_rfl) h

def V_s_nuPrime (Q : Bool → World → Prop) (n : Int) (w : World) : Prop :=
  ∃ (I2 : Int → World → Prop) (m2 : Int → World → Nat), I2 2 w ∧ ∀ (d : Int) w1, I2 d w1 → ∀ _ _ _ _ _ _ _ _ _ _ _ _ : Value,
  cond (decide (((IntKind.i64.wrap (d * d)) : Int) ≤ n)) (
  (d : Int) ≠ 0 ∧ (
  cond (((Int.tmod n d) : Int) == 0) (
  Q false w1) (
  I2 (IntKind.i64.wrap (d + 1)) w1 ∧ m2 (IntKind.i64.wrap (d + 1)) w1 < m2 d w1))) (
  Q (decide ((n : Int) > 1)) w1)

theorem C_s_nuPrime {Q : Bool → World → Prop} {n : Int} {w : World} (h : V_s_nuPrime Q n w) : Calls Try.prog F.s_nuPrime #[.int .i64 n] w (Ret [.at .bool] Q) :=
  mkC (hint := hint) (ann := annOf [(2, ⟨[(3, .int .i64)], [2, 4, 5, 6, 7, 8, 9, 10, 11, 12, 13, 14]⟩)]) (args := [.int .i64 n]) (rs := [.at .bool]) Try.func122 (by kernel_rfl) (by kernel_rfl) h

def V_l_toEnd (Q : Int → Int → World → Prop) (a_0 : Int) (a_1 : Int) (w : World) : Prop :=
  NEW T.t_l_End #[.int .i64 a_0, .int .i64 a_1] w fun (p_a : Addr) w1 =>
  NEW T.t_i_End #[.int .i64 0, .int .i64 0] w1 fun (px2 : Addr) w2 =>
  NEW T.t_i_End #[.int .i64 0, .int .i64 0] w2 fun (p_out : Addr) w3 =>
  LD [.int .i64] (p_a.add 0) w3 fun (x5 : Int) =>
  ST (p_out.add 0) 0 [.int .i64 x5] w3 fun w4 =>
  LD [.int .i64] (p_a.add 1) w4 fun (x8 : Int) =>
  ST (p_out.add 1) 0 [.int .i64 x8] w4 fun w5 =>
  LD [.int .i64, .int .i64] p_out w5 fun (x10_0 : Int) (x10_1 : Int) =>
  ST px2 0 [.int .i64 x10_0, .int .i64 x10_1] w5 fun w6 =>
  LD [.int .i64, .int .i64] px2 w6 fun (r0_0 : Int) (r0_1 : Int) =>
  Q r0_0 r0_1 w6

theorem C_l_toEnd {Q : Int → Int → World → Prop} {a_0 : Int} {a_1 : Int} {w : World} (h : V_l_toEnd Q a_0 a_1 w) : Calls Try.prog F.l_toEnd #[.agg #[.int .i64 a_0, .int .i64 a_1]] w (Ret [.agg [.int .i64, .int .i64]] Q) :=
  mkC (hint := hint) (ann := annOf []) (args := [.agg #[.int .i64 a_0, .int .i64 a_1]]) (rs := [.agg [.int .i64, .int .i64]]) Try.func126 (by kernel_rfl) (by kernel_rfl) h

def V_slices_Clone_sl_int_int (Q : Sl → World → Prop) (s : Sl) (w : World) : Prop :=
  cond s.a.isNone (
  Q (⟨none, 0, 0⟩) w) (
  RUN Try.prog (.at .sl) (Instr.buildSlice T.t_sl_int 0 #[]) w fun (x5 : Sl) w1 =>
  RUN Try.prog (.at .sl) (bsem .append #[T.t_sl_int, T.t_sl_int] T.t_sl_int #[x5.v, s.v]) w1 fun (x7 : Sl) w2 =>
  Q x7 w2)

theorem C_slices_Clone_sl_int_int {Q : Sl → World → Prop} {s : Sl} {w : World} (h : V_slices_Clone_sl_int_int Q s w) : Calls Try.prog F.slices_Clone_sl_int_int #[s.v] w (Ret [.at .sl] Q) :=
  mkC (hint := hint) (ann := annOf []) (args := [s.v]) (rs := [.at .sl]) Try.func127 (by kernel_rfl) (by kernel_rfl) h

def V_i_Network_hasNode (Q : Bool → World → Prop) (n_0 : Sl) (n_1 : Sl) (n_2 : Sl) (v : Int) (w : World) : Prop :=
  NEW T.t_i_Network #[n_0.v, n_1.v, n_2.v] w fun (p_n : Addr) w1 =>
  LD [.sl] (p_n.add 0) w1 fun (x7 : Sl) =>
  Calls Try.prog F.i_within #[.int .i64 v, .int .i64 0, .int .i64 (IntKind.i64.wrap (x7.len - 1))] w1 (Ret [.at .bool] fun (x10 : Bool) w2 =>
  Q x10 w2)

theorem C_i_Network_hasNode {Q : Bool → World → Prop} {n_0 : Sl} {n_1 : Sl} {n_2 : Sl} {v : Int} {w : World} (h : V_i_Network_hasNode Q n_0 n_1 n_2 v w) : Calls Try.prog F.i_Network_hasNode #[.agg #[n_0.v, n_1.v, n_2.v], .int .i64 v] w (Ret [.at .bool] Q) :=
  mkC (hint := hint) (ann := annOf []) (args := [.agg #[n_0.v, n_1.v, n_2.v], .int .i64 v]) (rs := [.at .bool]) Try.func128 (by kernel_rfl) (by kernel_rfl) h

def V_l_eqEnd (Q : Bool → World → Prop) (a_0 : Int) (a_1 : Int) (b_0 : Int) (b_1 : Int) (w : World) : Prop :=
  NEW T.t_i_End #[.int .i64 a_0, .int .i64 a_1] w fun (p_a : Addr) w1 =>
  NEW T.t_i_End #[.int .i64 b_0, .int .i64 b_1] w1 fun (p_b : Addr) w2 =>
  LD [.int .i64] (p_a.add 0) w2 fun (x6 : Int) =>
  LD [.int .i64] (p_b.add 0) w2 fun (x8 : Int) =>
  cond ((x6 : Int) != x8) (
  Q false w2) (
  LD [.int .i64] (p_a.add 1) w2 fun (x11 : Int) =>
  LD [.int .i64] (p_b.add 1) w2 fun (x13 : Int) =>
  cond ((x11 : Int) != x13) (
  Q false w2) (
  Q true w2))

theorem C_l_eqEnd {Q : Bool → World → Prop} {a_0 : Int} {a_1 : Int} {b_0 : Int} {b_1 : Int} {w : World} (h : V_l_eqEnd Q a_0 a_1 b_0 b_1 w) : Calls Try.prog F.l_eqEnd #[.agg #[.int .i64 a_0, .int .i64 a_1], .agg #[.int .i64 b_0, .int .i64 b_1]] w (Ret [.at .bool] Q) :=
  mkC (hint := hint) (ann := annOf []) (args := [.agg #[.int .i64 a_0, .int .i64 a_1], .agg #[.int .i64 b_0, .int .i64 b_1]]) (rs := [.at .bool]) Try.func129 (by kernel_rfl) (by kernel_rfl) h

def V_i_allWithin_1 (Q : Bool → World → Prop) (n : Int) (cap0 : Addr) (cap1 : Addr) (w : World) : Prop :=
  LD [.int .i64] cap0 w fun (x6 : Int) =>
  LD [.int .i64] cap1 w fun (x7 : Int) =>
  Calls Try.prog F.i_within #[.int .i64 n, .int .i64 x6, .int .i64 x7] w (Ret [.at .bool] fun (x8 : Bool) w1 =>
  Q (!x8) w1)

theorem C_i_allWithin_1 {Q : Bool → World → Prop} {n : Int} {cap0 : Addr} {cap1 : Addr} {w : World} (h : V_i_allWithin_1 Q n cap0 cap1 w) : Calls Try.prog F.i_allWithin_1 #[.int .i64 n, .pointer (some cap0), .pointer (some cap1)] w (Ret [.at .bool] Q) :=
  mkC (hint := hint) (ann := annOf []) (args := [.int .i64 n, .pointer (some cap0), .pointer (some cap1)]) (rs := [.at .bool]) Try.func130 (by kernel_rfl) (by kernel_rfl) h

def V_s_neFirst (Q : Bool → World → Prop) (n_0 : Sl) (n_1 : Sl) (n_2 : Sl) (v : Int) (i : Int) (w : World) : Prop :=
  NEW T.t_i_Network #[n_0.v, n_1.v, n_2.v] w fun (p_n : Addr) w1 =>
  LD [.sl] (p_n.add 0) w1 fun (x9 : Sl) =>
  IX x9 v 1 fun (px11 : Addr) =>
  LD [.sl] px11 w1 fun (x12 : Sl) =>
  IX x12 i 2 fun (px14 : Addr) =>
  LD [.int .i64, .int .i64] px14 w1 fun (x15_0 : Int) (x15_1 : Int) =>
  NEW T.t_i_End #[.int .i64 0, .int .i64 0] w1 fun (p_e : Addr) w2 =>
  ST p_e 0 [.int .i64 x15_0, .int .i64 x15_1] w2 fun w3 =>
  LD [.int .i64] (p_e.add 0) w3 fun (x18 : Int) =>
  cond (decide ((v : Int) < x18)) (
  Q true w3) (
  LD [.int .i64] (p_e.add 0) w3 fun (x23 : Int) =>
  cond ((v : Int) == x23) (
  LD [.int .i64] (p_e.add 1) w3 fun (x28 : Int) =>
  Q (decide ((i : Int) ≤ x28)) w3) (
  Q false w3))

theorem C_s_neFirst {Q : Bool → World → Prop} {n_0 : Sl} {n_1 : Sl} {n_2 : Sl} {v : Int} {i : Int} {w : World} (h : V_s_neFirst Q n_0 n_1 n_2 v i w) : Calls Try.prog F.s_neFirst #[.agg #[n_0.v, n_1.v, n_2.v], .int .i64 v, .int .i64 i] w (Ret [.at .bool] Q) :=
  mkC (hint := hint) (ann := annOf []) (args := [.agg #[n_0.v, n_1.v, n_2.v], .int .i64 v, .int .i64 i]) (rs := [.at .bool]) Try.func131 (by kernel_rfl) (by kernel_rfl) h

end Go.Proofs.Ytghibjghjjnchaa
