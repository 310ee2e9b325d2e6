/- What each function's code computes to. Printed by a program. -/
import Derived.Test.YtoeaoinedidbiaaNames
namespace Go.Proofs.Ytoeaoinedidbiaa
open Go.GX Go.RowKit
set_option linter.unusedVariables false
set_option maxRecDepth 100000

def V_s_mtApart (Q : Bool → World → Prop) (n_0 : Sl) (n_1 : Sl) (n_2 : Sl) (v : Int) (set1 : Sl) (w : World) : Prop :=
  NEW T.t_i_Network #[n_0.v, n_1.v, n_2.v] w fun (p_n : Addr) w1 =>
  LD [.sl, .sl, .sl] p_n w1 fun (x9_0 : Sl) (x9_1 : Sl) (x9_2 : Sl) =>
  Calls Try.prog F.s_neNear #[.agg #[x9_0.v, x9_1.v, x9_2.v], .int .i64 v] w1 (Ret [.at .sl] fun (x11 : Sl) w2 =>
  ∃ (I2 : Int → World → Prop) (m2 : Int → World → Nat), I2 0 w2 ∧ ∀ (x13 : Int) w3, I2 x13 w3 → ∀ _ _ _ _ _ _ _ _ _ : Value,
  cond (decide ((x13 : Int) < x11.len)) (
  IX x11 x13 1 fun (px15 : Addr) =>
  LD [.int .i64] px15 w3 fun (x16 : Int) =>
  Calls Try.prog F.s_l1Has #[set1.v, .int .i64 x16] w3 (Ret [.at .bool] fun (x19 : Bool) w4 =>
  cond x19 (
  Q false w4) (
  I2 (IntKind.i64.wrap (x13 + 1)) w4 ∧ m2 (IntKind.i64.wrap (x13 + 1)) w4 < m2 x13 w3))) (
  Q true w3))

theorem C_s_mtApart {Q : Bool → World → Prop} {n_0 : Sl} {n_1 : Sl} {n_2 : Sl} {v : Int} {set1 : Sl} {w : World} (h : V_s_mtApart Q n_0 n_1 n_2 v set1 w) : Calls Try.prog F.s_mtApart #[.agg #[n_0.v, n_1.v, n_2.v], .int .i64 v, set1.v] w (Ret [.at .bool] Q) :=
  mkC (hint := hint) (ann := annOf [(2, ⟨[(13, .int .i64)], [6, 8, 14, 15, 16, 17, 18, 19, 20]⟩)]) (args := [.agg #[n_0.v, n_1.v, n_2.v], .int .i64 v, set1.v]) (rs := [.at .bool]) Try.func102 (by kernel_rfl) (by kernel_rfl) h

def V_s_l1Put_k4 (l : Sl) (n : Int) (Q : Sl → World → Prop) (k : Int) (w3 : World) : Prop :=
  RUN Try.prog (.at .sl) (Instr.buildSlice T.t_sl_int 0 #[]) w3 fun (x34 : Sl) w4 =>
  SLC l none (some k) 1 fun (x37 : Sl) =>
  RUN Try.prog (.at .sl) (bsem .append #[T.t_sl_int, T.t_sl_int] T.t_sl_int #[x34.v, x37.v]) w4 fun (x38 : Sl) w5 =>
  RUN Try.prog (.at .sl) (Instr.buildSlice T.t_sl_int 1 #[(0, .int .i64 n)]) w5 fun (x41 : Sl) w6 =>
  RUN Try.prog (.at .sl) (bsem .append #[T.t_sl_int, T.t_sl_int] T.t_sl_int #[x38.v, x41.v]) w6 fun (x42 : Sl) w7 =>
  SLC l (some k) none 1 fun (x46 : Sl) =>
  RUN Try.prog (.at .sl) (bsem .append #[T.t_sl_int, T.t_sl_int] T.t_sl_int #[x42.v, x46.v]) w7 fun (x47 : Sl) w8 =>
  Q x47 w8

def V_s_l1Put_k1 (l : Sl) (n : Int) (Q : Sl → World → Prop) (k : Int) (w2 : World) : Prop :=
  cond (decide ((k : Int) < l.len)) (
  IX l k 1 fun (px28 : Addr) =>
  LD [.int .i64] px28 w2 fun (x29 : Int) =>
  cond ((x29 : Int) == n) (
  Q l w2) (
  V_s_l1Put_k4 l n Q k w2)) (
  V_s_l1Put_k4 l n Q k w2)

def V_s_l1Put (Q : Sl → World → Prop) (l : Sl) (n : Int) (w : World) : Prop :=
  ∃ (I2 : Int → World → Prop) (m2 : Int → World → Nat), I2 0 w ∧ ∀ (k : Int) w1, I2 k w1 → ∀ _ _ _ _ _ _ _ _ _ _ _ _ _ _ : Value,
  cond (decide ((k : Int) < l.len)) (
  IX l k 1 fun (px14 : Addr) =>
  LD [.int .i64] px14 w1 fun (x15 : Int) =>
  cond (decide ((x15 : Int) < n)) (
  I2 (IntKind.i64.wrap (k + 1)) w1 ∧ m2 (IntKind.i64.wrap (k + 1)) w1 < m2 k w1) (
  V_s_l1Put_k1 l n Q k w1)) (
  V_s_l1Put_k1 l n Q k w1)

theorem C_s_l1Put {Q : Sl → World → Prop} {l : Sl} {n : Int} {w : World} (h : V_s_l1Put Q l n w) : Calls Try.prog F.s_l1Put #[l.v, .int .i64 n] w (Ret [.at .sl] Q) :=
  mkC (hint := hint) (ann := annOf [(2, ⟨[(5, .int .i64)], [7, 8, 9, 10, 11, 12, 13, 14, 15, 16, 17, 18, 19, 20]⟩)]) (args := [l.v, .int .i64 n]) (rs := [.at .sl]) Try.func103 (by kernel_rfl) (by kernel_rfl) h

def V_i_allWithin (Q : Bool → World → Prop) (list : Sl) (low : Int) (high : Int) (w : World) : Prop :=
  NEW T.t_int #[.int .i64 low] w fun (p_low : Addr) w1 =>
  NEW T.t_int #[.int .i64 high] w1 fun (p_high : Addr) w2 =>
  Calls Try.prog F.slices_ContainsFunc_sl_int_int #[list.v, .func (.func F.i_allWithin_1) #[] #[.pointer (some p_low), .pointer (some p_high)]] w2 (Ret [.at .bool] fun (x9 : Bool) w3 =>
  Q (!x9) w3)

theorem C_i_allWithin {Q : Bool → World → Prop} {list : Sl} {low : Int} {high : Int} {w : World} (h : V_i_allWithin Q list low high w) : Calls Try.prog F.i_allWithin #[list.v, .int .i64 low, .int .i64 high] w (Ret [.at .bool] Q) :=
  mkC (hint := hint) (ann := annOf []) (args := [list.v, .int .i64 low, .int .i64 high]) (rs := [.at .bool]) Try.func104 (by kernel_rfl) (by kernel_rfl) h

def V_i_IndependentByColours_1 (Q : Bool → World → Prop) (e_0 : Int) (e_1 : Int) (e_2 : Int) (e_3 : Int) (cap0 : Addr) (w : World) : Prop :=
  NEW T.t_i_edge #[.int .i64 e_0, .int .i64 e_1, .int .i64 e_2, .int .i64 e_3] w fun (p_e : Addr) w1 =>
  LD [.int .i64] (p_e.add 0) w1 fun (x5 : Int) =>
  LD [.int .i64] (p_e.add 2) w1 fun (x7 : Int) =>
  cond ((x5 : Int) != x7) (
  LD [.sl] cap0 w1 fun (x10 : Sl) =>
  LD [.int .i64] (p_e.add 0) w1 fun (x12 : Int) =>
  IX x10 x12 1 fun (px13 : Addr) =>
  LD [.int .i64] px13 w1 fun (x14 : Int) =>
  LD [.sl] cap0 w1 fun (x15 : Sl) =>
  LD [.int .i64] (p_e.add 2) w1 fun (x17 : Int) =>
  IX x15 x17 1 fun (px18 : Addr) =>
  LD [.int .i64] px18 w1 fun (x19 : Int) =>
  ∀ w2, Ext w1 w2 →
  Q ((x14 : Int) == x19) w2) (
  ∀ w3, Ext w1 w3 →
  Q false w3)

theorem C_i_IndependentByColours_1 {Q : Bool → World → Prop} {e_0 : Int} {e_1 : Int} {e_2 : Int} {e_3 : Int} {cap0 : Addr} {w : World} (h : V_i_IndependentByColours_1 Q e_0 e_1 e_2 e_3 cap0 w) : Calls Try.prog F.i_IndependentByColours_1 #[.agg #[.int .i64 e_0, .int .i64 e_1, .int .i64 e_2, .int .i64 e_3], .pointer (some cap0)] w (Ret [.at .bool] Q) :=
  mkC (hint := hint) (ann := annOf []) (args := [.agg #[.int .i64 e_0, .int .i64 e_1, .int .i64 e_2, .int .i64 e_3], .pointer (some cap0)]) (rs := [.at .bool]) Try.func105 (by kernel_rfl) (by kernel_rfl) h

def V_slices_SortStableFunc_sl_int_int (Q : World → Prop) (x : Sl) (cmp : Value) (w : World) : Prop :=
  Calls Try.prog F.slices_stableCmpFunc_int #[x.v, .int .i64 x.len, cmp] w (Ret [] fun w1 =>
  Q w1)

theorem C_slices_SortStableFunc_sl_int_int {Q : World → Prop} {x : Sl} {cmp : Value} {w : World} (h : V_slices_SortStableFunc_sl_int_int Q x cmp w) : Calls Try.prog F.slices_SortStableFunc_sl_int_int #[x.v, cmp] w (Ret [] Q) :=
  mkC (hint := hint) (ann := annOf []) (args := [x.v, cmp]) (rs := []) Try.func106 (by kernel_rfl) (by kernel_rfl) h

def V_i_IndependentByColours_2 (Q : Int → World → Prop) (v : Int) (w1 : Int) (cap0 : Addr) (w : World) : Prop :=
  LD [.sl] cap0 w fun (x6 : Sl) =>
  IX x6 v 1 fun (px8 : Addr) =>
  LD [.int .i64] px8 w fun (x9 : Int) =>
  LD [.sl] cap0 w fun (x10 : Sl) =>
  IX x10 w1 1 fun (px12 : Addr) =>
  LD [.int .i64] px12 w fun (x13 : Int) =>
  ∀ w2, Ext w w2 →
  Q (IntKind.i64.wrap (x9 - x13)) w2

theorem C_i_IndependentByColours_2 {Q : Int → World → Prop} {v : Int} {w1 : Int} {cap0 : Addr} {w : World} (h : V_i_IndependentByColours_2 Q v w1 cap0 w) : Calls Try.prog F.i_IndependentByColours_2 #[.int .i64 v, .int .i64 w1, .pointer (some cap0)] w (Ret [.at (.int .i64)] Q) :=
  mkC (hint := hint) (ann := annOf []) (args := [.int .i64 v, .int .i64 w1, .pointer (some cap0)]) (rs := [.at (.int .i64)]) Try.func107 (by kernel_rfl) (by kernel_rfl) h

def V_i_greedyIndependent (Q : Sl → World → Prop) (n_0 : Sl) (n_1 : Sl) (n_2 : Sl) (order : Sl) (w : World) : Prop :=
  NEW T.t_i_Network #[n_0.v, n_1.v, n_2.v] w fun (p_n : Addr) w1 =>
  ∃ (I3 : Sl → Int → World → Prop) (m3 : Sl → Int → World → Nat), I3 (⟨none, 0, 0⟩) 0 w1 ∧ ∀ (set1 : Sl) (x10 : Int) w2, I3 set1 x10 w2 → ∀ _ _ _ _ _ _ _ _ _ _ _ _ _ _ _ _ _ _ _ _ _ : Value,
  cond (decide ((x10 : Int) < order.len)) (
  IX order x10 1 fun (px12 : Addr) =>
  LD [.int .i64] px12 w2 fun (x13 : Int) =>
  LD [.sl, .sl, .sl] p_n w2 fun (x14_0 : Sl) (x14_1 : Sl) (x14_2 : Sl) =>
  Calls Try.prog F.i_areJoined #[.agg #[x14_0.v, x14_1.v, x14_2.v], .int .i64 x13, .int .i64 x13] w2 (Ret [.at .bool] fun (x17 : Bool) w3 =>
  cond (!x17) (
  LD [.sl, .sl, .sl] p_n w3 fun (x20_0 : Sl) (x20_1 : Sl) (x20_2 : Sl) =>
  Calls Try.prog F.i_hasNear #[.agg #[x20_0.v, x20_1.v, x20_2.v], .int .i64 x13, set1.v] w3 (Ret [.at .bool] fun (x23 : Bool) w4 =>
  cond (!x23) (
  RUN Try.prog (.at .sl) (Instr.buildSlice T.t_sl_int 1 #[(0, .int .i64 x13)]) w4 fun (x28 : Sl) w5 =>
  RUN Try.prog (.at .sl) (bsem .append #[T.t_sl_int, T.t_sl_int] T.t_sl_int #[set1.v, x28.v]) w5 fun (x29 : Sl) w6 =>
  I3 x29 (IntKind.i64.wrap (x10 + 1)) w6 ∧ m3 x29 (IntKind.i64.wrap (x10 + 1)) w6 < m3 set1 x10 w2) (
  I3 set1 (IntKind.i64.wrap (x10 + 1)) w4 ∧ m3 set1 (IntKind.i64.wrap (x10 + 1)) w4 < m3 set1 x10 w2))) (
  I3 set1 (IntKind.i64.wrap (x10 + 1)) w3 ∧ m3 set1 (IntKind.i64.wrap (x10 + 1)) w3 < m3 set1 x10 w2))) (
  Calls Try.prog F.slices_Sort_sl_int_int #[set1.v] w2 (Ret [] fun w7 =>
  Q set1 w7))

theorem C_i_greedyIndependent {Q : Sl → World → Prop} {n_0 : Sl} {n_1 : Sl} {n_2 : Sl} {order : Sl} {w : World} (h : V_i_greedyIndependent Q n_0 n_1 n_2 order w) : Calls Try.prog F.i_greedyIndependent #[.agg #[n_0.v, n_1.v, n_2.v], order.v] w (Ret [.at .sl] Q) :=
  mkC (hint := hint) (ann := annOf [(3, ⟨[(5, .sl), (10, .int .i64)], [7, 11, 12, 13, 14, 15, 16, 17, 18, 19, 20, 21, 22, 23, 24, 25, 26, 27, 28, 29, 30]⟩)]) (args := [.agg #[n_0.v, n_1.v, n_2.v], order.v]) (rs := [.at .sl]) Try.func108 (by kernel_rfl) (by kernel_rfl) h

def V_slices_Max_sl_int_int (Q : Int → World → Prop) (x : Sl) (w : World) : Prop :=
  cond (decide ((x.len : Int) < 1)) (
  False) (
  IX x 0 1 fun (px10 : Addr) =>
  LD [.int .i64] px10 w fun (x11 : Int) =>
  ∃ (I5 : Int → Int → World → Prop) (m5 : Int → Int → World → Nat), I5 x11 1 w ∧ ∀ (m : Int) (i : Int) w1, I5 m i w1 → ∀ _ _ _ _ _ _ _ _ _ _ _ _ : Value,
  cond (decide ((i : Int) < x.len)) (
  IX x i 1 fun (px21 : Addr) =>
  LD [.int .i64] px21 w1 fun (x22 : Int) =>
  RUN Try.prog (.at (.int .i64)) (bsem .max #[T.t_int, T.t_int] T.t_int #[.int .i64 m, .int .i64 x22]) w1 fun (x23 : Int) w2 =>
  I5 x23 (IntKind.i64.wrap (i + 1)) w2 ∧ m5 x23 (IntKind.i64.wrap (i + 1)) w2 < m5 m i w1) (
  Q m w1))

theorem C_slices_Max_sl_int_int {Q : Int → World → Prop} {x : Sl} {w : World} (h : V_slices_Max_sl_int_int Q x w) : Calls Try.prog F.slices_Max_sl_int_int #[x.v] w (Ret [.at (.int .i64)] Q) :=
  mkC (hint := hint) (ann := annOf [(5, ⟨[(3, .int .i64), (4, .int .i64)], [12, 13, 14, 15, 16, 17, 18, 19, 20, 21, 22, 23]⟩)]) (args := [x.v]) (rs := [.at (.int .i64)]) Try.func109 (by kernel_rfl) (by kernel_rfl) h

def V_s_clProper (Q : Bool → World → Prop) (n_0 : Sl) (n_1 : Sl) (n_2 : Sl) (l : Sl) (w : World) : Prop :=
  NEW T.t_i_Network #[n_0.v, n_1.v, n_2.v] w fun (p_n : Addr) w1 =>
  LD [.sl] (p_n.add 0) w1 fun (x11 : Sl) =>
  cond ((l.len : Int) != x11.len) (
  Q false w1) (
  Calls Try.prog F.s_l1All #[l.v, .int .i64 0, .int .i64 1000000000000] w1 (Ret [.at .bool] fun (x16 : Bool) w2 =>
  cond (!x16) (
  Q false w2) (
  LD [.sl, .sl, .sl] p_n w2 fun (x20_0_2 : Sl) (x20_1_2 : Sl) (x20_2_2 : Sl) =>
  Calls Try.prog F.s_imEdge #[.agg #[x20_0_2.v, x20_1_2.v, x20_2_2.v], l.v] w2 (Ret [.at (.int .i64), .at (.int .i64), .at .bool] fun (x22_0_2 : Int) (x22_1_2 : Int) (x22_2_2 : Bool) w4 =>
  Q (!x22_2_2) w4))))

theorem C_s_clProper {Q : Bool → World → Prop} {n_0 : Sl} {n_1 : Sl} {n_2 : Sl} {l : Sl} {w : World} (h : V_s_clProper Q n_0 n_1 n_2 l w) : Calls Try.prog F.s_clProper #[.agg #[n_0.v, n_1.v, n_2.v], l.v] w (Ret [.at .bool] Q) :=
  mkC (hint := hint) (ann := annOf []) (args := [.agg #[n_0.v, n_1.v, n_2.v], l.v]) (rs := [.at .bool]) Try.func110 (by kernel_rfl) (by kernel_rfl) h

def V_s_clLists (Q : Bool → World → Prop) (n_0 : Sl) (n_1 : Sl) (n_2 : Sl) (lists : Sl) (w : World) : Prop :=
  NEW T.t_i_Network #[n_0.v, n_1.v, n_2.v] w fun (p_n : Addr) w1 =>
  ∃ (I2 : Int → World → Prop) (m2 : Int → World → Nat), I2 0 w1 ∧ ∀ (x11 : Int) w2, I2 x11 w2 → ∀ _ _ _ _ _ _ _ _ _ _ _ _ _ _ _ _ _ _ _ _ _ _ _ _ _ _ _ _ _ _ _ _ _ _ _ _ _ _ _ _ _ _ _ _ _ _ _ _ _ : Value,
  cond (decide ((x11 : Int) < lists.len)) (
  IX lists x11 1 fun (px14 : Addr) =>
  LD [.sl] px14 w2 fun (x15 : Sl) =>
  LD [.sl] (p_n.add 0) w2 fun (x18 : Sl) =>
  cond (decide ((x11 : Int) ≥ x18.len)) (
  Q false w2) (
  LD [.sl] (p_n.add 0) w2 fun (x25 : Sl) =>
  IX x25 x11 1 fun (px27 : Addr) =>
  LD [.sl] px27 w2 fun (x28 : Sl) =>
  cond (decide ((x15.len : Int) ≤ x28.len)) (
  Q false w2) (
  cond (decide ((x15.len : Int) > 20)) (
  Q false w2) (
  Calls Try.prog F.s_l1All #[x15.v, .int .i64 0, .int .i64 1000000000000] w2 (Ret [.at .bool] fun (x39 : Bool) w3 =>
  cond (!x39) (
  Q false w3) (
  ∃ (I7_2 : Int → World → Prop) (m7_2 : Int → World → Nat), I7_2 0 w3 ∧ ∀ (x44_2 : Int) w6, I7_2 x44_2 w6 → ∀ _ _ _ _ _ _ _ _ _ _ _ _ _ : Value,
  cond (decide ((x44_2 : Int) < x15.len)) (
  IX x15 x44_2 1 fun (px47_2 : Addr) =>
  LD [.int .i64] px47_2 w6 fun (x48_2 : Int) =>
  SLC x15 none (some x44_2) 1 fun (x51_2 : Sl) =>
  Calls Try.prog F.s_l1Has #[x51_2.v, .int .i64 x48_2] w6 (Ret [.at .bool] fun (x53_2 : Bool) w7 =>
  cond x53_2 (
  Q false w7) (
  I7_2 (IntKind.i64.wrap (x44_2 + 1)) w7 ∧ m7_2 (IntKind.i64.wrap (x44_2 + 1)) w7 < m7_2 x44_2 w6))) (
  I2 (IntKind.i64.wrap (x11 + 1)) w6 ∧ m2 (IntKind.i64.wrap (x11 + 1)) w6 < m2 x11 w2))))))) (
  LD [.sl] (p_n.add 0) w2 fun (x59 : Sl) =>
  Q ((lists.len : Int) == x59.len) w2)

theorem C_s_clLists {Q : Bool → World → Prop} {n_0 : Sl} {n_1 : Sl} {n_2 : Sl} {lists : Sl} {w : World} (h : V_s_clLists Q n_0 n_1 n_2 lists w) : Calls Try.prog F.s_clLists #[.agg #[n_0.v, n_1.v, n_2.v], lists.v] w (Ret [.at .bool] Q) :=
  mkC (hint := hint) (ann := annOf [(2, ⟨[(11, .int .i64)], [4, 5, 6, 7, 8, 12, 13, 14, 15, 16, 17, 18, 19, 20, 21, 22, 23, 24, 25, 26, 27, 28, 29, 30, 31, 32, 33, 34, 35, 36, 37, 38, 39, 40, 41, 42, 43, 44, 45, 46, 47, 48, 49, 50, 51, 52, 53, 54, 55]⟩), (7, ⟨[(44, .int .i64)], [4, 7, 8, 45, 46, 47, 48, 49, 50, 51, 52, 53, 54]⟩)]) (args := [.agg #[n_0.v, n_1.v, n_2.v], lists.v]) (rs := [.at .bool]) Try.func111 (by kernel_rfl) (by kernel_rfl) h

def V_s_coThrough (Q : Sl → World → Prop) (l : Sl) (at1 : Sl) (w : World) : Prop :=
  ∃ (I3 : Sl → Int → World → Prop) (m3 : Sl → Int → World → Nat), I3 (⟨none, 0, 0⟩) 0 w ∧ ∀ (out : Sl) (x10 : Int) w1, I3 out x10 w1 → ∀ _ _ _ _ _ _ _ _ _ _ _ _ : Value,
  cond (decide ((x10 : Int) < at1.len)) (
  IX at1 x10 1 fun (px12 : Addr) =>
  LD [.int .i64] px12 w1 fun (x13 : Int) =>
  IX l x13 1 fun (px17 : Addr) =>
  LD [.int .i64] px17 w1 fun (x18 : Int) =>
  RUN Try.prog (.at .sl) (Instr.buildSlice T.t_sl_int 1 #[(0, .int .i64 x18)]) w1 fun (x19 : Sl) w2 =>
  RUN Try.prog (.at .sl) (bsem .append #[T.t_sl_int, T.t_sl_int] T.t_sl_int #[out.v, x19.v]) w2 fun (x20 : Sl) w3 =>
  I3 x20 (IntKind.i64.wrap (x10 + 1)) w3 ∧ m3 x20 (IntKind.i64.wrap (x10 + 1)) w3 < m3 out x10 w1) (
  Q out w1)

theorem C_s_coThrough {Q : Sl → World → Prop} {l : Sl} {at1 : Sl} {w : World} (h : V_s_coThrough Q l at1 w) : Calls Try.prog F.s_coThrough #[l.v, at1.v] w (Ret [.at .sl] Q) :=
  mkC (hint := hint) (ann := annOf [(3, ⟨[(5, .sl), (10, .int .i64)], [7, 11, 12, 13, 14, 15, 16, 17, 18, 19, 20, 21]⟩)]) (args := [l.v, at1.v]) (rs := [.at .sl]) Try.func112 (by kernel_rfl) (by kernel_rfl) h

def V_s_neNear (Q : Sl → World → Prop) (n_0 : Sl) (n_1 : Sl) (n_2 : Sl) (v : Int) (w : World) : Prop :=
  NEW T.t_i_Network #[n_0.v, n_1.v, n_2.v] w fun (p_n : Addr) w1 =>
  LD [.sl] (p_n.add 0) w1 fun (x9 : Sl) =>
  IX x9 v 1 fun (px11 : Addr) =>
  LD [.sl] px11 w1 fun (x12 : Sl) =>
  ∃ (I3 : Sl → Int → World → Prop) (m3 : Sl → Int → World → Nat), I3 (⟨none, 0, 0⟩) 0 w1 ∧ ∀ (out : Sl) (x14 : Int) w2, I3 out x14 w2 → ∀ _ _ _ _ _ _ _ _ _ _ : Value,
  cond (decide ((x14 : Int) < x12.len)) (
  IX x12 x14 2 fun (px16 : Addr) =>
  LD [.int .i64, .int .i64] px16 w2 fun (x17_0 : Int) (x17_1 : Int) =>
  NEW T.t_i_End #[.int .i64 0, .int .i64 0] w2 fun (p_e : Addr) w3 =>
  ST p_e 0 [.int .i64 x17_0, .int .i64 x17_1] w3 fun w4 =>
  LD [.int .i64] (p_e.add 0) w4 fun (x20 : Int) =>
  RUN Try.prog (.at .sl) (Instr.buildSlice T.t_sl_int 1 #[(0, .int .i64 x20)]) w4 fun (x21 : Sl) w5 =>
  RUN Try.prog (.at .sl) (bsem .append #[T.t_sl_int, T.t_sl_int] T.t_sl_int #[out.v, x21.v]) w5 fun (x22 : Sl) w6 =>
  I3 x22 (IntKind.i64.wrap (x14 + 1)) w6 ∧ m3 x22 (IntKind.i64.wrap (x14 + 1)) w6 < m3 out x14 w2) (
  Q out w2)

theorem C_s_neNear {Q : Sl → World → Prop} {n_0 : Sl} {n_1 : Sl} {n_2 : Sl} {v : Int} {w : World} (h : V_s_neNear Q n_0 n_1 n_2 v w) : Calls Try.prog F.s_neNear #[.agg #[n_0.v, n_1.v, n_2.v], .int .i64 v] w (Ret [.at .sl] Q) :=
  mkC (hint := hint) (ann := annOf [(3, ⟨[(5, .sl), (14, .int .i64)], [7, 15, 16, 17, 18, 19, 20, 21, 22, 23]⟩)]) (args := [.agg #[n_0.v, n_1.v, n_2.v], .int .i64 v]) (rs := [.at .sl]) Try.func113 (by kernel_rfl) (by kernel_rfl) h

def V_s_l1Has (Q : Bool → World → Prop) (l : Sl) (n : Int) (w : World) : Prop :=
  ∃ (I2 : Int → World → Prop) (m2 : Int → World → Nat), I2 0 w ∧ ∀ (x9 : Int) w1, I2 x9 w1 → ∀ _ _ _ _ _ _ _ _ _ : Value,
  cond (decide ((x9 : Int) < l.len)) (
  IX l x9 1 fun (px11 : Addr) =>
  LD [.int .i64] px11 w1 fun (x12 : Int) =>
  cond ((x12 : Int) == n) (
  Q true w1) (
  I2 (IntKind.i64.wrap (x9 + 1)) w1 ∧ m2 (IntKind.i64.wrap (x9 + 1)) w1 < m2 x9 w1)) (
  Q false w1)

theorem C_s_l1Has {Q : Bool → World → Prop} {l : Sl} {n : Int} {w : World} (h : V_s_l1Has Q l n w) : Calls Try.prog F.s_l1Has #[l.v, .int .i64 n] w (Ret [.at .bool] Q) :=
  mkC (hint := hint) (ann := annOf [(2, ⟨[(9, .int .i64)], [4, 6, 10, 11, 12, 13, 14, 15, 16]⟩)]) (args := [l.v, .int .i64 n]) (rs := [.at .bool]) Try.func114 (by kernel_rfl) (by kernel_rfl) h

def V_i_isColouring (Q : Bool → World → Prop) (n_0 : Sl) (n_1 : Sl) (n_2 : Sl) (colours : Sl) (w : World) : Prop :=
  NEW T.t_i_Network #[n_0.v, n_1.v, n_2.v] w fun (p_n : Addr) w1 =>
  NEW T.t_sl_int #[colours.v] w1 fun (p_colours : Addr) w2 =>
  LD [.sl] p_colours w2 fun (x5 : Sl) =>
  LD [.sl] (p_n.add 0) w2 fun (x8 : Sl) =>
  cond ((x5.len : Int) == x8.len) (
  LD [.sl] p_colours w2 fun (x12 : Sl) =>
  Calls Try.prog F.i_allWithin #[x12.v, .int .i64 0, .int .i64 1000000000000] w2 (Ret [.at .bool] fun (x13 : Bool) w3 =>
  cond x13 (
  LD [.sl, .sl, .sl] p_n w3 fun (x16_0 : Sl) (x16_1 : Sl) (x16_2 : Sl) =>
  Calls Try.prog F.i_Network_edges #[.agg #[x16_0.v, x16_1.v, x16_2.v]] w3 (Ret [.at .sl] fun (x17 : Sl) w4 =>
  Calls Try.prog F.slices_ContainsFunc_sl_i_edge_i_edge #[x17.v, .func (.func F.i_isColouring_1) #[] #[.pointer (some p_colours)]] w4 (Ret [.at .bool] fun (x19 : Bool) w5 =>
  Q (!x19) w5))) (
  Q false w3))) (
  Q false w2)

theorem C_i_isColouring {Q : Bool → World → Prop} {n_0 : Sl} {n_1 : Sl} {n_2 : Sl} {colours : Sl} {w : World} (h : V_i_isColouring Q n_0 n_1 n_2 colours w) : Calls Try.prog F.i_isColouring #[.agg #[n_0.v, n_1.v, n_2.v], colours.v] w (Ret [.at .bool] Q) :=
  mkC (hint := hint) (ann := annOf []) (args := [.agg #[n_0.v, n_1.v, n_2.v], colours.v]) (rs := [.at .bool]) Try.func115 (by kernel_rfl) (by kernel_rfl) h

def V_i_listsOk (Q : Bool → World → Prop) (n_0 : Sl) (n_1 : Sl) (n_2 : Sl) (lists : Sl) (w : World) : Prop :=
  NEW T.t_i_Network #[n_0.v, n_1.v, n_2.v] w fun (p_n : Addr) w1 =>
  LD [.sl] (p_n.add 0) w1 fun (x11 : Sl) =>
  cond ((lists.len : Int) != x11.len) (
  Q false w1) (
  ∃ (I4 : Int → World → Prop) (m4 : Int → World → Nat), I4 0 w1 ∧ ∀ (x16 : Int) w2, I4 x16 w2 → ∀ _ _ _ _ _ _ _ _ _ _ _ _ _ _ _ _ _ _ _ _ _ _ _ _ _ _ _ _ : Value,
  cond (decide ((x16 : Int) < lists.len)) (
  IX lists x16 1 fun (px19 : Addr) =>
  LD [.sl] px19 w2 fun (x20 : Sl) =>
  Calls Try.prog F.slices_Values_sl_int_int #[x20.v] w2 (Ret [.at .val] fun (x22 : Value) w3 =>
  Calls Try.prog F.slices_Sorted_int #[x22] w3 (Ret [.at .sl] fun (x23 : Sl) w4 =>
  LD [.sl] (p_n.add 0) w4 fun (x27 : Sl) =>
  IX x27 x16 1 fun (px29 : Addr) =>
  LD [.sl] px29 w4 fun (x30 : Sl) =>
  Calls Try.prog F.i_within #[.int .i64 x20.len, .int .i64 (IntKind.i64.wrap (x30.len + 1)), .int .i64 20] w4 (Ret [.at .bool] fun (x33 : Bool) w5 =>
  cond (!x33) (
  Q false w5) (
  Calls Try.prog F.i_increasing #[x23.v, .int .i64 0, .int .i64 1000000000000] w5 (Ret [.at .bool] fun (x37 : Bool) w6 =>
  cond (!x37) (
  Q false w6) (
  I4 (IntKind.i64.wrap (x16 + 1)) w6 ∧ m4 (IntKind.i64.wrap (x16 + 1)) w6 < m4 x16 w2))))))) (
  Q true w2))

theorem C_i_listsOk {Q : Bool → World → Prop} {n_0 : Sl} {n_1 : Sl} {n_2 : Sl} {lists : Sl} {w : World} (h : V_i_listsOk Q n_0 n_1 n_2 lists w) : Calls Try.prog F.i_listsOk #[.agg #[n_0.v, n_1.v, n_2.v], lists.v] w (Ret [.at .bool] Q) :=
  mkC (hint := hint) (ann := annOf [(4, ⟨[(16, .int .i64)], [4, 5, 6, 7, 17, 18, 19, 20, 21, 22, 23, 24, 25, 26, 27, 28, 29, 30, 31, 32, 33, 34, 35, 36, 37, 38, 39, 40]⟩)]) (args := [.agg #[n_0.v, n_1.v, n_2.v], lists.v]) (rs := [.at .bool]) Try.func116 (by kernel_rfl) (by kernel_rfl) h

def V_i_ColourFromLists_1 (Q : Int → World → Prop) (v : Int) (w1 : Int) (cap0 : Addr) (w : World) : Prop :=
  LD [.sl] cap0 w fun (x6 : Sl) =>
  IX x6 v 1 fun (px8 : Addr) =>
  LD [.int .i64] px8 w fun (x9 : Int) =>
  LD [.sl] cap0 w fun (x10 : Sl) =>
  IX x10 w1 1 fun (px12 : Addr) =>
  LD [.int .i64] px12 w fun (x13 : Int) =>
  ∀ w2, Ext w w2 →
  Q (IntKind.i64.wrap (x9 - x13)) w2

theorem C_i_ColourFromLists_1 {Q : Int → World → Prop} {v : Int} {w1 : Int} {cap0 : Addr} {w : World} (h : V_i_ColourFromLists_1 Q v w1 cap0 w) : Calls Try.prog F.i_ColourFromLists_1 #[.int .i64 v, .int .i64 w1, .pointer (some cap0)] w (Ret [.at (.int .i64)] Q) :=
  mkC (hint := hint) (ann := annOf []) (args := [.int .i64 v, .int .i64 w1, .pointer (some cap0)]) (rs := [.at (.int .i64)]) Try.func117 (by kernel_rfl) (by kernel_rfl) h

def V_i_near (Q : Sl → World → Prop) (n_0 : Sl) (n_1 : Sl) (n_2 : Sl) (v : Int) (numbers : Sl) (w : World) : Prop :=
  NEW T.t_i_Network #[n_0.v, n_1.v, n_2.v] w fun (p_n : Addr) w1 =>
  LD [.sl] (p_n.add 0) w1 fun (x11 : Sl) =>
  IX x11 v 1 fun (px13 : Addr) =>
  LD [.sl] px13 w1 fun (x14 : Sl) =>
  ∃ (I3 : Sl → Int → World → Prop) (m3 : Sl → Int → World → Nat), I3 (⟨none, 0, 0⟩) 0 w1 ∧ ∀ (out : Sl) (x16 : Int) w2, I3 out x16 w2 → ∀ _ _ _ _ _ _ _ _ _ _ _ _ _ : Value,
  cond (decide ((x16 : Int) < x14.len)) (
  IX x14 x16 2 fun (px18 : Addr) =>
  LD [.int .i64, .int .i64] px18 w2 fun (x19_0 : Int) (x19_1 : Int) =>
  NEW T.t_i_End #[.int .i64 0, .int .i64 0] w2 fun (p_e : Addr) w3 =>
  ST p_e 0 [.int .i64 x19_0, .int .i64 x19_1] w3 fun w4 =>
  LD [.int .i64] (p_e.add 0) w4 fun (x23 : Int) =>
  IX numbers x23 1 fun (px24 : Addr) =>
  LD [.int .i64] px24 w4 fun (x25 : Int) =>
  RUN Try.prog (.at .sl) (Instr.buildSlice T.t_sl_int 1 #[(0, .int .i64 x25)]) w4 fun (x26 : Sl) w5 =>
  RUN Try.prog (.at .sl) (bsem .append #[T.t_sl_int, T.t_sl_int] T.t_sl_int #[out.v, x26.v]) w5 fun (x27 : Sl) w6 =>
  I3 x27 (IntKind.i64.wrap (x16 + 1)) w6 ∧ m3 x27 (IntKind.i64.wrap (x16 + 1)) w6 < m3 out x16 w2) (
  Q out w2)

theorem C_i_near {Q : Sl → World → Prop} {n_0 : Sl} {n_1 : Sl} {n_2 : Sl} {v : Int} {numbers : Sl} {w : World} (h : V_i_near Q n_0 n_1 n_2 v numbers w) : Calls Try.prog F.i_near #[.agg #[n_0.v, n_1.v, n_2.v], .int .i64 v, numbers.v] w (Ret [.at .sl] Q) :=
  mkC (hint := hint) (ann := annOf [(3, ⟨[(7, .sl), (16, .int .i64)], [9, 17, 18, 19, 20, 21, 22, 23, 24, 25, 26, 27, 28]⟩)]) (args := [.agg #[n_0.v, n_1.v, n_2.v], .int .i64 v, numbers.v]) (rs := [.at .sl]) Try.func118 (by kernel_rfl) (by kernel_rfl) h

def V_slices_IndexFunc_sl_int_int (Q : Int → World → Prop) (s : Sl) (f : Value) (w : World) : Prop :=
  ∃ (I2 : Int → World → Prop) (m2 : Int → World → Nat), I2 0 w ∧ ∀ (x8 : Int) w1, I2 x8 w1 → ∀ _ _ _ _ _ _ _ _ _ _ _ _ : Value,
  cond (decide ((x8 : Int) < s.len)) (
  IX s x8 1 fun (px14 : Addr) =>
  LD [.int .i64] px14 w1 fun (x15 : Int) =>
  CALLV Try.prog f #[.int .i64 x15] w1 (Ret [.at .bool] fun (x16 : Bool) w2 =>
  cond x16 (
  Q x8 w2) (
  I2 (IntKind.i64.wrap (x8 + 1)) w2 ∧ m2 (IntKind.i64.wrap (x8 + 1)) w2 < m2 x8 w1))) (
  Q (-1) w1)

theorem C_slices_IndexFunc_sl_int_int {Q : Int → World → Prop} {s : Sl} {f : Value} {w : World} (h : V_slices_IndexFunc_sl_int_int Q s f w) : Calls Try.prog F.slices_IndexFunc_sl_int_int #[s.v, f] w (Ret [.at (.int .i64)] Q) :=
  mkC (hint := hint) (ann := annOf [(2, ⟨[(8, .int .i64)], [4, 5, 9, 10, 11, 12, 13, 14, 15, 16, 17, 18]⟩)]) (args := [s.v, f]) (rs := [.at (.int .i64)]) Try.func119 (by kernel_rfl) (by kernel_rfl) h

def V_i_ColourFromLists_2 (Q : Bool → World → Prop) (c : Int) (cap0 : Addr) (w : World) : Prop :=
  LD [.sl] cap0 w fun (x4 : Sl) =>
  Calls Try.prog F.slices_Contains_sl_int_int #[x4.v, .int .i64 c] w (Ret [.at .bool] fun (x6 : Bool) w1 =>
  Q (!x6) w1)

theorem C_i_ColourFromLists_2 {Q : Bool → World → Prop} {c : Int} {cap0 : Addr} {w : World} (h : V_i_ColourFromLists_2 Q c cap0 w) : Calls Try.prog F.i_ColourFromLists_2 #[.int .i64 c, .pointer (some cap0)] w (Ret [.at .bool] Q) :=
  mkC (hint := hint) (ann := annOf []) (args := [.int .i64 c, .pointer (some cap0)]) (rs := [.at .bool]) Try.func120 (by kernel_rfl) (by kernel_rfl) h

def V_slices_Contains_sl_int_int (Q : Bool → World → Prop) (s : Sl) (v : Int) (w : World) : Prop :=
  Calls Try.prog F.slices_Index_sl_int_int #[s.v, .int .i64 v] w (Ret [.at (.int .i64)] fun (x7 : Int) w1 =>
  Q (decide ((x7 : Int) ≥ 0)) w1)

theorem C_slices_Contains_sl_int_int {Q : Bool → World → Prop} {s : Sl} {v : Int} {w : World} (h : V_slices_Contains_sl_int_int Q s v w) : Calls Try.prog F.slices_Contains_sl_int_int #[s.v, .int .i64 v] w (Ret [.at .bool] Q) :=
  mkC (hint := hint) (ann := annOf []) (args := [s.v, .int .i64 v]) (rs := [.at .bool]) Try.func121 (by kernel_rfl) (by kernel_rfl) h

def V_s_prGood (Q : Bool → World → Prop) (p_0 : Int) (p_1 : Int) (p_2 : Sl) (p_3 : Sl) (w : World) : Prop :=
  NEW T.t_i_Problem #[.int .i64 p_0, .int .i64 p_1, p_2.v, p_3.v] w fun (p_p : Addr) w1 =>
  LD [.int .i64] (p_p.add 0) w1 fun (x4 : Int) =>
  Calls Try.prog F.s_l1In #[.int .i64 x4, .int .i64 1, .int .i64 8] w1 (Ret [.at .bool] fun (x5 : Bool) w2 =>
  cond x5 (
  LD [.int .i64] (p_p.add 1) w2 fun (x8 : Int) =>
  Calls Try.prog F.s_l1In #[.int .i64 x8, .int .i64 1, .int .i64 4] w2 (Ret [.at .bool] fun (x9 : Bool) w3 =>
  cond x9 (
  LD [.sl] (p_p.add 2) w3 fun (x13 : Sl) =>
  LD [.int .i64] (p_p.add 1) w3 fun (x15 : Int) =>
  LD [.int .i64] (p_p.add 0) w3 fun (x17 : Int) =>
  Calls Try.prog F.s_prLists #[x13.v, .int .i64 x15, .int .i64 x17] w3 (Ret [.at .bool] fun (x18 : Bool) w4 =>
  cond x18 (
  LD [.sl] (p_p.add 3) w4 fun (x22 : Sl) =>
  LD [.int .i64] (p_p.add 0) w4 fun (x24 : Int) =>
  Calls Try.prog F.s_prLists #[x22.v, .int .i64 2, .int .i64 x24] w4 (Ret [.at .bool] fun (x25 : Bool) w5 =>
  Q x25 w5)) (
  Q false w4))) (
  Q false w3))) (
  Q false w2))

theorem C_s_prGood {Q : Bool → World → Prop} {p_0 : Int} {p_1 : Int} {p_2 : Sl} {p_3 : Sl} {w : World} (h : V_s_prGood Q p_0 p_1 p_2 p_3 w) : Calls Try.prog F.s_prGood #[.agg #[.int .i64 p_0, .int .i64 p_1, p_2.v, p_3.v]] w (Ret [.at .bool] Q) :=
  mkC (hint := hint) (ann := annOf []) (args := [.agg #[.int .i64 p_0, .int .i64 p_1, p_2.v, p_3.v]]) (rs := [.at .bool]) Try.func122 (by kernel_rfl) (by kernel_rfl) h

def V_s_l1All (Q : Bool → World → Prop) (l : Sl) (lo : Int) (hi : Int) (w : World) : Prop :=
  ∃ (I2 : Int → World → Prop) (m2 : Int → World → Nat), I2 0 w ∧ ∀ (x11 : Int) w1, I2 x11 w1 → ∀ _ _ _ _ _ _ _ _ _ _ _ : Value,
  cond (decide ((x11 : Int) < l.len)) (
  IX l x11 1 fun (px13 : Addr) =>
  LD [.int .i64] px13 w1 fun (x14 : Int) =>
  Calls Try.prog F.s_l1In #[.int .i64 x14, .int .i64 lo, .int .i64 hi] w1 (Ret [.at .bool] fun (x18 : Bool) w2 =>
  cond (!x18) (
  Q false w2) (
  I2 (IntKind.i64.wrap (x11 + 1)) w2 ∧ m2 (IntKind.i64.wrap (x11 + 1)) w2 < m2 x11 w1))) (
  Q true w1)

theorem C_s_l1All {Q : Bool → World → Prop} {l : Sl} {lo : Int} {hi : Int} {w : World} (h : V_s_l1All Q l lo hi w) : Calls Try.prog F.s_l1All #[l.v, .int .i64 lo, .int .i64 hi] w (Ret [.at .bool] Q) :=
  mkC (hint := hint) (ann := annOf [(2, ⟨[(11, .int .i64)], [6, 8, 12, 13, 14, 15, 16, 17, 18, 19, 20]⟩)]) (args := [l.v, .int .i64 lo, .int .i64 hi]) (rs := [.at .bool]) Try.func123 (by kernel_rfl) (by kernel_rfl) h

def V_s_prNode (Q : Bool → World → Prop) (p_0 : Int) (p_1 : Int) (p_2 : Sl) (p_3 : Sl) (l : Sl) (w : World) : Prop :=
  NEW T.t_i_Problem #[.int .i64 p_0, .int .i64 p_1, p_2.v, p_3.v] w fun (p_p : Addr) w1 =>
  ∀ w2, Ext w1 w2 → w2.heap = w1.heap →
  LD [.sl] (p_p.add 2) w2 fun (x6 : Sl) =>
  Ext w2 w2 ∧ (
  Calls Try.prog F.s_prSorted #[l.v] w2 (Ret [.at .sl] fun (x8 : Sl) w3 =>
  Ext w2 w3 ∧ (
  Calls Try.prog F.s_prHas #[x6.v, x8.v] w3 (Ret [.at .bool] fun (x9 : Bool) w4 =>
  Ext w2 w4 ∧ (
  Q x9 w4)))))

theorem C_s_prNode {Q : Bool → World → Prop} {p_0 : Int} {p_1 : Int} {p_2 : Sl} {p_3 : Sl} {l : Sl} {w : World} (h : V_s_prNode Q p_0 p_1 p_2 p_3 l w) : Calls Try.prog F.s_prNode #[.agg #[.int .i64 p_0, .int .i64 p_1, p_2.v, p_3.v], l.v] w (Ret [.at .bool] Q) :=
  mkC (hint := hint) (ann := annOf []) (args := [.agg #[.int .i64 p_0, .int .i64 p_1, p_2.v, p_3.v], l.v]) (rs := [.at .bool]) Try.func124 (by kernel_rfl) (by kernel_rfl) h

def V_s_zeBad (Q : Int → Int → Bool → World → Prop) (p_0 : Int) (p_1 : Int) (p_2 : Sl) (p_3 : Sl) (x : Sl) (y : Sl) (w : World) : Prop :=
  NEW T.t_i_Problem #[.int .i64 p_0, .int .i64 p_1, p_2.v, p_3.v] w fun (p_p : Addr) w1 =>
  ∃ (I2 : Int → World → Prop) (m2 : Int → World → Nat), I2 0 w1 ∧ ∀ (x15 : Int) w2, I2 x15 w2 → ∀ _ _ _ _ _ _ _ _ _ _ _ _ _ _ _ _ _ _ _ _ _ _ _ _ _ _ _ : Value,
  cond (decide ((x15 : Int) < x.len)) (
  IX x x15 1 fun (px18 : Addr) =>
  LD [.int .i64] px18 w2 fun (x19 : Int) =>
  ∃ (I5 : Int → World → Prop) (m5 : Int → World → Nat), I5 0 w2 ∧ ∀ (x22 : Int) w3, I5 x22 w3 → ∀ _ _ _ _ _ _ _ _ _ _ _ _ _ _ _ _ _ : Value,
  cond (decide ((x22 : Int) < y.len)) (
  IX y x22 1 fun (px25 : Addr) =>
  LD [.int .i64] px25 w3 fun (x26 : Int) =>
  LD [.int .i64, .int .i64, .sl, .sl] p_p w3 fun (x27_0 : Int) (x27_1 : Int) (x27_2 : Sl) (x27_3 : Sl) =>
  Calls Try.prog F.s_prEdge #[.agg #[.int .i64 x27_0, .int .i64 x27_1, x27_2.v, x27_3.v], .int .i64 x19, .int .i64 x26] w3 (Ret [.at .bool] fun (x30 : Bool) w4 =>
  cond (!x30) (
  Q x15 x22 true w4) (
  I5 (IntKind.i64.wrap (x22 + 1)) w4 ∧ m5 (IntKind.i64.wrap (x22 + 1)) w4 < m5 x22 w3))) (
  I2 (IntKind.i64.wrap (x15 + 1)) w3 ∧ m2 (IntKind.i64.wrap (x15 + 1)) w3 < m2 x15 w2)) (
  Q 0 0 false w2)

theorem C_s_zeBad {Q : Int → Int → Bool → World → Prop} {p_0 : Int} {p_1 : Int} {p_2 : Sl} {p_3 : Sl} {x : Sl} {y : Sl} {w : World} (h : V_s_zeBad Q p_0 p_1 p_2 p_3 x y w) : Calls Try.prog F.s_zeBad #[.agg #[.int .i64 p_0, .int .i64 p_1, p_2.v, p_3.v], x.v, y.v] w (Ret [.at (.int .i64), .at (.int .i64), .at .bool] Q) :=
  mkC (hint := hint) (ann := annOf [(2, ⟨[(15, .int .i64)], [6, 7, 8, 9, 10, 11, 12, 16, 17, 18, 19, 20, 21, 22, 23, 24, 25, 26, 27, 28, 29, 30, 31, 32, 33, 34, 35]⟩), (5, ⟨[(22, .int .i64)], [6, 7, 8, 11, 12, 23, 24, 25, 26, 27, 28, 29, 30, 31, 32, 33, 34]⟩)]) (args := [.agg #[.int .i64 p_0, .int .i64 p_1, p_2.v, p_3.v], x.v, y.v]) (rs := [.at (.int .i64), .at (.int .i64), .at .bool]) Try.func125 (by kernel_rfl) (by kernel_rfl) h

def V_s_neEmpty (Q : Sl → Sl → Sl → World → Prop) (nodes : Int) (w : World) : Prop :=
  NEW T.t_i_Network #[.slice none 0 0, .slice none 0 0, .slice none 0 0] w fun (px2 : Addr) w1 =>
  ∀ w2, Ext w1 w2 → w2.heap = w1.heap → ∃ (D2 : Nat → Prop),
  (
  RUN Try.prog (.at .sl) (Instr.makeSlice T.t_sl_sl_i_End (.int .i64 nodes) (.int .i64 nodes)) w2 fun (x4 : Sl) w3 =>
  Chg w2 w3 D2 ∧ (
  RUN Try.prog (.at .sl) (Instr.makeSlice T.t_sl_int (.int .i64 nodes) (.int .i64 nodes)) w3 fun (x6 : Sl) w4 =>
  Chg w2 w4 D2 ∧ (
  Chg w2 w4 D2 ∧ (
  ST px2 0 [x4.v, .slice none 0 0, x6.v] w4 fun w5 =>
  Chg w2 w5 D2 ∧ (
  LD [.sl, .sl, .sl] px2 w5 fun (r0_0 : Sl) (r0_1 : Sl) (r0_2 : Sl) =>
  Q r0_0 r0_1 r0_2 w5))))) ∧ (
  RUN Try.prog (.at .sl) (Instr.makeSlice T.t_sl_int (.int .i64 nodes) (.int .i64 nodes)) w2 fun (x6_2 : Sl) w6 =>
  Chg w2 w6 D2 ∧ (
  RUN Try.prog (.at .sl) (Instr.makeSlice T.t_sl_sl_i_End (.int .i64 nodes) (.int .i64 nodes)) w6 fun (x4_2 : Sl) w7 =>
  Chg w2 w7 D2 ∧ (
  Chg w2 w7 D2 ∧ (
  ST px2 0 [x4_2.v, .slice none 0 0, x6_2.v] w7 fun w8 =>
  Chg w2 w8 D2 ∧ (
  LD [.sl, .sl, .sl] px2 w8 fun (r0_0_2 : Sl) (r0_1_2 : Sl) (r0_2_2 : Sl) =>
  Q r0_0_2 r0_1_2 r0_2_2 w8)))))

theorem C_s_neEmpty {Q : Sl → Sl → Sl → World → Prop} {nodes : Int} {w : World} (h : V_s_neEmpty Q nodes w) : Calls Try.prog F.s_neEmpty #[.int .i64 nodes] w (Ret [.agg [.sl, .sl, .sl]] Q) :=
  mkC (hint := hint) (ann := annOf []) (args := [.int .i64 nodes]) (rs := [.agg [.sl, .sl, .sl]]) Try.func126 (by kernel_rfl) (by kernel_rfl) h

def V_i_IsProblem (Q : Bool → World → Prop) (p_0 : Int) (p_1 : Int) (p_2 : Sl) (p_3 : Sl) (w : World) : Prop :=
  NEW T.t_i_Problem #[.int .i64 p_0, .int .i64 p_1, p_2.v, p_3.v] w fun (p_p : Addr) w1 =>
  LD [.int .i64] (p_p.add 0) w1 fun (x4 : Int) =>
  Calls Try.prog F.i_within #[.int .i64 x4, .int .i64 1, .int .i64 8] w1 (Ret [.at .bool] fun (x5 : Bool) w2 =>
  cond x5 (
  LD [.int .i64] (p_p.add 1) w2 fun (x8 : Int) =>
  Calls Try.prog F.i_within #[.int .i64 x8, .int .i64 1, .int .i64 4] w2 (Ret [.at .bool] fun (x9 : Bool) w3 =>
  cond x9 (
  LD [.sl] (p_p.add 2) w3 fun (x13 : Sl) =>
  LD [.int .i64] (p_p.add 1) w3 fun (x15 : Int) =>
  LD [.int .i64] (p_p.add 0) w3 fun (x17 : Int) =>
  Calls Try.prog F.i_configurationsOk #[x13.v, .int .i64 x15, .int .i64 x17] w3 (Ret [.at .bool] fun (x18 : Bool) w4 =>
  cond x18 (
  LD [.sl] (p_p.add 3) w4 fun (x22 : Sl) =>
  LD [.int .i64] (p_p.add 0) w4 fun (x24 : Int) =>
  Calls Try.prog F.i_configurationsOk #[x22.v, .int .i64 2, .int .i64 x24] w4 (Ret [.at .bool] fun (x25 : Bool) w5 =>
  Q x25 w5)) (
  Q false w4))) (
  Q false w3))) (
  Q false w2))

theorem C_i_IsProblem {Q : Bool → World → Prop} {p_0 : Int} {p_1 : Int} {p_2 : Sl} {p_3 : Sl} {w : World} (h : V_i_IsProblem Q p_0 p_1 p_2 p_3 w) : Calls Try.prog F.i_IsProblem #[.agg #[.int .i64 p_0, .int .i64 p_1, p_2.v, p_3.v]] w (Ret [.at .bool] Q) :=
  mkC (hint := hint) (ann := annOf []) (args := [.agg #[.int .i64 p_0, .int .i64 p_1, p_2.v, p_3.v]]) (rs := [.at .bool]) Try.func127 (by kernel_rfl) (by kernel_rfl) h

def V_i_Problem_hasLabels (Q : Bool → World → Prop) (p_0 : Int) (p_1 : Int) (p_2 : Sl) (p_3 : Sl) (labels : Sl) (w : World) : Prop :=
  NEW T.t_i_Problem #[.int .i64 p_0, .int .i64 p_1, p_2.v, p_3.v] w fun (p_p : Addr) w1 =>
  LD [.int .i64] (p_p.add 0) w1 fun (x7 : Int) =>
  Calls Try.prog F.i_allWithin #[labels.v, .int .i64 0, .int .i64 (IntKind.i64.wrap (x7 - 1))] w1 (Ret [.at .bool] fun (x9 : Bool) w2 =>
  Q x9 w2)

theorem C_i_Problem_hasLabels {Q : Bool → World → Prop} {p_0 : Int} {p_1 : Int} {p_2 : Sl} {p_3 : Sl} {labels : Sl} {w : World} (h : V_i_Problem_hasLabels Q p_0 p_1 p_2 p_3 labels w) : Calls Try.prog F.i_Problem_hasLabels #[.agg #[.int .i64 p_0, .int .i64 p_1, p_2.v, p_3.v], labels.v] w (Ret [.at .bool] Q) :=
  mkC (hint := hint) (ann := annOf []) (args := [.agg #[.int .i64 p_0, .int .i64 p_1, p_2.v, p_3.v], labels.v]) (rs := [.at .bool]) Try.func128 (by kernel_rfl) (by kernel_rfl) h

def V_i_Problem_node (Q : Bool → World → Prop) (p_0 : Int) (p_1 : Int) (p_2 : Sl) (p_3 : Sl) (labels : Sl) (w : World) : Prop :=
  NEW T.t_i_Problem #[.int .i64 p_0, .int .i64 p_1, p_2.v, p_3.v] w fun (p_p : Addr) w1 =>
  LD [.sl] (p_p.add 2) w1 fun (x6 : Sl) =>
  Calls Try.prog F.i_hasConfiguration #[x6.v, labels.v] w1 (Ret [.at .bool] fun (x8 : Bool) w2 =>
  Q x8 w2)

theorem C_i_Problem_node {Q : Bool → World → Prop} {p_0 : Int} {p_1 : Int} {p_2 : Sl} {p_3 : Sl} {labels : Sl} {w : World} (h : V_i_Problem_node Q p_0 p_1 p_2 p_3 labels w) : Calls Try.prog F.i_Problem_node #[.agg #[.int .i64 p_0, .int .i64 p_1, p_2.v, p_3.v], labels.v] w (Ret [.at .bool] Q) :=
  mkC (hint := hint) (ann := annOf []) (args := [.agg #[.int .i64 p_0, .int .i64 p_1, p_2.v, p_3.v], labels.v]) (rs := [.at .bool]) Try.func129 (by kernel_rfl) (by kernel_rfl) h

def V_i_Problem_edge (Q : Bool → World → Prop) (p_0 : Int) (p_1 : Int) (p_2 : Sl) (p_3 : Sl) (a : Int) (b : Int) (w : World) : Prop :=
  NEW T.t_i_Problem #[.int .i64 p_0, .int .i64 p_1, p_2.v, p_3.v] w fun (p_p : Addr) w1 =>
  LD [.sl] (p_p.add 3) w1 fun (x8 : Sl) =>
  RUN Try.prog (.at .sl) (Instr.buildSlice T.t_sl_int 2 #[(0, .int .i64 a), (1, .int .i64 b)]) w1 fun (x11 : Sl) w2 =>
  Calls Try.prog F.i_hasConfiguration #[x8.v, x11.v] w2 (Ret [.at .bool] fun (x12 : Bool) w3 =>
  Q x12 w3)

theorem C_i_Problem_edge {Q : Bool → World → Prop} {p_0 : Int} {p_1 : Int} {p_2 : Sl} {p_3 : Sl} {a : Int} {b : Int} {w : World} (h : V_i_Problem_edge Q p_0 p_1 p_2 p_3 a b w) : Calls Try.prog F.i_Problem_edge #[.agg #[.int .i64 p_0, .int .i64 p_1, p_2.v, p_3.v], .int .i64 a, .int .i64 b] w (Ret [.at .bool] Q) :=
  mkC (hint := hint) (ann := annOf []) (args := [.agg #[.int .i64 p_0, .int .i64 p_1, p_2.v, p_3.v], .int .i64 a, .int .i64 b]) (rs := [.at .bool]) Try.func130 (by kernel_rfl) (by kernel_rfl) h

def V_i_wired_k1 (degree : Int) (end1 : Value) (Q : Sl → Sl → Sl → Bool → World → Prop) (px6 : Addr) (p_n : Addr) (w7 : World) : Prop :=
  LD [.sl] (p_n.add 0) w7 fun (x25 : Sl) =>
  ∃ (I5 : Int → World → Prop) (m5 : Int → World → Nat), I5 0 w7 ∧ ∀ (x27 : Int) w8, I5 x27 w8 → ∀ _ _ _ _ _ _ _ _ _ _ _ _ _ _ _ _ _ _ _ _ _ _ _ _ _ : Value,
  cond (decide ((x27 : Int) < x25.len)) (
  ∃ (I8 : Int → World → Prop) (m8 : Int → World → Nat), I8 0 w8 ∧ ∀ (x31 : Int) w9, I8 x31 w9 → ∀ _ _ _ _ _ _ _ _ _ _ _ _ _ _ _ _ _ _ _ : Value,
  cond (decide ((x31 : Int) < degree)) (
  ∀ w10, Ext w9 w10 → w10.heap = w9.heap → ∃ (D10 : Nat → Prop),
  ¬ D10 (p_n.add 0).block ∧ (
  LD [.sl] (p_n.add 0) w10 fun (x35 : Sl) =>
  ¬ D10 (p_n.add 0).block ∧ (
  LD [.sl] (p_n.add 0) w10 fun (x38 : Sl) =>
  IX x38 x27 1 fun (px40 : Addr) =>
  ¬ D10 px40.block ∧ (
  LD [.sl] px40 w10 fun (x41 : Sl) =>
  Chg w10 w10 D10 ∧ (
  CALLV Try.prog end1 #[.int .i64 x27, .int .i64 x31] w10 (Ret [.agg [.int .i64, .int .i64]] fun (x45_0 : Int) (x45_1 : Int) w11 =>
  Chg w10 w11 D10 ∧ (
  RUN Try.prog (.at .sl) (Instr.buildSlice T.t_sl_i_End 1 #[(0, .agg #[.int .i64 x45_0, .int .i64 x45_1])]) w11 fun (x46 : Sl) w12 =>
  Chg w10 w12 D10 ∧ (
  RUN Try.prog (.at .sl) (bsem .append #[T.t_sl_i_End, T.t_sl_i_End] T.t_sl_i_End #[x41.v, x46.v]) w12 fun (x47 : Sl) w13 =>
  Chg w10 w13 D10 ∧ (
  IX x35 x27 1 fun (px48 : Addr) =>
  ST px48 0 [x47.v] w13 fun w14 =>
  I8 (IntKind.i64.wrap (x31 + 1)) w14 ∧ m8 (IntKind.i64.wrap (x31 + 1)) w14 < m8 x31 w9))))))))) (
  I5 (IntKind.i64.wrap (x27 + 1)) w9 ∧ m5 (IntKind.i64.wrap (x27 + 1)) w9 < m5 x27 w8)) (
  LD [.sl, .sl, .sl] p_n w8 fun (x51_0 : Sl) (x51_1 : Sl) (x51_2 : Sl) =>
  Calls Try.prog F.i_network #[.agg #[x51_0.v, x51_1.v, x51_2.v]] w8 (Ret [.agg [.sl, .sl, .sl], .at .bool] fun (x52_0_0 : Sl) (x52_0_1 : Sl) (x52_0_2 : Sl) (x52_1 : Bool) w15 =>
  ST px6 0 [x52_0_0.v, x52_0_1.v, x52_0_2.v] w15 fun w16 =>
  LD [.sl, .sl, .sl] px6 w16 fun (r0_0_3 : Sl) (r0_1_3 : Sl) (r0_2_3 : Sl) =>
  Q r0_0_3 r0_1_3 r0_2_3 x52_1 w16))

def V_i_wired (Q : Sl → Sl → Sl → Bool → World → Prop) (k : Int) (degree : Int) (end1 : Value) (w : World) : Prop :=
  NEW T.t_i_Network #[.slice none 0 0, .slice none 0 0, .slice none 0 0] w fun (px6 : Addr) w1 =>
  Calls Try.prog F.i_emptyNetwork #[.int .i64 k] w1 (Ret [.agg [.sl, .sl, .sl], .at .bool] fun (x14_0_0 : Sl) (x14_0_1 : Sl) (x14_0_2 : Sl) (x14_1 : Bool) w2 =>
  NEW T.t_i_Network #[.slice none 0 0, .slice none 0 0, .slice none 0 0] w2 fun (p_n : Addr) w3 =>
  ST p_n 0 [x14_0_0.v, x14_0_1.v, x14_0_2.v] w3 fun w4 =>
  cond (!x14_1) (
  ST px6 0 [.slice none 0 0, .slice none 0 0, .slice none 0 0] w4 fun w5 =>
  LD [.sl, .sl, .sl] px6 w5 fun (r0_0 : Sl) (r0_1 : Sl) (r0_2 : Sl) =>
  Q r0_0 r0_1 r0_2 false w5) (
  cond (decide ((degree : Int) > 6)) (
  ST px6 0 [.slice none 0 0, .slice none 0 0, .slice none 0 0] w4 fun w6 =>
  LD [.sl, .sl, .sl] px6 w6 fun (r0_0_2 : Sl) (r0_1_2 : Sl) (r0_2_2 : Sl) =>
  Q r0_0_2 r0_1_2 r0_2_2 false w6) (
  V_i_wired_k1 degree end1 Q px6 p_n w4)))

theorem C_i_wired {Q : Sl → Sl → Sl → Bool → World → Prop} {k : Int} {degree : Int} {end1 : Value} {w : World} (h : V_i_wired Q k degree end1 w) : Calls Try.prog F.i_wired #[.int .i64 k, .int .i64 degree, end1] w (Ret [.agg [.sl, .sl, .sl], .at .bool] Q) :=
  mkC (hint := hint) (ann := annOf [(5, ⟨[(27, .int .i64)], [10, 11, 28, 29, 30, 31, 32, 33, 34, 35, 36, 37, 38, 39, 40, 41, 42, 43, 44, 45, 46, 47, 48, 49, 50]⟩), (8, ⟨[(31, .int .i64)], [11, 32, 33, 34, 35, 36, 37, 38, 39, 40, 41, 42, 43, 44, 45, 46, 47, 48, 49]⟩)]) (args := [.int .i64 k, .int .i64 degree, end1]) (rs := [.agg [.sl, .sl, .sl], .at .bool]) Try.func131 (by kernel_rfl) (by kernel_rfl) h

def V_i_FailingNetwork_1 (Q : Int → Int → World → Prop) (v : Int) (port : Int) (cap0 : Addr) (cap1 : Addr) (w : World) : Prop :=
  NEW T.t_i_End #[.int .i64 0, .int .i64 0] w fun (px6 : Addr) w1 =>
  LD [.int .i64] cap0 w1 fun (x11 : Int) =>
  cond ((port : Int) == x11) (
  LD [.int .i64] cap1 w1 fun (x13 : Int) =>
  ST px6 0 [.int .i64 (IntKind.i64.wrap (1 - v)), .int .i64 x13] w1 fun w2 =>
  LD [.int .i64, .int .i64] px6 w2 fun (r0_0 : Int) (r0_1 : Int) =>
  Q r0_0 r0_1 w2) (
  LD [.int .i64] cap1 w1 fun (x15 : Int) =>
  cond ((port : Int) == x15) (
  LD [.int .i64] cap0 w1 fun (x17 : Int) =>
  ST px6 0 [.int .i64 (IntKind.i64.wrap (1 - v)), .int .i64 x17] w1 fun w3 =>
  LD [.int .i64, .int .i64] px6 w3 fun (r0_0_2 : Int) (r0_1_2 : Int) =>
  Q r0_0_2 r0_1_2 w3) (
  ST px6 0 [.int .i64 (IntKind.i64.wrap (1 - v)), .int .i64 port] w1 fun w4 =>
  LD [.int .i64, .int .i64] px6 w4 fun (r0_0_3 : Int) (r0_1_3 : Int) =>
  Q r0_0_3 r0_1_3 w4))

theorem C_i_FailingNetwork_1 {Q : Int → Int → World → Prop} {v : Int} {port : Int} {cap0 : Addr} {cap1 : Addr} {w : World} (h : V_i_FailingNetwork_1 Q v port cap0 cap1 w) : Calls Try.prog F.i_FailingNetwork_1 #[.int .i64 v, .int .i64 port, .pointer (some cap0), .pointer (some cap1)] w (Ret [.agg [.int .i64, .int .i64]] Q) :=
  mkC (hint := hint) (ann := annOf []) (args := [.int .i64 v, .int .i64 port, .pointer (some cap0), .pointer (some cap1)]) (rs := [.agg [.int .i64, .int .i64]]) Try.func132 (by kernel_rfl) (by kernel_rfl) h

def V_l_heldEndSS (Q : Int → World → Prop) (a : Sl) (k : Int) (w : World) : Prop :=
  ∃ (I2 : Int → Int → World → Prop) (m2 : Int → Int → World → Nat), I2 k 0 w ∧ ∀ (k_2 : Int) (i : Int) w1, I2 k_2 i w1 → ∀ _ _ _ _ _ _ _ _ _ _ _ _ _ _ _ : Value,
  cond (decide ((i : Int) < a.len)) (
  IX a i 1 fun (px14 : Addr) =>
  LD [.sl] px14 w1 fun (x15 : Sl) =>
  Calls Try.prog F.l_heldEndS #[x15.v, .int .i64 k_2] w1 (Ret [.at (.int .i64)] fun (x17 : Int) w2 =>
  cond (decide ((x17 : Int) < 0)) (
  Q (-1) w2) (
  I2 x17 (IntKind.i64.wrap (i + 1)) w2 ∧ m2 x17 (IntKind.i64.wrap (i + 1)) w2 < m2 k_2 i w1))) (
  Q k_2 w1)

theorem C_l_heldEndSS {Q : Int → World → Prop} {a : Sl} {k : Int} {w : World} (h : V_l_heldEndSS Q a k w) : Calls Try.prog F.l_heldEndSS #[a.v, .int .i64 k] w (Ret [.at (.int .i64)] Q) :=
  mkC (hint := hint) (ann := annOf [(2, ⟨[(1, .int .i64), (5, .int .i64)], [4, 6, 7, 8, 9, 10, 11, 12, 13, 14, 15, 16, 17, 18, 19]⟩)]) (args := [a.v, .int .i64 k]) (rs := [.at (.int .i64)]) Try.func133 (by kernel_rfl) (by kernel_rfl) h

def V_l_szEndS (Q : Int → World → Prop) (a : Sl) (left : Int) (w : World) : Prop :=
  cond (decide (((IntKind.i64.wrap (left - a.len)) : Int) < 0)) (
  Q (-1) w) (
  Q (IntKind.i64.wrap (left - a.len)) w)

theorem C_l_szEndS {Q : Int → World → Prop} {a : Sl} {left : Int} {w : World} (h : V_l_szEndS Q a left w) : Calls Try.prog F.l_szEndS #[a.v, .int .i64 left] w (Ret [.at (.int .i64)] Q) :=
  mkC (hint := hint) (ann := annOf []) (args := [a.v, .int .i64 left]) (rs := [.at (.int .i64)]) Try.func134 (by kernel_rfl) (by kernel_rfl) h

def V_s_neIds (Q : Bool → World → Prop) (ids : Sl) (nodes : Int) (w : World) : Prop :=
  ∃ (I2 : Int → World → Prop) (m2 : Int → World → Nat), I2 0 w ∧ ∀ (x9 : Int) w1, I2 x9 w1 → ∀ _ _ _ _ _ _ _ _ _ _ _ _ _ _ _ _ _ _ : Value,
  cond (decide ((x9 : Int) < ids.len)) (
  IX ids x9 1 fun (px12 : Addr) =>
  LD [.int .i64] px12 w1 fun (x13 : Int) =>
  Calls Try.prog F.s_l1In #[.int .i64 x13, .int .i64 1, .int .i64 999999] w1 (Ret [.at .bool] fun (x15 : Bool) w2 =>
  cond (!x15) (
  Q false w2) (
  SLC ids none (some x9) 1 fun (x20 : Sl) =>
  Calls Try.prog F.s_l1Has #[x20.v, .int .i64 x13] w2 (Ret [.at .bool] fun (x22 : Bool) w3 =>
  cond x22 (
  Q false w3) (
  I2 (IntKind.i64.wrap (x9 + 1)) w3 ∧ m2 (IntKind.i64.wrap (x9 + 1)) w3 < m2 x9 w1))))) (
  cond ((ids.len : Int) == 0) (
  Q true w1) (
  Q ((ids.len : Int) == nodes) w1))

theorem C_s_neIds {Q : Bool → World → Prop} {ids : Sl} {nodes : Int} {w : World} (h : V_s_neIds Q ids nodes w) : Calls Try.prog F.s_neIds #[ids.v, .int .i64 nodes] w (Ret [.at .bool] Q) :=
  mkC (hint := hint) (ann := annOf [(2, ⟨[(9, .int .i64)], [4, 5, 6, 10, 11, 12, 13, 14, 15, 16, 17, 18, 19, 20, 21, 22, 23, 24]⟩)]) (args := [ids.v, .int .i64 nodes]) (rs := [.at .bool]) Try.func135 (by kernel_rfl) (by kernel_rfl) h

def V_l_toEndS (Q : Sl → World → Prop) (a : Sl) (w : World) : Prop :=
  RUN Try.prog (.at .sl) (Instr.makeSlice T.t_sl_i_End (.int .i64 a.len) (.int .i64 a.len)) w fun (x7 : Sl) w1 =>
  ∃ (I3 : Int → World → Prop) (m3 : Int → World → Nat), I3 0 w1 ∧ ∀ (i : Int) w2, I3 i w2 → ∀ _ _ _ _ _ _ _ _ _ _ _ _ _ _ : Value,
  cond (decide ((i : Int) < a.len)) (
  IX a i 2 fun (px18 : Addr) =>
  LD [.int .i64, .int .i64] px18 w2 fun (x19_0 : Int) (x19_1 : Int) =>
  Calls Try.prog F.l_toEnd #[.agg #[.int .i64 x19_0, .int .i64 x19_1]] w2 (Ret [.agg [.int .i64, .int .i64]] fun (x20_0 : Int) (x20_1 : Int) w3 =>
  IX x7 i 2 fun (px21 : Addr) =>
  ST px21 0 [.int .i64 x20_0, .int .i64 x20_1] w3 fun w4 =>
  I3 (IntKind.i64.wrap (i + 1)) w4 ∧ m3 (IntKind.i64.wrap (i + 1)) w4 < m3 i w2)) (
  Q x7 w2)

theorem C_l_toEndS {Q : Sl → World → Prop} {a : Sl} {w : World} (h : V_l_toEndS Q a w) : Calls Try.prog F.l_toEndS #[a.v] w (Ret [.at .sl] Q) :=
  mkC (hint := hint) (ann := annOf [(3, ⟨[(4, .int .i64)], [8, 9, 10, 11, 12, 13, 14, 15, 16, 17, 18, 19, 20, 21]⟩)]) (args := [a.v]) (rs := [.at .sl]) Try.func136 (by kernel_rfl) (by kernel_rfl) h

def V_i_idsOk (Q : Bool → World → Prop) (ids : Sl) (nodes : Int) (w : World) : Prop :=
  cond ((ids.len : Int) == 0) (
  Q true w) (
  Calls Try.prog F.slices_Clone_sl_int_int #[ids.v] w (Ret [.at .sl] fun (x10 : Sl) w1 =>
  Calls Try.prog F.slices_Sort_sl_int_int #[x10.v] w1 (Ret [] fun w2 =>
  cond ((ids.len : Int) == nodes) (
  Calls Try.prog F.i_increasing #[x10.v, .int .i64 1, .int .i64 999999] w2 (Ret [.at .bool] fun (x19 : Bool) w3 =>
  Q x19 w3)) (
  Q false w2))))

theorem C_i_idsOk {Q : Bool → World → Prop} {ids : Sl} {nodes : Int} {w : World} (h : V_i_idsOk Q ids nodes w) : Calls Try.prog F.i_idsOk #[ids.v, .int .i64 nodes] w (Ret [.at .bool] Q) :=
  mkC (hint := hint) (ann := annOf []) (args := [ids.v, .int .i64 nodes]) (rs := [.at .bool]) Try.func137 (by kernel_rfl) (by kernel_rfl) h

def V_i_inputsOk (Q : Bool → World → Prop) (inputs : Sl) (nodes : Int) (w : World) : Prop :=
  cond ((inputs.len : Int) == nodes) (
  Calls Try.prog F.i_allWithin #[inputs.v, .int .i64 0, .int .i64 9] w (Ret [.at .bool] fun (x11 : Bool) w1 =>
  Q x11 w1)) (
  Q false w)

theorem C_i_inputsOk {Q : Bool → World → Prop} {inputs : Sl} {nodes : Int} {w : World} (h : V_i_inputsOk Q inputs nodes w) : Calls Try.prog F.i_inputsOk #[inputs.v, .int .i64 nodes] w (Ret [.at .bool] Q) :=
  mkC (hint := hint) (ann := annOf []) (args := [inputs.v, .int .i64 nodes]) (rs := [.at .bool]) Try.func138 (by kernel_rfl) (by kernel_rfl) h

def V_i_Network_hasPort (Q : Bool → World → Prop) (n_0 : Sl) (n_1 : Sl) (n_2 : Sl) (v : Int) (i : Int) (w : World) : Prop :=
  NEW T.t_i_Network #[n_0.v, n_1.v, n_2.v] w fun (p_n : Addr) w1 =>
  LD [.sl, .sl, .sl] p_n w1 fun (x7_0 : Sl) (x7_1 : Sl) (x7_2 : Sl) =>
  Calls Try.prog F.i_Network_hasNode #[.agg #[x7_0.v, x7_1.v, x7_2.v], .int .i64 v] w1 (Ret [.at .bool] fun (x9 : Bool) w2 =>
  cond x9 (
  LD [.sl] (p_n.add 0) w2 fun (x13 : Sl) =>
  IX x13 v 1 fun (px15 : Addr) =>
  LD [.sl] px15 w2 fun (x16 : Sl) =>
  Calls Try.prog F.i_within #[.int .i64 i, .int .i64 0, .int .i64 (IntKind.i64.wrap (x16.len - 1))] w2 (Ret [.at .bool] fun (x19 : Bool) w3 =>
  Q x19 w3)) (
  Q false w2))

theorem C_i_Network_hasPort {Q : Bool → World → Prop} {n_0 : Sl} {n_1 : Sl} {n_2 : Sl} {v : Int} {i : Int} {w : World} (h : V_i_Network_hasPort Q n_0 n_1 n_2 v i w) : Calls Try.prog F.i_Network_hasPort #[.agg #[n_0.v, n_1.v, n_2.v], .int .i64 v, .int .i64 i] w (Ret [.at .bool] Q) :=
  mkC (hint := hint) (ann := annOf []) (args := [.agg #[n_0.v, n_1.v, n_2.v], .int .i64 v, .int .i64 i]) (rs := [.at .bool]) Try.func139 (by kernel_rfl) (by kernel_rfl) h

def V_i_portsOk (Q : Bool → World → Prop) (n_0 : Sl) (n_1 : Sl) (n_2 : Sl) (l : Sl) (w : World) : Prop :=
  NEW T.t_i_Network #[n_0.v, n_1.v, n_2.v] w fun (p_n : Addr) w1 =>
  LD [.sl] (p_n.add 0) w1 fun (x10 : Sl) =>
  cond ((l.len : Int) != x10.len) (
  Q false w1) (
  ∃ (I4 : Int → World → Prop) (m4 : Int → World → Nat), I4 0 w1 ∧ ∀ (x15 : Int) w2, I4 x15 w2 → ∀ _ _ _ _ _ _ _ _ _ _ _ _ _ _ _ _ _ : Value,
  cond (decide ((x15 : Int) < l.len)) (
  IX l x15 1 fun (px18 : Addr) =>
  LD [.sl] px18 w2 fun (x19 : Sl) =>
  LD [.sl] (p_n.add 0) w2 fun (x23 : Sl) =>
  IX x23 x15 1 fun (px25 : Addr) =>
  LD [.sl] px25 w2 fun (x26 : Sl) =>
  cond ((x19.len : Int) != x26.len) (
  Q false w2) (
  I4 (IntKind.i64.wrap (x15 + 1)) w2 ∧ m4 (IntKind.i64.wrap (x15 + 1)) w2 < m4 x15 w2)) (
  Q true w2))

theorem C_i_portsOk {Q : Bool → World → Prop} {n_0 : Sl} {n_1 : Sl} {n_2 : Sl} {l : Sl} {w : World} (h : V_i_portsOk Q n_0 n_1 n_2 l w) : Calls Try.prog F.i_portsOk #[.agg #[n_0.v, n_1.v, n_2.v], l.v] w (Ret [.at .bool] Q) :=
  mkC (hint := hint) (ann := annOf [(4, ⟨[(15, .int .i64)], [4, 5, 6, 16, 17, 18, 19, 20, 21, 22, 23, 24, 25, 26, 27, 28, 29]⟩)]) (args := [.agg #[n_0.v, n_1.v, n_2.v], l.v]) (rs := [.at .bool]) Try.func140 (by kernel_rfl) (by kernel_rfl) h

def V_i_increasing (Q : Bool → World → Prop) (list : Sl) (low : Int) (high : Int) (w : World) : Prop :=
  ∃ (I2 : Int → World → Prop) (m2 : Int → World → Nat), I2 0 w ∧ ∀ (x11 : Int) w1, I2 x11 w1 → ∀ _ _ _ _ _ _ _ _ _ _ _ _ _ _ _ _ _ _ _ _ _ _ _ _ _ _ : Value,
  cond (decide ((x11 : Int) < list.len)) (
  IX list x11 1 fun (px14 : Addr) =>
  LD [.int .i64] px14 w1 fun (x15 : Int) =>
  Calls Try.prog F.i_within #[.int .i64 x15, .int .i64 low, .int .i64 high] w1 (Ret [.at .bool] fun (x19 : Bool) w2 =>
  cond (!x19) (
  Q false w2) (
  cond (decide ((x11 : Int) > 0)) (
  IX list (IntKind.i64.wrap (x11 - 1)) 1 fun (px28 : Addr) =>
  LD [.int .i64] px28 w2 fun (x29 : Int) =>
  cond (decide ((x29 : Int) ≥ x15)) (
  Q false w2) (
  I2 (IntKind.i64.wrap (x11 + 1)) w2 ∧ m2 (IntKind.i64.wrap (x11 + 1)) w2 < m2 x11 w1)) (
  I2 (IntKind.i64.wrap (x11 + 1)) w2 ∧ m2 (IntKind.i64.wrap (x11 + 1)) w2 < m2 x11 w1)))) (
  Q true w1)

theorem C_i_increasing {Q : Bool → World → Prop} {list : Sl} {low : Int} {high : Int} {w : World} (h : V_i_increasing Q list low high w) : Calls Try.prog F.i_increasing #[list.v, .int .i64 low, .int .i64 high] w (Ret [.at .bool] Q) :=
  mkC (hint := hint) (ann := annOf [(2, ⟨[(11, .int .i64)], [6, 7, 8, 12, 13, 14, 15, 16, 17, 18, 19, 20, 21, 22, 23, 24, 25, 26, 27, 28, 29, 30, 31, 32, 33, 34]⟩)]) (args := [list.v, .int .i64 low, .int .i64 high]) (rs := [.at .bool]) Try.func141 (by kernel_rfl) (by kernel_rfl) h

def V_slices_Sorted_int (Q : Sl → World → Prop) (seq : Value) (w : World) : Prop :=
  Calls Try.prog F.slices_Collect_int #[seq] w (Ret [.at .sl] fun (x5 : Sl) w1 =>
  Calls Try.prog F.slices_Sort_sl_int_int #[x5.v] w1 (Ret [] fun w2 =>
  Q x5 w2))

theorem C_slices_Sorted_int {Q : Sl → World → Prop} {seq : Value} {w : World} (h : V_slices_Sorted_int Q seq w) : Calls Try.prog F.slices_Sorted_int #[seq] w (Ret [.at .sl] Q) :=
  mkC (hint := hint) (ann := annOf []) (args := [seq]) (rs := [.at .sl]) Try.func142 (by kernel_rfl) (by kernel_rfl) h

def V_slices_Values_sl_int_int (Q : Value → World → Prop) (s : Sl) (w : World) : Prop :=
  NEW T.t_sl_int #[s.v] w fun (p_s : Addr) w1 =>
  Q (.func (.func F.slices_Values_sl_int_int_1) #[] #[.pointer (some p_s)]) w1

theorem C_slices_Values_sl_int_int {Q : Value → World → Prop} {s : Sl} {w : World} (h : V_slices_Values_sl_int_int Q s w) : Calls Try.prog F.slices_Values_sl_int_int #[s.v] w (Ret [.at .val] Q) :=
  mkC (hint := hint) (ann := annOf []) (args := [s.v]) (rs := [.at .val]) Try.func143 (by kernel_rfl) (by kernel_rfl) h

def V_l_eqEndS (Q : Bool → World → Prop) (a : Sl) (b : Sl) (w : World) : Prop :=
  cond ((a.len : Int) != b.len) (
  Q false w) (
  ∃ (I4 : Int → World → Prop) (m4 : Int → World → Nat), I4 0 w ∧ ∀ (i : Int) w1, I4 i w1 → ∀ _ _ _ _ _ _ _ _ _ _ _ _ _ _ _ _ _ : Value,
  cond (decide ((i : Int) < a.len)) (
  IX a i 2 fun (px19 : Addr) =>
  LD [.int .i64, .int .i64] px19 w1 fun (x20_0 : Int) (x20_1 : Int) =>
  IX b i 2 fun (px23 : Addr) =>
  LD [.int .i64, .int .i64] px23 w1 fun (x24_0 : Int) (x24_1 : Int) =>
  QCALL Try.prog F.l_eqEnd #[.agg #[.int .i64 x20_0, .int .i64 x20_1], .agg #[.int .i64 x24_0, .int .i64 x24_1]] w1 [.at .bool] fun (x25 : Bool) =>
  ∀ w2, Ext w1 w2 →
  cond (!x25) (
  Q false w2) (
  I4 (IntKind.i64.wrap (i + 1)) w2 ∧ m4 (IntKind.i64.wrap (i + 1)) w2 < m4 i w1)) (
  Q true w1))

theorem C_l_eqEndS {Q : Bool → World → Prop} {a : Sl} {b : Sl} {w : World} (h : V_l_eqEndS Q a b w) : Calls Try.prog F.l_eqEndS #[a.v, b.v] w (Ret [.at .bool] Q) :=
  mkC (hint := hint) (ann := annOf [(4, ⟨[(5, .int .i64)], [4, 11, 12, 13, 14, 15, 16, 17, 18, 19, 20, 21, 22, 23, 24, 25, 26]⟩)]) (args := [a.v, b.v]) (rs := [.at .bool]) Try.func144 (by kernel_rfl) (by kernel_rfl) h

def V_i_distancesFrom (Q : Sl → World → Prop) (n_0 : Sl) (n_1 : Sl) (n_2 : Sl) (v : Int) (w : World) : Prop :=
  NEW T.t_i_Network #[n_0.v, n_1.v, n_2.v] w fun (p_n : Addr) w1 =>
  RUN Try.prog (.at .sl) (Instr.buildSlice T.t_sl_int 1 #[(0, .int .i64 (-1))]) w1 fun (x10 : Sl) w2 =>
  LD [.sl] (p_n.add 0) w2 fun (x12 : Sl) =>
  Calls Try.prog F.slices_Repeat_sl_int_int #[x10.v, .int .i64 x12.len] w2 (Ret [.at .sl] fun (x14 : Sl) w3 =>
  IX x14 v 1 fun (px17 : Addr) =>
  ST px17 0 [.int .i64 0] w3 fun w4 =>
  RUN Try.prog (.at .sl) (Instr.buildSlice T.t_sl_int 1 #[(0, .int .i64 v)]) w4 fun (x19 : Sl) w5 =>
  ∃ (I4 : Sl → World → Prop) (m4 : Sl → World → Nat), I4 x19 w5 ∧ ∀ (queue : Sl) w6, I4 queue w6 → ∀ _ _ _ _ _ _ _ _ _ _ _ _ _ _ _ _ _ _ _ _ _ _ _ _ _ _ _ _ _ _ _ _ _ _ _ _ _ _ _ _ _ : Value,
  cond (decide ((queue.len : Int) > 0)) (
  IX queue 0 1 fun (px24 : Addr) =>
  LD [.int .i64] px24 w6 fun (x25 : Int) =>
  SLC queue (some 1) none 1 fun (x27 : Sl) =>
  LD [.sl] (p_n.add 0) w6 fun (x29 : Sl) =>
  IX x29 x25 1 fun (px31 : Addr) =>
  LD [.sl] px31 w6 fun (x32 : Sl) =>
  ∃ (I8 : Sl → Int → World → Prop) (m8 : Sl → Int → World → Nat), I8 x27 0 w6 ∧ ∀ (queue_2 : Sl) (x34 : Int) w7, I8 queue_2 x34 w7 → ∀ _ _ _ _ _ _ _ _ _ _ _ _ _ _ _ _ _ _ _ _ _ _ _ _ _ : Value,
  cond (decide ((x34 : Int) < x32.len)) (
  IX x32 x34 2 fun (px36 : Addr) =>
  LD [.int .i64, .int .i64] px36 w7 fun (x37_0 : Int) (x37_1 : Int) =>
  NEW T.t_i_End #[.int .i64 0, .int .i64 0] w7 fun (p_e : Addr) w8 =>
  ST p_e 0 [.int .i64 x37_0, .int .i64 x37_1] w8 fun w9 =>
  LD [.int .i64] (p_e.add 0) w9 fun (x40 : Int) =>
  IX x14 x40 1 fun (px41 : Addr) =>
  LD [.int .i64] px41 w9 fun (x42 : Int) =>
  cond (decide ((x42 : Int) < 0)) (
  ∀ w10, Ext w9 w10 → w10.heap = w9.heap → ∃ (D10 : Nat → Prop),
  ¬ D10 (p_e.add 0).block ∧ (
  LD [.int .i64] (p_e.add 0) w10 fun (x46 : Int) =>
  Chg w10 w10 D10 ∧ (
  IX x14 x25 1 fun (px49 : Addr) =>
  Chg w10 w10 D10 ∧ (
  LD [.int .i64] px49 w10 fun (x50 : Int) =>
  Chg w10 w10 D10 ∧ (
  Chg w10 w10 D10 ∧ (
  IX x14 x46 1 fun (px52 : Addr) =>
  ST px52 0 [.int .i64 (IntKind.i64.wrap (x50 + 1))] w10 fun w11 =>
  LD [.int .i64] (p_e.add 0) w11 fun (x55 : Int) =>
  RUN Try.prog (.at .sl) (Instr.buildSlice T.t_sl_int 1 #[(0, .int .i64 x55)]) w11 fun (x56 : Sl) w12 =>
  RUN Try.prog (.at .sl) (bsem .append #[T.t_sl_int, T.t_sl_int] T.t_sl_int #[queue_2.v, x56.v]) w12 fun (x57 : Sl) w13 =>
  I8 x57 (IntKind.i64.wrap (x34 + 1)) w13 ∧ m8 x57 (IntKind.i64.wrap (x34 + 1)) w13 < m8 queue_2 x34 w7)))))) (
  I8 queue_2 (IntKind.i64.wrap (x34 + 1)) w9 ∧ m8 queue_2 (IntKind.i64.wrap (x34 + 1)) w9 < m8 queue_2 x34 w7)) (
  I4 queue_2 w7 ∧ m4 queue_2 w7 < m4 queue w6)) (
  Q x14 w6))

theorem C_i_distancesFrom {Q : Sl → World → Prop} {n_0 : Sl} {n_1 : Sl} {n_2 : Sl} {v : Int} {w : World} (h : V_i_distancesFrom Q n_0 n_1 n_2 v w) : Calls Try.prog F.i_distancesFrom #[.agg #[n_0.v, n_1.v, n_2.v], .int .i64 v] w (Ret [.at .sl] Q) :=
  mkC (hint := hint) (ann := annOf [(4, ⟨[(6, .sl)], [7, 9, 20, 21, 22, 23, 24, 25, 26, 27, 28, 29, 30, 31, 32, 33, 34, 35, 36, 37, 38, 39, 40, 41, 42, 43, 44, 45, 46, 47, 48, 49, 50, 51, 52, 53, 54, 55, 56, 57, 58]⟩), (8, ⟨[(6, .sl), (34, .int .i64)], [9, 35, 36, 37, 38, 39, 40, 41, 42, 43, 44, 45, 46, 47, 48, 49, 50, 51, 52, 53, 54, 55, 56, 57, 58]⟩)]) (args := [.agg #[n_0.v, n_1.v, n_2.v], .int .i64 v]) (rs := [.at .sl]) Try.func145 (by kernel_rfl) (by kernel_rfl) h

def V_s_elHas (Q : Bool → World → Prop) (set1 : Int) (a : Int) (w : World) : Prop :=
  (0 : Int) ≤ a ∧ (
  (2 : Int) ≠ 0 ∧ (
  Q (((Int.tmod (shrI .i64 set1 a) 2) : Int) == 1) w))

theorem C_s_elHas {Q : Bool → World → Prop} {set1 : Int} {a : Int} {w : World} (h : V_s_elHas Q set1 a w) : Calls Try.prog F.s_elHas #[.int .i64 set1, .int .i64 a] w (Ret [.at .bool] Q) :=
  mkC (hint := hint) (ann := annOf []) (args := [.int .i64 set1, .int .i64 a]) (rs := [.at .bool]) Try.func146 (by kernel_rfl) (by kernel_rfl) h

def V_i_isCover_1 (Q : Bool → World → Prop) (e_0 : Int) (e_1 : Int) (e_2 : Int) (e_3 : Int) (cap0 : Addr) (w : World) : Prop :=
  NEW T.t_i_edge #[.int .i64 e_0, .int .i64 e_1, .int .i64 e_2, .int .i64 e_3] w fun (p_e : Addr) w1 =>
  LD [.sl] cap0 w1 fun (x4 : Sl) =>
  LD [.int .i64] (p_e.add 0) w1 fun (x6 : Int) =>
  Calls Try.prog F.slices_Contains_sl_int_int #[x4.v, .int .i64 x6] w1 (Ret [.at .bool] fun (x7 : Bool) w2 =>
  cond (!x7) (
  LD [.sl] cap0 w2 fun (x10 : Sl) =>
  LD [.int .i64] (p_e.add 2) w2 fun (x12 : Int) =>
  Calls Try.prog F.slices_Contains_sl_int_int #[x10.v, .int .i64 x12] w2 (Ret [.at .bool] fun (x13 : Bool) w3 =>
  Q (!x13) w3)) (
  Q false w2))

theorem C_i_isCover_1 {Q : Bool → World → Prop} {e_0 : Int} {e_1 : Int} {e_2 : Int} {e_3 : Int} {cap0 : Addr} {w : World} (h : V_i_isCover_1 Q e_0 e_1 e_2 e_3 cap0 w) : Calls Try.prog F.i_isCover_1 #[.agg #[.int .i64 e_0, .int .i64 e_1, .int .i64 e_2, .int .i64 e_3], .pointer (some cap0)] w (Ret [.at .bool] Q) :=
  mkC (hint := hint) (ann := annOf []) (args := [.agg #[.int .i64 e_0, .int .i64 e_1, .int .i64 e_2, .int .i64 e_3], .pointer (some cap0)]) (rs := [.at .bool]) Try.func147 (by kernel_rfl) (by kernel_rfl) h

end Go.Proofs.Ytoeaoinedidbiaa
