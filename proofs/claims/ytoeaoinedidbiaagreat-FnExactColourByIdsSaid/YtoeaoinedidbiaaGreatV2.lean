/- What each function's code computes to. Printed by a program. -/
import Derived.Test.YtoeaoinedidbiaaGreatNames
namespace Go.Proofs.YtoeaoinedidbiaaGreat
open Go.GX Go.RowKit
set_option linter.unusedVariables false
set_option maxRecDepth 100000

def V_i_Network_degrees (Q : Sl → World → Prop) (n_0 : Sl) (n_1 : Sl) (n_2 : Sl) (w : World) : Prop :=
  NEW T.t_i_Network #[n_0.v, n_1.v, n_2.v] w fun (p_n : Addr) w1 =>
  LD [.sl] (p_n.add 0) w1 fun (x7 : Sl) =>
  ∃ (I3 : Sl → Int → World → Prop) (m3 : Sl → Int → World → Nat), I3 (⟨none, 0, 0⟩) 0 w1 ∧ ∀ (out : Sl) (x9 : Int) w2, I3 out x9 w2 → ∀ _ _ _ _ _ _ _ _ _ _ : Value,
  cond (decide ((x9 : Int) < x7.len)) (
  IX x7 x9 1 fun (px11 : Addr) =>
  LD [.sl] px11 w2 fun (x12 : Sl) =>
  RUN Tryz.prog (.at .sl) (Instr.buildSlice T.t_sl_int 1 #[(0, .int .i64 x12.len)]) w2 fun (x16 : Sl) w3 =>
  RUN Tryz.prog (.at .sl) (bsem .append #[T.t_sl_int, T.t_sl_int] T.t_sl_int #[out.v, x16.v]) w3 fun (x17 : Sl) w4 =>
  I3 x17 (IntKind.i64.wrap (x9 + 1)) w4 ∧ m3 x17 (IntKind.i64.wrap (x9 + 1)) w4 < m3 out x9 w2) (
  Q out w2)

theorem C_i_Network_degrees {Q : Sl → World → Prop} {n_0 : Sl} {n_1 : Sl} {n_2 : Sl} {w : World} (h : V_i_Network_degrees Q n_0 n_1 n_2 w) : Calls Tryz.prog F.i_Network_degrees #[.agg #[n_0.v, n_1.v, n_2.v]] w (Ret [.at .sl] Q) :=
  mkC (hint := hint) (ann := annOf [(3, ⟨[(3, .sl), (9, .int .i64)], [5, 10, 11, 12, 13, 14, 15, 16, 17, 18]⟩)]) (args := [.agg #[n_0.v, n_1.v, n_2.v]]) (rs := [.at .sl]) Tryz.func80 (by kernel_rfl) (by kernel_rfl) h

def V_i_isWhole (Q : Bool → World → Prop) (n : Int) (w : World) : Prop :=
  Calls Tryz.prog F.i_within #[.int .i64 n, .int .i64 0, .int .i64 1000000000000] w (Ret [.at .bool] fun (x4 : Bool) w1 =>
  Q x4 w1)

theorem C_i_isWhole {Q : Bool → World → Prop} {n : Int} {w : World} (h : V_i_isWhole Q n w) : Calls Tryz.prog F.i_isWhole #[.int .i64 n] w (Ret [.at .bool] Q) :=
  mkC (hint := hint) (ann := annOf []) (args := [.int .i64 n]) (rs := [.at .bool]) Tryz.func81 (by kernel_rfl) (by kernel_rfl) h

def V_slices_Backward_sl_int_int (Q : Value → World → Prop) (s : Sl) (w : World) : Prop :=
  NEW T.t_sl_int #[s.v] w fun (p_s : Addr) w1 =>
  Q (.func (.func F.slices_Backward_sl_int_int_1) #[] #[.pointer (some p_s)]) w1

theorem C_slices_Backward_sl_int_int {Q : Value → World → Prop} {s : Sl} {w : World} (h : V_slices_Backward_sl_int_int Q s w) : Calls Tryz.prog F.slices_Backward_sl_int_int #[s.v] w (Ret [.at .val] Q) :=
  mkC (hint := hint) (ann := annOf []) (args := [s.v]) (rs := [.at .val]) Tryz.func82 (by kernel_rfl) (by kernel_rfl) h

def V_slices_IndexFunc_sl_i_End_i_End (Q : Int → World → Prop) (s : Sl) (f : Value) (w : World) : Prop :=
  ∃ (I2 : Int → World → Prop) (m2 : Int → World → Nat), I2 0 w ∧ ∀ (x8 : Int) w1, I2 x8 w1 → ∀ _ _ _ _ _ _ _ _ _ _ _ _ : Value,
  cond (decide ((x8 : Int) < s.len)) (
  IX s x8 2 fun (px14 : Addr) =>
  LD [.int .i64, .int .i64] px14 w1 fun (x15_0 : Int) (x15_1 : Int) =>
  CALLV Tryz.prog f #[.agg #[.int .i64 x15_0, .int .i64 x15_1]] w1 (Ret [.at .bool] fun (x16 : Bool) w2 =>
  cond x16 (
  Q x8 w2) (
  I2 (IntKind.i64.wrap (x8 + 1)) w2 ∧ m2 (IntKind.i64.wrap (x8 + 1)) w2 < m2 x8 w1))) (
  Q (-1) w1)

theorem C_slices_IndexFunc_sl_i_End_i_End {Q : Int → World → Prop} {s : Sl} {f : Value} {w : World} (h : V_slices_IndexFunc_sl_i_End_i_End Q s f w) : Calls Tryz.prog F.slices_IndexFunc_sl_i_End_i_End #[s.v, f] w (Ret [.at (.int .i64)] Q) :=
  mkC (hint := hint) (ann := annOf [(2, ⟨[(8, .int .i64)], [4, 5, 9, 10, 11, 12, 13, 14, 15, 16, 17, 18]⟩)]) (args := [s.v, f]) (rs := [.at (.int .i64)]) Tryz.func83 (by kernel_rfl) (by kernel_rfl) h

def V_slices_Contains_sl_int_int (Q : Bool → World → Prop) (s : Sl) (v : Int) (w : World) : Prop :=
  Calls Tryz.prog F.slices_Index_sl_int_int #[s.v, .int .i64 v] w (Ret [.at (.int .i64)] fun (x7 : Int) w1 =>
  Q (decide ((x7 : Int) ≥ 0)) w1)

theorem C_slices_Contains_sl_int_int {Q : Bool → World → Prop} {s : Sl} {v : Int} {w : World} (h : V_slices_Contains_sl_int_int Q s v w) : Calls Tryz.prog F.slices_Contains_sl_int_int #[s.v, .int .i64 v] w (Ret [.at .bool] Q) :=
  mkC (hint := hint) (ann := annOf []) (args := [s.v, .int .i64 v]) (rs := [.at .bool]) Tryz.func84 (by kernel_rfl) (by kernel_rfl) h

def V_l_eqEnd (Q : Bool → World → Prop) (a_0 : Int) (a_1 : Int) (b_0 : Int) (b_1 : Int) (w : World) : Prop :=
  NEW T.t_i_End #[.int .i64 a_0, .int .i64 a_1] w fun (p_a : Addr) w1 =>
  NEW T.t_i_End #[.int .i64 b_0, .int .i64 b_1] w1 fun (p_b : Addr) w2 =>
  LD [.int .i64] (p_a.add 0) w2 fun (x6 : Int) =>
  LD [.int .i64] (p_b.add 0) w2 fun (x8 : Int) =>
  cond ((x6 : Int) != x8) (
  Q false w2) (
  LD [.int .i64] (p_a.add 1) w2 fun (x11 : Int) =>
  LD [.int .i64] (p_b.add 1) w2 fun (x13 : Int) =>
  cond ((x11 : Int) != x13) (
  Q false w2) (
  Q true w2))

theorem C_l_eqEnd {Q : Bool → World → Prop} {a_0 : Int} {a_1 : Int} {b_0 : Int} {b_1 : Int} {w : World} (h : V_l_eqEnd Q a_0 a_1 b_0 b_1 w) : Calls Tryz.prog F.l_eqEnd #[.agg #[.int .i64 a_0, .int .i64 a_1], .agg #[.int .i64 b_0, .int .i64 b_1]] w (Ret [.at .bool] Q) :=
  mkC (hint := hint) (ann := annOf []) (args := [.agg #[.int .i64 a_0, .int .i64 a_1], .agg #[.int .i64 b_0, .int .i64 b_1]]) (rs := [.at .bool]) Tryz.func85 (by kernel_rfl) (by kernel_rfl) h

def V_s_nuPrime (Q : Bool → World → Prop) (n : Int) (w : World) : Prop :=
  ∃ (I2 : Int → World → Prop) (m2 : Int → World → Nat), I2 2 w ∧ ∀ (d : Int) w1, I2 d w1 → ∀ _ _ _ _ _ _ _ _ _ _ _ _ : Value,
  cond (decide (((IntKind.i64.wrap (d * d)) : Int) ≤ n)) (
  (d : Int) ≠ 0 ∧ (
  cond (((Int.tmod n d) : Int) == 0) (
  Q false w1) (
  I2 (IntKind.i64.wrap (d + 1)) w1 ∧ m2 (IntKind.i64.wrap (d + 1)) w1 < m2 d w1))) (
  Q (decide ((n : Int) > 1)) w1)

theorem C_s_nuPrime {Q : Bool → World → Prop} {n : Int} {w : World} (h : V_s_nuPrime Q n w) : Calls Tryz.prog F.s_nuPrime #[.int .i64 n] w (Ret [.at .bool] Q) :=
  mkC (hint := hint) (ann := annOf [(2, ⟨[(3, .int .i64)], [2, 4, 5, 6, 7, 8, 9, 10, 11, 12, 13, 14]⟩)]) (args := [.int .i64 n]) (rs := [.at .bool]) Tryz.func86 (by kernel_rfl) (by kernel_rfl) h

def V_s_nuDigits (Q : Sl → World → Prop) (n : Int) (base : Int) (count : Int) (w : World) : Prop :=
  RUN Tryz.prog (.at .sl) (Instr.makeSlice T.t_sl_int (.int .i64 count) (.int .i64 count)) w fun (x10 : Sl) w1 =>
  ∃ (I3 : Int → Int → World → Prop) (m3 : Int → Int → World → Nat), I3 n 0 w1 ∧ ∀ (n_2 : Int) (x13 : Int) w2, I3 n_2 x13 w2 → ∀ _ _ _ _ _ _ _ _ _ _ _ _ _ : Value,
  cond (decide ((x13 : Int) < x10.len)) (
  (base : Int) ≠ 0 ∧ (
  IX x10 x13 1 fun (px21 : Addr) =>
  ST px21 0 [.int .i64 (Int.tmod n_2 base)] w2 fun w3 =>
  (base : Int) ≠ 0 ∧ (
  I3 (IntKind.i64.wrap (Int.tdiv n_2 base)) (IntKind.i64.wrap (x13 + 1)) w3 ∧ m3 (IntKind.i64.wrap (Int.tdiv n_2 base)) (IntKind.i64.wrap (x13 + 1)) w3 < m3 n_2 x13 w2))) (
  Q x10 w2)

theorem C_s_nuDigits {Q : Sl → World → Prop} {n : Int} {base : Int} {count : Int} {w : World} (h : V_s_nuDigits Q n base count w) : Calls Tryz.prog F.s_nuDigits #[.int .i64 n, .int .i64 base, .int .i64 count] w (Ret [.at .sl] Q) :=
  mkC (hint := hint) (ann := annOf [(3, ⟨[(0, .int .i64), (13, .int .i64)], [8, 14, 15, 16, 17, 18, 19, 20, 21, 22, 23, 24, 25]⟩)]) (args := [.int .i64 n, .int .i64 base, .int .i64 count]) (rs := [.at .sl]) Tryz.func87 (by kernel_rfl) (by kernel_rfl) h

def V_s_nuValue (Q : Int → World → Prop) (q : Int) (f : Sl) (x : Int) (w : World) : Prop :=
  ∃ (I3 : Int → Int → World → Prop) (m3 : Int → Int → World → Nat), I3 0 (IntKind.i64.wrap (f.len - 1)) w ∧ ∀ (out : Int) (i : Int) w1, I3 out i w1 → ∀ _ _ _ _ _ _ _ _ _ _ _ _ _ _ : Value,
  cond (decide ((i : Int) ≥ 0)) (
  IX f i 1 fun (px21 : Addr) =>
  LD [.int .i64] px21 w1 fun (x22 : Int) =>
  (q : Int) ≠ 0 ∧ (
  I3 (Int.tmod (IntKind.i64.wrap ((IntKind.i64.wrap (out * x)) + x22)) q) (IntKind.i64.wrap (i - 1)) w1 ∧ m3 (Int.tmod (IntKind.i64.wrap ((IntKind.i64.wrap (out * x)) + x22)) q) (IntKind.i64.wrap (i - 1)) w1 < m3 out i w1)) (
  Q out w1)

theorem C_s_nuValue {Q : Int → World → Prop} {q : Int} {f : Sl} {x : Int} {w : World} (h : V_s_nuValue Q q f x w) : Calls Tryz.prog F.s_nuValue #[.int .i64 q, f.v, .int .i64 x] w (Ret [.at (.int .i64)] Q) :=
  mkC (hint := hint) (ann := annOf [(3, ⟨[(7, .int .i64), (8, .int .i64)], [12, 13, 14, 15, 16, 17, 18, 19, 20, 21, 22, 23, 24, 25]⟩)]) (args := [.int .i64 q, f.v, .int .i64 x]) (rs := [.at (.int .i64)]) Tryz.func88 (by kernel_rfl) (by kernel_rfl) h

def V_slices_IndexFunc_sl_i_edge_i_edge (Q : Int → World → Prop) (s : Sl) (f : Value) (w : World) : Prop :=
  ∃ (I2 : Int → World → Prop) (m2 : Int → World → Nat), I2 0 w ∧ ∀ (x8 : Int) w1, I2 x8 w1 → ∀ _ _ _ _ _ _ _ _ _ _ _ _ : Value,
  cond (decide ((x8 : Int) < s.len)) (
  IX s x8 4 fun (px14 : Addr) =>
  LD [.int .i64, .int .i64, .int .i64, .int .i64] px14 w1 fun (x15_0 : Int) (x15_1 : Int) (x15_2 : Int) (x15_3 : Int) =>
  CALLV Tryz.prog f #[.agg #[.int .i64 x15_0, .int .i64 x15_1, .int .i64 x15_2, .int .i64 x15_3]] w1 (Ret [.at .bool] fun (x16 : Bool) w2 =>
  cond x16 (
  Q x8 w2) (
  I2 (IntKind.i64.wrap (x8 + 1)) w2 ∧ m2 (IntKind.i64.wrap (x8 + 1)) w2 < m2 x8 w1))) (
  Q (-1) w1)

theorem C_slices_IndexFunc_sl_i_edge_i_edge {Q : Int → World → Prop} {s : Sl} {f : Value} {w : World} (h : V_slices_IndexFunc_sl_i_edge_i_edge Q s f w) : Calls Tryz.prog F.slices_IndexFunc_sl_i_edge_i_edge #[s.v, f] w (Ret [.at (.int .i64)] Q) :=
  mkC (hint := hint) (ann := annOf [(2, ⟨[(8, .int .i64)], [4, 5, 9, 10, 11, 12, 13, 14, 15, 16, 17, 18]⟩)]) (args := [s.v, f]) (rs := [.at (.int .i64)]) Tryz.func91 (by kernel_rfl) (by kernel_rfl) h

def V_slices_IndexFunc_sl_int_int (Q : Int → World → Prop) (s : Sl) (f : Value) (w : World) : Prop :=
  ∃ (I2 : Int → World → Prop) (m2 : Int → World → Nat), I2 0 w ∧ ∀ (x8 : Int) w1, I2 x8 w1 → ∀ _ _ _ _ _ _ _ _ _ _ _ _ : Value,
  cond (decide ((x8 : Int) < s.len)) (
  IX s x8 1 fun (px14 : Addr) =>
  LD [.int .i64] px14 w1 fun (x15 : Int) =>
  CALLV Tryz.prog f #[.int .i64 x15] w1 (Ret [.at .bool] fun (x16 : Bool) w2 =>
  cond x16 (
  Q x8 w2) (
  I2 (IntKind.i64.wrap (x8 + 1)) w2 ∧ m2 (IntKind.i64.wrap (x8 + 1)) w2 < m2 x8 w1))) (
  Q (-1) w1)

theorem C_slices_IndexFunc_sl_int_int {Q : Int → World → Prop} {s : Sl} {f : Value} {w : World} (h : V_slices_IndexFunc_sl_int_int Q s f w) : Calls Tryz.prog F.slices_IndexFunc_sl_int_int #[s.v, f] w (Ret [.at (.int .i64)] Q) :=
  mkC (hint := hint) (ann := annOf [(2, ⟨[(8, .int .i64)], [4, 5, 9, 10, 11, 12, 13, 14, 15, 16, 17, 18]⟩)]) (args := [s.v, f]) (rs := [.at (.int .i64)]) Tryz.func92 (by kernel_rfl) (by kernel_rfl) h

def V_slices_Backward_sl_int_int_1 (Q : World → Prop) (yield : Value) (cap0 : Addr) (w : World) : Prop :=
  LD [.sl] cap0 w fun (x4 : Sl) =>
  ∃ (I1 : Int → World → Prop) (m1 : Int → World → Nat), I1 (IntKind.i64.wrap (x4.len - 1)) w ∧ ∀ (i : Int) w1, I1 i w1 → ∀ _ _ _ _ _ _ _ _ _ _ _ _ : Value,
  cond (decide ((i : Int) ≥ 0)) (
  LD [.sl] cap0 w1 fun (x13 : Sl) =>
  IX x13 i 1 fun (px15 : Addr) =>
  LD [.int .i64] px15 w1 fun (x16 : Int) =>
  CALLV Tryz.prog yield #[.int .i64 i, .int .i64 x16] w1 (Ret [.at .bool] fun (x17 : Bool) w2 =>
  cond (!x17) (
  Q w2) (
  I1 (IntKind.i64.wrap (i - 1)) w2 ∧ m1 (IntKind.i64.wrap (i - 1)) w2 < m1 i w1))) (
  Q w1)

theorem C_slices_Backward_sl_int_int_1 {Q : World → Prop} {yield : Value} {cap0 : Addr} {w : World} (h : V_slices_Backward_sl_int_int_1 Q yield cap0 w) : Calls Tryz.prog F.slices_Backward_sl_int_int_1 #[yield, .pointer (some cap0)] w (Ret [] Q) :=
  mkC (hint := hint) (ann := annOf [(1, ⟨[(3, .int .i64)], [7, 8, 9, 10, 11, 12, 13, 14, 15, 16, 17, 18]⟩)]) (args := [yield, .pointer (some cap0)]) (rs := []) Tryz.func93 (by kernel_rfl) (by kernel_rfl) h

def V_slices_Index_sl_int_int (Q : Int → World → Prop) (s : Sl) (v : Int) (w : World) : Prop :=
  ∃ (I2 : Int → World → Prop) (m2 : Int → World → Nat), I2 0 w ∧ ∀ (x8 : Int) w1, I2 x8 w1 → ∀ _ _ _ _ _ _ _ _ _ _ _ _ : Value,
  cond (decide ((x8 : Int) < s.len)) (
  IX s x8 1 fun (px14 : Addr) =>
  LD [.int .i64] px14 w1 fun (x15 : Int) =>
  cond ((v : Int) == x15) (
  Q x8 w1) (
  I2 (IntKind.i64.wrap (x8 + 1)) w1 ∧ m2 (IntKind.i64.wrap (x8 + 1)) w1 < m2 x8 w1)) (
  Q (-1) w1)

theorem C_slices_Index_sl_int_int {Q : Int → World → Prop} {s : Sl} {v : Int} {w : World} (h : V_slices_Index_sl_int_int Q s v w) : Calls Tryz.prog F.slices_Index_sl_int_int #[s.v, .int .i64 v] w (Ret [.at (.int .i64)] Q) :=
  mkC (hint := hint) (ann := annOf [(2, ⟨[(8, .int .i64)], [4, 5, 9, 10, 11, 12, 13, 14, 15, 16, 17, 18]⟩)]) (args := [s.v, .int .i64 v]) (rs := [.at (.int .i64)]) Tryz.func94 (by kernel_rfl) (by kernel_rfl) h

end Go.Proofs.YtoeaoinedidbiaaGreat
