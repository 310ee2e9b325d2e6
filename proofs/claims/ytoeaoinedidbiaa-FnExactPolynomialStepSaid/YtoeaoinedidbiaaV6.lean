/- What each function's code computes to. Printed by a program. -/
import Derived.Test.YtoeaoinedidbiaaNames
namespace Go.Proofs.Ytoeaoinedidbiaa
open Go.GX Go.RowKit
set_option linter.unusedVariables false
set_option maxRecDepth 100000

def V_s_prSorted (Q : Sl → World → Prop) (l : Sl) (w : World) : Prop :=
  Calls Try.prog F.s_l1Own #[l.v] w (Ret [.at .sl] fun (x8 : Sl) w1 =>
  ∃ (I3 : Int → World → Prop) (m3 : Int → World → Nat), I3 0 w1 ∧ ∀ (x11 : Int) w2, I3 x11 w2 → ∀ _ _ _ _ _ _ _ _ _ _ _ _ _ _ _ _ _ _ _ _ _ _ _ _ _ _ _ _ _ _ _ _ _ _ _ _ _ _ _ _ : Value,
  cond (decide ((x11 : Int) < x8.len)) (
  ∃ (I6 : Int → World → Prop) (m6 : Int → World → Nat), I6 x11 w2 ∧ ∀ (k : Int) w3, I6 k w3 → ∀ _ _ _ _ _ _ _ _ _ _ _ _ _ _ _ _ _ _ _ _ _ _ _ _ _ _ _ _ _ _ _ _ _ _ : Value,
  cond (decide ((k : Int) > 0)) (
  IX x8 (IntKind.i64.wrap (k - 1)) 1 fun (px21 : Addr) =>
  LD [.int .i64] px21 w3 fun (x22 : Int) =>
  IX x8 k 1 fun (px25 : Addr) =>
  LD [.int .i64] px25 w3 fun (x26 : Int) =>
  ∀ w4, Ext w3 w4 →
  cond (decide ((x22 : Int) > x26)) (
  IX x8 k 1 fun (px33_2 : Addr) =>
  LD [.int .i64] px33_2 w4 fun (x34_2 : Int) =>
  IX x8 (IntKind.i64.wrap (k - 1)) 1 fun (px40_2 : Addr) =>
  LD [.int .i64] px40_2 w4 fun (x41_2 : Int) =>
  IX x8 k 1 fun (px42_2 : Addr) =>
  ST px42_2 0 [.int .i64 x41_2] w4 fun w8 =>
  IX x8 (IntKind.i64.wrap (k - 1)) 1 fun (px47_2 : Addr) =>
  ST px47_2 0 [.int .i64 x34_2] w8 fun w9 =>
  I6 (IntKind.i64.wrap (k - 1)) w9 ∧ m6 (IntKind.i64.wrap (k - 1)) w9 < m6 k w3) (
  I3 (IntKind.i64.wrap (x11 + 1)) w4 ∧ m3 (IntKind.i64.wrap (x11 + 1)) w4 < m3 x11 w2)) (
  ∀ w5, Ext w3 w5 →
  I3 (IntKind.i64.wrap (x11 + 1)) w5 ∧ m3 (IntKind.i64.wrap (x11 + 1)) w5 < m3 x11 w2)) (
  Q x8 w2))

theorem C_s_prSorted {Q : Sl → World → Prop} {l : Sl} {w : World} (h : V_s_prSorted Q l w) : Calls Try.prog F.s_prSorted #[l.v] w (Ret [.at .sl] Q) :=
  mkC (hint := hint) (ann := annOf [(3, ⟨[(11, .int .i64)], [4, 5, 6, 12, 13, 14, 15, 16, 17, 18, 19, 20, 21, 22, 23, 24, 25, 26, 27, 28, 29, 30, 31, 32, 33, 34, 35, 36, 37, 38, 39, 40, 41, 42, 43, 44, 45, 46, 47, 48]⟩), (6, ⟨[(5, .int .i64)], [6, 15, 16, 17, 18, 19, 20, 21, 22, 23, 24, 25, 26, 27, 28, 29, 30, 31, 32, 33, 34, 35, 36, 37, 38, 39, 40, 41, 42, 43, 44, 45, 46, 47]⟩)]) (args := [l.v]) (rs := [.at .sl]) Try.func188 (by kernel_rfl) (by kernel_rfl) h

def V_s_prEdge (Q : Bool → World → Prop) (p_0 : Int) (p_1 : Int) (p_2 : Sl) (p_3 : Sl) (a : Int) (b : Int) (w : World) : Prop :=
  NEW T.t_i_Problem #[.int .i64 p_0, .int .i64 p_1, p_2.v, p_3.v] w fun (p_p : Addr) w1 =>
  ∀ w2, Ext w1 w2 → w2.heap = w1.heap →
  LD [.sl] (p_p.add 3) w2 fun (x8 : Sl) =>
  Calls Try.prog F.s_l1Least #[.int .i64 a, .int .i64 b] w2 (Ret [.at (.int .i64)] fun (x11 : Int) w3 =>
  Ext w2 w3 ∧ (
  Calls Try.prog F.s_l1Most #[.int .i64 a, .int .i64 b] w3 (Ret [.at (.int .i64)] fun (x14 : Int) w4 =>
  Ext w2 w4 ∧ (
  RUN Try.prog (.at .sl) (Instr.buildSlice T.t_sl_int 2 #[(0, .int .i64 x11), (1, .int .i64 x14)]) w4 fun (x15 : Sl) w5 =>
  Ext w2 w5 ∧ (
  Calls Try.prog F.s_prHas #[x8.v, x15.v] w5 (Ret [.at .bool] fun (x16 : Bool) w6 =>
  Ext w2 w6 ∧ (
  Q x16 w6)))))))

theorem C_s_prEdge {Q : Bool → World → Prop} {p_0 : Int} {p_1 : Int} {p_2 : Sl} {p_3 : Sl} {a : Int} {b : Int} {w : World} (h : V_s_prEdge Q p_0 p_1 p_2 p_3 a b w) : Calls Try.prog F.s_prEdge #[.agg #[.int .i64 p_0, .int .i64 p_1, p_2.v, p_3.v], .int .i64 a, .int .i64 b] w (Ret [.at .bool] Q) :=
  mkC (hint := hint) (ann := annOf []) (args := [.agg #[.int .i64 p_0, .int .i64 p_1, p_2.v, p_3.v], .int .i64 a, .int .i64 b]) (rs := [.at .bool]) Try.func189 (by kernel_rfl) (by kernel_rfl) h

def V_i_configurationsOk (Q : Bool → World → Prop) (list : Sl) (size1 : Int) (labels : Int) (w : World) : Prop :=
  ∃ (I2 : Int → World → Prop) (m2 : Int → World → Nat), I2 0 w ∧ ∀ (x11 : Int) w1, I2 x11 w1 → ∀ _ _ _ _ _ _ _ _ _ _ _ _ _ _ _ _ _ _ _ _ _ _ _ _ _ _ _ _ _ _ _ _ _ _ _ _ _ _ : Value,
  cond (decide ((x11 : Int) < list.len)) (
  IX list x11 1 fun (px14 : Addr) =>
  LD [.sl] px14 w1 fun (x15 : Sl) =>
  cond ((x15.len : Int) != size1) (
  Q false w1) (
  Calls Try.prog F.slices_IsSorted_sl_int_int #[x15.v] w1 (Ret [.at .bool] fun (x22 : Bool) w2 =>
  cond (!x22) (
  Q false w2) (
  Calls Try.prog F.i_allWithin #[x15.v, .int .i64 0, .int .i64 (IntKind.i64.wrap (labels - 1))] w2 (Ret [.at .bool] fun (x29 : Bool) w3 =>
  cond (!x29) (
  Q false w3) (
  cond (decide ((x11 : Int) > 0)) (
  IX list (IntKind.i64.wrap (x11 - 1)) 1 fun (px39 : Addr) =>
  LD [.sl] px39 w3 fun (x40 : Sl) =>
  Calls Try.prog F.slices_Compare_sl_int_int #[x40.v, x15.v] w3 (Ret [.at (.int .i64)] fun (x42 : Int) w4 =>
  cond (decide ((x42 : Int) ≥ 0)) (
  Q false w4) (
  I2 (IntKind.i64.wrap (x11 + 1)) w4 ∧ m2 (IntKind.i64.wrap (x11 + 1)) w4 < m2 x11 w1))) (
  I2 (IntKind.i64.wrap (x11 + 1)) w3 ∧ m2 (IntKind.i64.wrap (x11 + 1)) w3 < m2 x11 w1))))))) (
  Q true w1)

theorem C_i_configurationsOk {Q : Bool → World → Prop} {list : Sl} {size1 : Int} {labels : Int} {w : World} (h : V_i_configurationsOk Q list size1 labels w) : Calls Try.prog F.i_configurationsOk #[list.v, .int .i64 size1, .int .i64 labels] w (Ret [.at .bool] Q) :=
  mkC (hint := hint) (ann := annOf [(2, ⟨[(11, .int .i64)], [6, 7, 8, 12, 13, 14, 15, 16, 17, 18, 19, 20, 21, 22, 23, 24, 25, 26, 27, 28, 29, 30, 31, 32, 33, 34, 35, 36, 37, 38, 39, 40, 41, 42, 43, 44, 45, 46]⟩)]) (args := [list.v, .int .i64 size1, .int .i64 labels]) (rs := [.at .bool]) Try.func190 (by kernel_rfl) (by kernel_rfl) h

def V_i_hasConfiguration (Q : Bool → World → Prop) (list : Sl) (labels : Sl) (w : World) : Prop :=
  Calls Try.prog F.slices_Values_sl_int_int #[labels.v] w (Ret [.at .val] fun (x10 : Value) w1 =>
  Calls Try.prog F.slices_Sorted_int #[x10] w1 (Ret [.at .sl] fun (x11 : Sl) w2 =>
  Calls Try.prog F.slices_BinarySearchFunc_sl_sl_int_sl_int_sl_int #[list.v, x11.v, .func (.func F.slices_Compare_sl_int_int) #[] #[]] w2 (Ret [.at (.int .i64), .at .bool] fun (x12_0 : Int) (x12_1 : Bool) w3 =>
  Q x12_1 w3)))

theorem C_i_hasConfiguration {Q : Bool → World → Prop} {list : Sl} {labels : Sl} {w : World} (h : V_i_hasConfiguration Q list labels w) : Calls Try.prog F.i_hasConfiguration #[list.v, labels.v] w (Ret [.at .bool] Q) :=
  mkC (hint := hint) (ann := annOf []) (args := [list.v, labels.v]) (rs := [.at .bool]) Try.func191 (by kernel_rfl) (by kernel_rfl) h

def V_i_emptyNetwork (Q : Sl → Sl → Sl → Bool → World → Prop) (k : Int) (w : World) : Prop :=
  NEW T.t_i_Network #[.slice none 0 0, .slice none 0 0, .slice none 0 0] w fun (px2 : Addr) w1 =>
  Calls Try.prog F.i_within #[.int .i64 k, .int .i64 1, .int .i64 40] w1 (Ret [.at .bool] fun (x5 : Bool) w2 =>
  cond (!x5) (
  ST px2 0 [.slice none 0 0, .slice none 0 0, .slice none 0 0] w2 fun w3 =>
  LD [.sl, .sl, .sl] px2 w3 fun (r0_0 : Sl) (r0_1 : Sl) (r0_2 : Sl) =>
  Q r0_0 r0_1 r0_2 false w3) (
  ∀ w4, Ext w2 w4 → w4.heap = w2.heap → ∃ (D4 : Nat → Prop),
  (
  RUN Try.prog (.at .sl) (Instr.makeSlice T.t_sl_sl_i_End (.int .i64 k) (.int .i64 k)) w4 fun (x9 : Sl) w5 =>
  Chg w4 w5 D4 ∧ (
  RUN Try.prog (.at .sl) (Instr.makeSlice T.t_sl_int (.int .i64 k) (.int .i64 k)) w5 fun (x11 : Sl) w6 =>
  Chg w4 w6 D4 ∧ (
  Chg w4 w6 D4 ∧ (
  ST px2 0 [x9.v, .slice none 0 0, x11.v] w6 fun w7 =>
  Chg w4 w7 D4 ∧ (
  Chg w4 w7 D4 ∧ (
  LD [.sl, .sl, .sl] px2 w7 fun (r0_0_2 : Sl) (r0_1_2 : Sl) (r0_2_2 : Sl) =>
  Q r0_0_2 r0_1_2 r0_2_2 true w7)))))) ∧ (
  RUN Try.prog (.at .sl) (Instr.makeSlice T.t_sl_int (.int .i64 k) (.int .i64 k)) w4 fun (x11_2 : Sl) w8 =>
  Chg w4 w8 D4 ∧ (
  RUN Try.prog (.at .sl) (Instr.makeSlice T.t_sl_sl_i_End (.int .i64 k) (.int .i64 k)) w8 fun (x9_2 : Sl) w9 =>
  Chg w4 w9 D4 ∧ (
  Chg w4 w9 D4 ∧ (
  ST px2 0 [x9_2.v, .slice none 0 0, x11_2.v] w9 fun w10 =>
  Chg w4 w10 D4 ∧ (
  Chg w4 w10 D4 ∧ (
  LD [.sl, .sl, .sl] px2 w10 fun (r0_0_3 : Sl) (r0_1_3 : Sl) (r0_2_3 : Sl) =>
  Q r0_0_3 r0_1_3 r0_2_3 true w10))))))))

theorem C_i_emptyNetwork {Q : Sl → Sl → Sl → Bool → World → Prop} {k : Int} {w : World} (h : V_i_emptyNetwork Q k w) : Calls Try.prog F.i_emptyNetwork #[.int .i64 k] w (Ret [.agg [.sl, .sl, .sl], .at .bool] Q) :=
  mkC (hint := hint) (ann := annOf []) (args := [.int .i64 k]) (rs := [.agg [.sl, .sl, .sl], .at .bool]) Try.func192 (by kernel_rfl) (by kernel_rfl) h

def V_l_heldEndS (Q : Int → World → Prop) (a : Sl) (k : Int) (w : World) : Prop :=
  ∃ (I2 : Int → Int → World → Prop) (m2 : Int → Int → World → Nat), I2 k 0 w ∧ ∀ (k_2 : Int) (i : Int) w1, I2 k_2 i w1 → ∀ _ _ _ _ _ _ _ _ _ _ _ _ _ _ _ _ _ _ _ _ _ _ _ _ _ : Value,
  cond (decide ((i : Int) < a.len)) (
  IX a i 2 fun (px14 : Addr) =>
  LD [.int .i64] (px14.add 0) w1 fun (x16 : Int) =>
  cond ((x16 : Int) != k_2) (
  Q (-1) w1) (
  IX a i 2 fun (px23 : Addr) =>
  LD [.int .i64] (px23.add 1) w1 fun (x25 : Int) =>
  cond ((x25 : Int) != (IntKind.i64.wrap (k_2 + 1))) (
  Q (-1) w1) (
  I2 (IntKind.i64.wrap ((IntKind.i64.wrap (k_2 + 1)) + 1)) (IntKind.i64.wrap (i + 1)) w1 ∧ m2 (IntKind.i64.wrap ((IntKind.i64.wrap (k_2 + 1)) + 1)) (IntKind.i64.wrap (i + 1)) w1 < m2 k_2 i w1))) (
  Q k_2 w1)

theorem C_l_heldEndS {Q : Int → World → Prop} {a : Sl} {k : Int} {w : World} (h : V_l_heldEndS Q a k w) : Calls Try.prog F.l_heldEndS #[a.v, .int .i64 k] w (Ret [.at (.int .i64)] Q) :=
  mkC (hint := hint) (ann := annOf [(2, ⟨[(1, .int .i64), (5, .int .i64)], [4, 6, 7, 8, 9, 10, 11, 12, 13, 14, 15, 16, 17, 18, 19, 20, 21, 22, 23, 24, 25, 26, 27, 28, 29]⟩)]) (args := [a.v, .int .i64 k]) (rs := [.at (.int .i64)]) Try.func193 (by kernel_rfl) (by kernel_rfl) h

def V_l_toEnd (Q : Int → Int → World → Prop) (a_0 : Int) (a_1 : Int) (w : World) : Prop :=
  NEW T.t_l_End #[.int .i64 a_0, .int .i64 a_1] w fun (p_a : Addr) w1 =>
  NEW T.t_i_End #[.int .i64 0, .int .i64 0] w1 fun (px2 : Addr) w2 =>
  NEW T.t_i_End #[.int .i64 0, .int .i64 0] w2 fun (p_out : Addr) w3 =>
  LD [.int .i64] (p_a.add 0) w3 fun (x5 : Int) =>
  ST (p_out.add 0) 0 [.int .i64 x5] w3 fun w4 =>
  LD [.int .i64] (p_a.add 1) w4 fun (x8 : Int) =>
  ST (p_out.add 1) 0 [.int .i64 x8] w4 fun w5 =>
  LD [.int .i64, .int .i64] p_out w5 fun (x10_0 : Int) (x10_1 : Int) =>
  ST px2 0 [.int .i64 x10_0, .int .i64 x10_1] w5 fun w6 =>
  LD [.int .i64, .int .i64] px2 w6 fun (r0_0 : Int) (r0_1 : Int) =>
  Q r0_0 r0_1 w6

theorem C_l_toEnd {Q : Int → Int → World → Prop} {a_0 : Int} {a_1 : Int} {w : World} (h : V_l_toEnd Q a_0 a_1 w) : Calls Try.prog F.l_toEnd #[.agg #[.int .i64 a_0, .int .i64 a_1]] w (Ret [.agg [.int .i64, .int .i64]] Q) :=
  mkC (hint := hint) (ann := annOf []) (args := [.agg #[.int .i64 a_0, .int .i64 a_1]]) (rs := [.agg [.int .i64, .int .i64]]) Try.func194 (by kernel_rfl) (by kernel_rfl) h

def V_slices_Clone_sl_int_int (Q : Sl → World → Prop) (s : Sl) (w : World) : Prop :=
  cond s.a.isNone (
  Q (⟨none, 0, 0⟩) w) (
  RUN Try.prog (.at .sl) (Instr.buildSlice T.t_sl_int 0 #[]) w fun (x5 : Sl) w1 =>
  RUN Try.prog (.at .sl) (bsem .append #[T.t_sl_int, T.t_sl_int] T.t_sl_int #[x5.v, s.v]) w1 fun (x7 : Sl) w2 =>
  Q x7 w2)

theorem C_slices_Clone_sl_int_int {Q : Sl → World → Prop} {s : Sl} {w : World} (h : V_slices_Clone_sl_int_int Q s w) : Calls Try.prog F.slices_Clone_sl_int_int #[s.v] w (Ret [.at .sl] Q) :=
  mkC (hint := hint) (ann := annOf []) (args := [s.v]) (rs := [.at .sl]) Try.func195 (by kernel_rfl) (by kernel_rfl) h

def V_i_Network_hasNode (Q : Bool → World → Prop) (n_0 : Sl) (n_1 : Sl) (n_2 : Sl) (v : Int) (w : World) : Prop :=
  NEW T.t_i_Network #[n_0.v, n_1.v, n_2.v] w fun (p_n : Addr) w1 =>
  LD [.sl] (p_n.add 0) w1 fun (x7 : Sl) =>
  Calls Try.prog F.i_within #[.int .i64 v, .int .i64 0, .int .i64 (IntKind.i64.wrap (x7.len - 1))] w1 (Ret [.at .bool] fun (x10 : Bool) w2 =>
  Q x10 w2)

theorem C_i_Network_hasNode {Q : Bool → World → Prop} {n_0 : Sl} {n_1 : Sl} {n_2 : Sl} {v : Int} {w : World} (h : V_i_Network_hasNode Q n_0 n_1 n_2 v w) : Calls Try.prog F.i_Network_hasNode #[.agg #[n_0.v, n_1.v, n_2.v], .int .i64 v] w (Ret [.at .bool] Q) :=
  mkC (hint := hint) (ann := annOf []) (args := [.agg #[n_0.v, n_1.v, n_2.v], .int .i64 v]) (rs := [.at .bool]) Try.func196 (by kernel_rfl) (by kernel_rfl) h

def V_slices_Collect_int (Q : Sl → World → Prop) (seq : Value) (w : World) : Prop :=
  Calls Try.prog F.slices_AppendSeq_sl_int_int #[.slice none 0 0, seq] w (Ret [.at .sl] fun (x4 : Sl) w1 =>
  Q x4 w1)

theorem C_slices_Collect_int {Q : Sl → World → Prop} {seq : Value} {w : World} (h : V_slices_Collect_int Q seq w) : Calls Try.prog F.slices_Collect_int #[seq] w (Ret [.at .sl] Q) :=
  mkC (hint := hint) (ann := annOf []) (args := [seq]) (rs := [.at .sl]) Try.func197 (by kernel_rfl) (by kernel_rfl) h

def V_slices_Values_sl_int_int_1 (Q : World → Prop) (yield : Value) (cap0 : Addr) (w : World) : Prop :=
  LD [.sl] cap0 w fun (x5 : Sl) =>
  ∃ (I1 : Int → World → Prop) (m1 : Int → World → Nat), I1 0 w ∧ ∀ (x7 : Int) w1, I1 x7 w1 → ∀ _ _ _ _ _ _ _ _ _ : Value,
  cond (decide ((x7 : Int) < x5.len)) (
  IX x5 x7 1 fun (px9 : Addr) =>
  LD [.int .i64] px9 w1 fun (x10 : Int) =>
  CALLV Try.prog yield #[.int .i64 x10] w1 (Ret [.at .bool] fun (x13 : Bool) w2 =>
  cond (!x13) (
  Q w2) (
  I1 (IntKind.i64.wrap (x7 + 1)) w2 ∧ m1 (IntKind.i64.wrap (x7 + 1)) w2 < m1 x7 w1))) (
  Q w1)

theorem C_slices_Values_sl_int_int_1 {Q : World → Prop} {yield : Value} {cap0 : Addr} {w : World} (h : V_slices_Values_sl_int_int_1 Q yield cap0 w) : Calls Try.prog F.slices_Values_sl_int_int_1 #[yield, .pointer (some cap0)] w (Ret [] Q) :=
  mkC (hint := hint) (ann := annOf [(1, ⟨[(7, .int .i64)], [4, 8, 9, 10, 11, 12, 13, 14, 15]⟩)]) (args := [yield, .pointer (some cap0)]) (rs := []) Try.func198 (by kernel_rfl) (by kernel_rfl) h

def V_l_eqEnd (Q : Bool → World → Prop) (a_0 : Int) (a_1 : Int) (b_0 : Int) (b_1 : Int) (w : World) : Prop :=
  NEW T.t_i_End #[.int .i64 a_0, .int .i64 a_1] w fun (p_a : Addr) w1 =>
  NEW T.t_i_End #[.int .i64 b_0, .int .i64 b_1] w1 fun (p_b : Addr) w2 =>
  LD [.int .i64] (p_a.add 0) w2 fun (x6 : Int) =>
  LD [.int .i64] (p_b.add 0) w2 fun (x8 : Int) =>
  cond ((x6 : Int) != x8) (
  Q false w2) (
  LD [.int .i64] (p_a.add 1) w2 fun (x11 : Int) =>
  LD [.int .i64] (p_b.add 1) w2 fun (x13 : Int) =>
  cond ((x11 : Int) != x13) (
  Q false w2) (
  Q true w2))

theorem C_l_eqEnd {Q : Bool → World → Prop} {a_0 : Int} {a_1 : Int} {b_0 : Int} {b_1 : Int} {w : World} (h : V_l_eqEnd Q a_0 a_1 b_0 b_1 w) : Calls Try.prog F.l_eqEnd #[.agg #[.int .i64 a_0, .int .i64 a_1], .agg #[.int .i64 b_0, .int .i64 b_1]] w (Ret [.at .bool] Q) :=
  mkC (hint := hint) (ann := annOf []) (args := [.agg #[.int .i64 a_0, .int .i64 a_1], .agg #[.int .i64 b_0, .int .i64 b_1]]) (rs := [.at .bool]) Try.func199 (by kernel_rfl) (by kernel_rfl) h

def V_s_mtFree (Q : Sl → World → Prop) (n_0 : Sl) (n_1 : Sl) (n_2 : Sl) (w : World) : Prop :=
  NEW T.t_i_Network #[n_0.v, n_1.v, n_2.v] w fun (p_n : Addr) w1 =>
  LD [.sl] (p_n.add 0) w1 fun (x4 : Sl) =>
  Calls Try.prog F.s_roFree #[.int .i64 x4.len] w1 (Ret [.at .sl] fun (x6 : Sl) w2 =>
  Q x6 w2)

theorem C_s_mtFree {Q : Sl → World → Prop} {n_0 : Sl} {n_1 : Sl} {n_2 : Sl} {w : World} (h : V_s_mtFree Q n_0 n_1 n_2 w) : Calls Try.prog F.s_mtFree #[.agg #[n_0.v, n_1.v, n_2.v]] w (Ret [.at .sl] Q) :=
  mkC (hint := hint) (ann := annOf []) (args := [.agg #[n_0.v, n_1.v, n_2.v]]) (rs := [.at .sl]) Try.func200 (by kernel_rfl) (by kernel_rfl) h

def V_s_mtTake (Q : Sl → World → Prop) (n_0 : Sl) (n_1 : Sl) (n_2 : Sl) (m : Sl) (v : Int) (i : Int) (w : World) : Prop :=
  NEW T.t_i_Network #[n_0.v, n_1.v, n_2.v] w fun (p_n : Addr) w1 =>
  Calls Try.prog F.s_l1Own #[m.v] w1 (Ret [.at .sl] fun (x11 : Sl) w2 =>
  IX x11 v 1 fun (px15 : Addr) =>
  ST px15 0 [.int .i64 i] w2 fun w3 =>
  ∀ w4, Ext w3 w4 → w4.heap = w3.heap → ∃ (D4 : Nat → Prop),
  ¬ D4 (p_n.add 0).block ∧ (
  LD [.sl] (p_n.add 0) w4 fun (x18 : Sl) =>
  IX x18 v 1 fun (px20 : Addr) =>
  ¬ D4 px20.block ∧ (
  LD [.sl] px20 w4 fun (x21 : Sl) =>
  IX x21 i 2 fun (px23 : Addr) =>
  ¬ D4 (px23.add 0).block ∧ (
  LD [.int .i64] (px23.add 0) w4 fun (x25 : Int) =>
  ¬ D4 (p_n.add 0).block ∧ (
  LD [.sl] (p_n.add 0) w4 fun (x27 : Sl) =>
  IX x27 v 1 fun (px29 : Addr) =>
  ¬ D4 px29.block ∧ (
  LD [.sl] px29 w4 fun (x30 : Sl) =>
  Chg w4 w4 D4 ∧ (
  IX x30 i 2 fun (px32 : Addr) =>
  Chg w4 w4 D4 ∧ (
  Chg w4 w4 D4 ∧ (
  LD [.int .i64] (px32.add 1) w4 fun (x34 : Int) =>
  Chg w4 w4 D4 ∧ (
  IX x11 x25 1 fun (px35 : Addr) =>
  ST px35 0 [.int .i64 x34] w4 fun w5 =>
  Q x11 w5))))))))))

theorem C_s_mtTake {Q : Sl → World → Prop} {n_0 : Sl} {n_1 : Sl} {n_2 : Sl} {m : Sl} {v : Int} {i : Int} {w : World} (h : V_s_mtTake Q n_0 n_1 n_2 m v i w) : Calls Try.prog F.s_mtTake #[.agg #[n_0.v, n_1.v, n_2.v], m.v, .int .i64 v, .int .i64 i] w (Ret [.at .sl] Q) :=
  mkC (hint := hint) (ann := annOf []) (args := [.agg #[n_0.v, n_1.v, n_2.v], m.v, .int .i64 v, .int .i64 i]) (rs := [.at .sl]) Try.func201 (by kernel_rfl) (by kernel_rfl) h

def V_math_bits_Mul32 (Q : Int → Int → World → Prop) (x : Int) (y : Int) (w : World) : Prop :=
  (0 : Int) ≤ 32 ∧ (
  Q (IntKind.u32.wrap (shrI .u64 (IntKind.u64.wrap ((IntKind.u64.wrap x) * (IntKind.u64.wrap y))) 32)) (IntKind.u32.wrap (IntKind.u64.wrap ((IntKind.u64.wrap x) * (IntKind.u64.wrap y)))) w)

theorem C_math_bits_Mul32 {Q : Int → Int → World → Prop} {x : Int} {y : Int} {w : World} (h : V_math_bits_Mul32 Q x y w) : Calls Try.prog F.math_bits_Mul32 #[.int .u32 x, .int .u32 y] w (Ret [.at (.int .u32), .at (.int .u32)] Q) :=
  mkC (hint := hint) (ann := annOf []) (args := [.int .u32 x, .int .u32 y]) (rs := [.at (.int .u32), .at (.int .u32)]) Try.func202 (by kernel_rfl) (by kernel_rfl) h

def V_math_bits_Mul64 (Q : Int → Int → World → Prop) (x : Int) (y : Int) (w : World) : Prop :=
  (0 : Int) ≤ 32 ∧ (
  (0 : Int) ≤ 32 ∧ (
  (0 : Int) ≤ 32 ∧ (
  (0 : Int) ≤ 32 ∧ (
  (0 : Int) ≤ 32 ∧ (
  Q (IntKind.u64.wrap ((IntKind.u64.wrap ((IntKind.u64.wrap ((shrI .u64 x 32) * (shrI .u64 y 32))) + (shrI .u64 (IntKind.u64.wrap ((IntKind.u64.wrap ((shrI .u64 x 32) * (bitAnd .u64 y 4294967295))) + (shrI .u64 (IntKind.u64.wrap ((bitAnd .u64 x 4294967295) * (bitAnd .u64 y 4294967295))) 32))) 32))) + (shrI .u64 (IntKind.u64.wrap ((bitAnd .u64 (IntKind.u64.wrap ((IntKind.u64.wrap ((shrI .u64 x 32) * (bitAnd .u64 y 4294967295))) + (shrI .u64 (IntKind.u64.wrap ((bitAnd .u64 x 4294967295) * (bitAnd .u64 y 4294967295))) 32))) 4294967295) + (IntKind.u64.wrap ((bitAnd .u64 x 4294967295) * (shrI .u64 y 32))))) 32))) (IntKind.u64.wrap (x * y)) w)))))

theorem C_math_bits_Mul64 {Q : Int → Int → World → Prop} {x : Int} {y : Int} {w : World} (h : V_math_bits_Mul64 Q x y w) : Calls Try.prog F.math_bits_Mul64 #[.int .u64 x, .int .u64 y] w (Ret [.at (.int .u64), .at (.int .u64)] Q) :=
  mkC (hint := hint) (ann := annOf []) (args := [.int .u64 x, .int .u64 y]) (rs := [.at (.int .u64), .at (.int .u64)]) Try.func203 (by kernel_rfl) (by kernel_rfl) h

def V_s_nuPrime (Q : Bool → World → Prop) (n : Int) (w : World) : Prop :=
  ∃ (I2 : Int → World → Prop) (m2 : Int → World → Nat), I2 2 w ∧ ∀ (d : Int) w1, I2 d w1 → ∀ _ _ _ _ _ _ _ _ _ _ _ _ : Value,
  cond (decide (((IntKind.i64.wrap (d * d)) : Int) ≤ n)) (
  (d : Int) ≠ 0 ∧ (
  cond (((Int.tmod n d) : Int) == 0) (
  Q false w1) (
  I2 (IntKind.i64.wrap (d + 1)) w1 ∧ m2 (IntKind.i64.wrap (d + 1)) w1 < m2 d w1))) (
  Q (decide ((n : Int) > 1)) w1)

theorem C_s_nuPrime {Q : Bool → World → Prop} {n : Int} {w : World} (h : V_s_nuPrime Q n w) : Calls Try.prog F.s_nuPrime #[.int .i64 n] w (Ret [.at .bool] Q) :=
  mkC (hint := hint) (ann := annOf [(2, ⟨[(3, .int .i64)], [2, 4, 5, 6, 7, 8, 9, 10, 11, 12, 13, 14]⟩)]) (args := [.int .i64 n]) (rs := [.at .bool]) Try.func204 (by kernel_rfl) (by kernel_rfl) h

def V_s_nuDigits (Q : Sl → World → Prop) (n : Int) (base : Int) (count : Int) (w : World) : Prop :=
  RUN Try.prog (.at .sl) (Instr.makeSlice T.t_sl_int (.int .i64 count) (.int .i64 count)) w fun (x10 : Sl) w1 =>
  ∃ (I3 : Int → Int → World → Prop) (m3 : Int → Int → World → Nat), I3 n 0 w1 ∧ ∀ (n_2 : Int) (x13 : Int) w2, I3 n_2 x13 w2 → ∀ _ _ _ _ _ _ _ _ _ _ _ _ _ : Value,
  cond (decide ((x13 : Int) < x10.len)) (
  (base : Int) ≠ 0 ∧ (
  IX x10 x13 1 fun (px21 : Addr) =>
  ST px21 0 [.int .i64 (Int.tmod n_2 base)] w2 fun w3 =>
  (base : Int) ≠ 0 ∧ (
  I3 (IntKind.i64.wrap (Int.tdiv n_2 base)) (IntKind.i64.wrap (x13 + 1)) w3 ∧ m3 (IntKind.i64.wrap (Int.tdiv n_2 base)) (IntKind.i64.wrap (x13 + 1)) w3 < m3 n_2 x13 w2))) (
  Q x10 w2)

theorem C_s_nuDigits {Q : Sl → World → Prop} {n : Int} {base : Int} {count : Int} {w : World} (h : V_s_nuDigits Q n base count w) : Calls Try.prog F.s_nuDigits #[.int .i64 n, .int .i64 base, .int .i64 count] w (Ret [.at .sl] Q) :=
  mkC (hint := hint) (ann := annOf [(3, ⟨[(0, .int .i64), (13, .int .i64)], [8, 14, 15, 16, 17, 18, 19, 20, 21, 22, 23, 24, 25]⟩)]) (args := [.int .i64 n, .int .i64 base, .int .i64 count]) (rs := [.at .sl]) Try.func205 (by kernel_rfl) (by kernel_rfl) h

def V_s_nuValue (Q : Int → World → Prop) (q : Int) (f : Sl) (x : Int) (w : World) : Prop :=
  ∃ (I3 : Int → Int → World → Prop) (m3 : Int → Int → World → Nat), I3 0 (IntKind.i64.wrap (f.len - 1)) w ∧ ∀ (out : Int) (i : Int) w1, I3 out i w1 → ∀ _ _ _ _ _ _ _ _ _ _ _ _ _ _ : Value,
  cond (decide ((i : Int) ≥ 0)) (
  IX f i 1 fun (px21 : Addr) =>
  LD [.int .i64] px21 w1 fun (x22 : Int) =>
  (q : Int) ≠ 0 ∧ (
  I3 (Int.tmod (IntKind.i64.wrap ((IntKind.i64.wrap (out * x)) + x22)) q) (IntKind.i64.wrap (i - 1)) w1 ∧ m3 (Int.tmod (IntKind.i64.wrap ((IntKind.i64.wrap (out * x)) + x22)) q) (IntKind.i64.wrap (i - 1)) w1 < m3 out i w1)) (
  Q out w1)

theorem C_s_nuValue {Q : Int → World → Prop} {q : Int} {f : Sl} {x : Int} {w : World} (h : V_s_nuValue Q q f x w) : Calls Try.prog F.s_nuValue #[.int .i64 q, f.v, .int .i64 x] w (Ret [.at (.int .i64)] Q) :=
  mkC (hint := hint) (ann := annOf [(3, ⟨[(7, .int .i64), (8, .int .i64)], [12, 13, 14, 15, 16, 17, 18, 19, 20, 21, 22, 23, 24, 25]⟩)]) (args := [.int .i64 q, f.v, .int .i64 x]) (rs := [.at (.int .i64)]) Try.func206 (by kernel_rfl) (by kernel_rfl) h

def V_i_Network_degrees (Q : Sl → World → Prop) (n_0 : Sl) (n_1 : Sl) (n_2 : Sl) (w : World) : Prop :=
  NEW T.t_i_Network #[n_0.v, n_1.v, n_2.v] w fun (p_n : Addr) w1 =>
  LD [.sl] (p_n.add 0) w1 fun (x7 : Sl) =>
  ∃ (I3 : Sl → Int → World → Prop) (m3 : Sl → Int → World → Nat), I3 (⟨none, 0, 0⟩) 0 w1 ∧ ∀ (out : Sl) (x9 : Int) w2, I3 out x9 w2 → ∀ _ _ _ _ _ _ _ _ _ _ : Value,
  cond (decide ((x9 : Int) < x7.len)) (
  IX x7 x9 1 fun (px11 : Addr) =>
  LD [.sl] px11 w2 fun (x12 : Sl) =>
  RUN Try.prog (.at .sl) (Instr.buildSlice T.t_sl_int 1 #[(0, .int .i64 x12.len)]) w2 fun (x16 : Sl) w3 =>
  RUN Try.prog (.at .sl) (bsem .append #[T.t_sl_int, T.t_sl_int] T.t_sl_int #[out.v, x16.v]) w3 fun (x17 : Sl) w4 =>
  I3 x17 (IntKind.i64.wrap (x9 + 1)) w4 ∧ m3 x17 (IntKind.i64.wrap (x9 + 1)) w4 < m3 out x9 w2) (
  Q out w2)

theorem C_i_Network_degrees {Q : Sl → World → Prop} {n_0 : Sl} {n_1 : Sl} {n_2 : Sl} {w : World} (h : V_i_Network_degrees Q n_0 n_1 n_2 w) : Calls Try.prog F.i_Network_degrees #[.agg #[n_0.v, n_1.v, n_2.v]] w (Ret [.at .sl] Q) :=
  mkC (hint := hint) (ann := annOf [(3, ⟨[(3, .sl), (9, .int .i64)], [5, 10, 11, 12, 13, 14, 15, 16, 17, 18]⟩)]) (args := [.agg #[n_0.v, n_1.v, n_2.v]]) (rs := [.at .sl]) Try.func207 (by kernel_rfl) (by kernel_rfl) h

def V_i_isPrime (Q : Bool → World → Prop) (n : Int) (w : World) : Prop :=
  ∃ (I2 : Int → World → Prop) (m2 : Int → World → Nat), I2 2 w ∧ ∀ (d : Int) w1, I2 d w1 → ∀ _ _ _ _ _ _ _ _ _ _ _ _ : Value,
  cond (decide (((IntKind.i64.wrap (d * d)) : Int) ≤ n)) (
  (d : Int) ≠ 0 ∧ (
  cond (((Int.tmod n d) : Int) == 0) (
  Q false w1) (
  I2 (IntKind.i64.wrap (d + 1)) w1 ∧ m2 (IntKind.i64.wrap (d + 1)) w1 < m2 d w1))) (
  Q (decide ((n : Int) > 1)) w1)

theorem C_i_isPrime {Q : Bool → World → Prop} {n : Int} {w : World} (h : V_i_isPrime Q n w) : Calls Try.prog F.i_isPrime #[.int .i64 n] w (Ret [.at .bool] Q) :=
  mkC (hint := hint) (ann := annOf [(2, ⟨[(3, .int .i64)], [2, 4, 5, 6, 7, 8, 9, 10, 11, 12, 13, 14]⟩)]) (args := [.int .i64 n]) (rs := [.at .bool]) Try.func208 (by kernel_rfl) (by kernel_rfl) h

def V_i_isWhole (Q : Bool → World → Prop) (n : Int) (w : World) : Prop :=
  Calls Try.prog F.i_within #[.int .i64 n, .int .i64 0, .int .i64 1000000000000] w (Ret [.at .bool] fun (x4 : Bool) w1 =>
  Q x4 w1)

theorem C_i_isWhole {Q : Bool → World → Prop} {n : Int} {w : World} (h : V_i_isWhole Q n w) : Calls Try.prog F.i_isWhole #[.int .i64 n] w (Ret [.at .bool] Q) :=
  mkC (hint := hint) (ann := annOf []) (args := [.int .i64 n]) (rs := [.at .bool]) Try.func209 (by kernel_rfl) (by kernel_rfl) h

def V_slices_Backward_sl_int_int (Q : Value → World → Prop) (s : Sl) (w : World) : Prop :=
  NEW T.t_sl_int #[s.v] w fun (p_s : Addr) w1 =>
  Q (.func (.func F.slices_Backward_sl_int_int_1) #[] #[.pointer (some p_s)]) w1

theorem C_slices_Backward_sl_int_int {Q : Value → World → Prop} {s : Sl} {w : World} (h : V_slices_Backward_sl_int_int Q s w) : Calls Try.prog F.slices_Backward_sl_int_int #[s.v] w (Ret [.at .val] Q) :=
  mkC (hint := hint) (ann := annOf []) (args := [s.v]) (rs := [.at .val]) Try.func210 (by kernel_rfl) (by kernel_rfl) h

def V_slices_IndexFunc_sl_i_End_i_End (Q : Int → World → Prop) (s : Sl) (f : Value) (w : World) : Prop :=
  ∃ (I2 : Int → World → Prop) (m2 : Int → World → Nat), I2 0 w ∧ ∀ (x8 : Int) w1, I2 x8 w1 → ∀ _ _ _ _ _ _ _ _ _ _ _ _ : Value,
  cond (decide ((x8 : Int) < s.len)) (
  IX s x8 2 fun (px14 : Addr) =>
  LD [.int .i64, .int .i64] px14 w1 fun (x15_0 : Int) (x15_1 : Int) =>
  CALLV Try.prog f #[.agg #[.int .i64 x15_0, .int .i64 x15_1]] w1 (Ret [.at .bool] fun (x16 : Bool) w2 =>
  cond x16 (
  Q x8 w2) (
  I2 (IntKind.i64.wrap (x8 + 1)) w2 ∧ m2 (IntKind.i64.wrap (x8 + 1)) w2 < m2 x8 w1))) (
  Q (-1) w1)

theorem C_slices_IndexFunc_sl_i_End_i_End {Q : Int → World → Prop} {s : Sl} {f : Value} {w : World} (h : V_slices_IndexFunc_sl_i_End_i_End Q s f w) : Calls Try.prog F.slices_IndexFunc_sl_i_End_i_End #[s.v, f] w (Ret [.at (.int .i64)] Q) :=
  mkC (hint := hint) (ann := annOf [(2, ⟨[(8, .int .i64)], [4, 5, 9, 10, 11, 12, 13, 14, 15, 16, 17, 18]⟩)]) (args := [s.v, f]) (rs := [.at (.int .i64)]) Try.func211 (by kernel_rfl) (by kernel_rfl) h

def V_s_waGood (Q : Bool → World → Prop) (p_0 : Int) (p_1 : Sl) (w : World) : Prop :=
  NEW T.t_i_WalkProblem #[.int .i64 p_0, p_1.v] w fun (p_p : Addr) w1 =>
  LD [.int .i64] (p_p.add 0) w1 fun (x4 : Int) =>
  Calls Try.prog F.s_l1In #[.int .i64 x4, .int .i64 1, .int .i64 12] w1 (Ret [.at .bool] fun (x5 : Bool) w2 =>
  cond x5 (
  LD [.sl] (p_p.add 1) w2 fun (x8 : Sl) =>
  LD [.int .i64] (p_p.add 0) w2 fun (x10 : Int) =>
  Calls Try.prog F.s_waArcs #[x8.v, .int .i64 x10] w2 (Ret [.at .bool] fun (x11 : Bool) w3 =>
  Q x11 w3)) (
  Q false w2))

theorem C_s_waGood {Q : Bool → World → Prop} {p_0 : Int} {p_1 : Sl} {w : World} (h : V_s_waGood Q p_0 p_1 w) : Calls Try.prog F.s_waGood #[.agg #[.int .i64 p_0, p_1.v]] w (Ret [.at .bool] Q) :=
  mkC (hint := hint) (ann := annOf []) (args := [.agg #[.int .i64 p_0, p_1.v]]) (rs := [.at .bool]) Try.func212 (by kernel_rfl) (by kernel_rfl) h

def V_s_waFlexible (Q : Sl → World → Prop) (p_0 : Int) (p_1 : Sl) (w : World) : Prop :=
  NEW T.t_i_WalkProblem #[.int .i64 p_0, p_1.v] w fun (p_p : Addr) w1 =>
  LD [.int .i64, .sl] p_p w1 fun (x8_0 : Int) (x8_1 : Sl) =>
  Calls Try.prog F.s_waParts #[.agg #[.int .i64 x8_0, x8_1.v]] w1 (Ret [.at .sl] fun (x9 : Sl) w2 =>
  ∃ (I3 : Sl → Int → World → Prop) (m3 : Sl → Int → World → Nat), I3 (⟨none, 0, 0⟩) 0 w2 ∧ ∀ (out : Sl) (x11 : Int) w3, I3 out x11 w3 → ∀ _ _ _ _ _ _ _ _ _ _ _ _ _ _ _ _ _ _ _ _ : Value,
  cond (decide ((x11 : Int) < x9.len)) (
  IX x9 x11 3 fun (px13 : Addr) =>
  LD [.sl, .int .i64, .sl] px13 w3 fun (x14_0 : Sl) (x14_1 : Int) (x14_2 : Sl) =>
  NEW T.t_s_waPart #[.slice none 0 0, .int .i64 0, .slice none 0 0] w3 fun (px : Addr) w4 =>
  ST px 0 [x14_0.v, .int .i64 x14_1, x14_2.v] w4 fun w5 =>
  LD [.sl] (px.add 0) w5 fun (x16 : Sl) =>
  ∃ (I6 : Sl → Int → World → Prop) (m6 : Sl → Int → World → Nat), I6 out 0 w5 ∧ ∀ (out_2 : Sl) (x18 : Int) w6, I6 out_2 x18 w6 → ∀ _ _ _ _ _ _ _ _ _ _ _ : Value,
  cond (decide ((x18 : Int) < x16.len)) (
  IX x16 x18 1 fun (px20 : Addr) =>
  LD [.int .i64] px20 w6 fun (x21 : Int) =>
  LD [.int .i64] (px.add 1) w6 fun (x23 : Int) =>
  cond ((x23 : Int) == 1) (
  Calls Try.prog F.s_l1Put #[out_2.v, .int .i64 x21] w6 (Ret [.at .sl] fun (x27 : Sl) w7 =>
  I6 x27 (IntKind.i64.wrap (x18 + 1)) w7 ∧ m6 x27 (IntKind.i64.wrap (x18 + 1)) w7 < m6 out_2 x18 w6)) (
  I6 out_2 (IntKind.i64.wrap (x18 + 1)) w6 ∧ m6 out_2 (IntKind.i64.wrap (x18 + 1)) w6 < m6 out_2 x18 w6)) (
  I3 out_2 (IntKind.i64.wrap (x11 + 1)) w6 ∧ m3 out_2 (IntKind.i64.wrap (x11 + 1)) w6 < m3 out x11 w3)) (
  Q out w3))

theorem C_s_waFlexible {Q : Sl → World → Prop} {p_0 : Int} {p_1 : Sl} {w : World} (h : V_s_waFlexible Q p_0 p_1 w) : Calls Try.prog F.s_waFlexible #[.agg #[.int .i64 p_0, p_1.v]] w (Ret [.at .sl] Q) :=
  mkC (hint := hint) (ann := annOf [(3, ⟨[(3, .sl), (11, .int .i64)], [5, 7, 12, 13, 14, 15, 16, 17, 18, 19, 20, 21, 22, 23, 24, 25, 26, 27, 28, 29]⟩), (6, ⟨[(3, .sl), (18, .int .i64)], [7, 19, 20, 21, 22, 23, 24, 25, 26, 27, 28]⟩)]) (args := [.agg #[.int .i64 p_0, p_1.v]]) (rs := [.at .sl]) Try.func213 (by kernel_rfl) (by kernel_rfl) h

def V_s_waFlexibility (Q : Int → World → Prop) (p_0 : Int) (p_1 : Sl) (a : Int) (w : World) : Prop :=
  NEW T.t_i_WalkProblem #[.int .i64 p_0, p_1.v] w fun (p_p : Addr) w1 =>
  LD [.int .i64, .sl] p_p w1 fun (x7_0 : Int) (x7_1 : Sl) =>
  LD [.int .i64] (p_p.add 0) w1 fun (x9 : Int) =>
  LD [.int .i64] (p_p.add 0) w1 fun (x11 : Int) =>
  Calls Try.prog F.s_waPowers #[.agg #[.int .i64 x7_0, x7_1.v], .int .i64 (IntKind.i64.wrap ((IntKind.i64.wrap (x9 * x11)) + 1))] w1 (Ret [.at .sl] fun (x14 : Sl) w2 =>
  ∃ (I3 : Int → World → Prop) (m3 : Int → World → Nat), I3 (IntKind.i64.wrap (x14.len - 1)) w2 ∧ ∀ (k : Int) w3, I3 k w3 → ∀ _ _ _ _ _ _ _ _ _ _ _ _ _ _ _ _ : Value,
  cond (decide ((k : Int) > 0)) (
  IX x14 k 1 fun (px23 : Addr) =>
  LD [.sl] px23 w3 fun (x24 : Sl) =>
  IX x24 a 1 fun (px26 : Addr) =>
  LD [.sl] px26 w3 fun (x27 : Sl) =>
  IX x27 a 1 fun (px29 : Addr) =>
  LD [.bool] px29 w3 fun (x30 : Bool) =>
  cond x30 (
  I3 (IntKind.i64.wrap (k - 1)) w3 ∧ m3 (IntKind.i64.wrap (k - 1)) w3 < m3 k w3) (
  Q (IntKind.i64.wrap (k + 1)) w3)) (
  Q (IntKind.i64.wrap (k + 1)) w3))

theorem C_s_waFlexibility {Q : Int → World → Prop} {p_0 : Int} {p_1 : Sl} {a : Int} {w : World} (h : V_s_waFlexibility Q p_0 p_1 a w) : Calls Try.prog F.s_waFlexibility #[.agg #[.int .i64 p_0, p_1.v], .int .i64 a] w (Ret [.at (.int .i64)] Q) :=
  mkC (hint := hint) (ann := annOf [(3, ⟨[(6, .int .i64)], [18, 19, 20, 21, 22, 23, 24, 25, 26, 27, 28, 29, 30, 31, 32, 33]⟩)]) (args := [.agg #[.int .i64 p_0, p_1.v], .int .i64 a]) (rs := [.at (.int .i64)]) Try.func214 (by kernel_rfl) (by kernel_rfl) h

def V_i_WalkProblem_closure (Q : Sl → World → Prop) (p_0 : Int) (p_1 : Sl) (w : World) : Prop :=
  NEW T.t_i_WalkProblem #[.int .i64 p_0, p_1.v] w fun (p_p : Addr) w1 =>
  LD [.int .i64] (p_p.add 0) w1 fun (x8 : Int) =>
  RUN Try.prog (.at .sl) (Instr.makeSlice T.t_sl_int (.int .i64 x8) (.int .i64 x8)) w1 fun (x9 : Sl) w2 =>
  ∃ (I3 : Int → World → Prop) (m3 : Int → World → Nat), I3 0 w2 ∧ ∀ (x12 : Int) w3, I3 x12 w3 → ∀ _ _ _ _ _ _ _ _ _ _ _ _ _ _ _ _ _ _ _ _ _ _ _ : Value,
  cond (decide ((x12 : Int) < x9.len)) (
  LD [.int .i64, .sl] p_p w3 fun (x15_0 : Int) (x15_1 : Sl) =>
  LD [.int .i64] (p_p.add 0) w3 fun (x18 : Int) =>
  Calls Try.prog F.i_WalkProblem_reached #[.agg #[.int .i64 x15_0, x15_1.v], .int .i64 x12, .int .i64 x18] w3 (Ret [.at .sl] fun (x19 : Sl) w4 =>
  ∃ (I6 : Int → World → Prop) (m6 : Int → World → Nat), I6 0 w4 ∧ ∀ (x21 : Int) w5, I6 x21 w5 → ∀ _ _ _ _ _ _ _ _ _ _ _ _ : Value,
  cond (decide ((x21 : Int) < x19.len)) (
  IX x19 x21 1 fun (px23 : Addr) =>
  LD [.int .i64] px23 w5 fun (x24 : Int) =>
  IX x9 x12 1 fun (px27 : Addr) =>
  LD [.int .i64] px27 w5 fun (x28 : Int) =>
  IX x9 x12 1 fun (px31 : Addr) =>
  ST px31 0 [.int .i64 (bitOr .i64 x28 x24)] w5 fun w6 =>
  I6 (IntKind.i64.wrap (x21 + 1)) w6 ∧ m6 (IntKind.i64.wrap (x21 + 1)) w6 < m6 x21 w5) (
  I3 (IntKind.i64.wrap (x12 + 1)) w5 ∧ m3 (IntKind.i64.wrap (x12 + 1)) w5 < m3 x12 w3))) (
  Q x9 w3)

theorem C_i_WalkProblem_closure {Q : Sl → World → Prop} {p_0 : Int} {p_1 : Sl} {w : World} (h : V_i_WalkProblem_closure Q p_0 p_1 w) : Calls Try.prog F.i_WalkProblem_closure #[.agg #[.int .i64 p_0, p_1.v]] w (Ret [.at .sl] Q) :=
  mkC (hint := hint) (ann := annOf [(3, ⟨[(12, .int .i64)], [4, 6, 13, 14, 15, 16, 17, 18, 19, 20, 21, 22, 23, 24, 25, 26, 27, 28, 29, 30, 31, 32, 33]⟩), (6, ⟨[(21, .int .i64)], [6, 22, 23, 24, 25, 26, 27, 28, 29, 30, 31, 32]⟩)]) (args := [.agg #[.int .i64 p_0, p_1.v]]) (rs := [.at .sl]) Try.func216 (by kernel_rfl) (by kernel_rfl) h

def V_i_WalkProblem_after (Q : Sl → World → Prop) (p_0 : Int) (p_1 : Sl) (w : World) : Prop :=
  NEW T.t_i_WalkProblem #[.int .i64 p_0, p_1.v] w fun (p_p : Addr) w1 =>
  LD [.int .i64] (p_p.add 0) w1 fun (x7 : Int) =>
  RUN Try.prog (.at .sl) (Instr.makeSlice T.t_sl_int (.int .i64 x7) (.int .i64 x7)) w1 fun (x8 : Sl) w2 =>
  LD [.sl] (p_p.add 1) w2 fun (x10 : Sl) =>
  ∃ (I3 : Int → World → Prop) (m3 : Int → World → Nat), I3 0 w2 ∧ ∀ (x12 : Int) w3, I3 x12 w3 → ∀ _ _ _ _ _ _ _ _ _ _ _ _ _ _ _ _ _ : Value,
  cond (decide ((x12 : Int) < x10.len)) (
  IX x10 x12 1 fun (px14 : Addr) =>
  LD [.sl] px14 w3 fun (x15 : Sl) =>
  ∀ w4, Ext w3 w4 → w4.heap = w3.heap → ∃ (D4 : Nat → Prop),
  IX x15 0 1 fun (px18 : Addr) =>
  ¬ D4 px18.block ∧ (
  LD [.int .i64] px18 w4 fun (x19 : Int) =>
  IX x8 x19 1 fun (px20 : Addr) =>
  ¬ D4 px20.block ∧ (
  LD [.int .i64] px20 w4 fun (x21 : Int) =>
  Chg w4 w4 D4 ∧ (
  IX x15 1 1 fun (px23 : Addr) =>
  Chg w4 w4 D4 ∧ (
  LD [.int .i64] px23 w4 fun (x24 : Int) =>
  Chg w4 w4 D4 ∧ (
  (0 : Int) ≤ x24 ∧ (
  Chg w4 w4 D4 ∧ (
  Chg w4 w4 D4 ∧ (
  IX x8 x19 1 fun (px27 : Addr) =>
  ST px27 0 [.int .i64 (bitOr .i64 x21 (shlI .i64 1 x24))] w4 fun w5 =>
  I3 (IntKind.i64.wrap (x12 + 1)) w5 ∧ m3 (IntKind.i64.wrap (x12 + 1)) w5 < m3 x12 w3))))))))) (
  Q x8 w3)

theorem C_i_WalkProblem_after {Q : Sl → World → Prop} {p_0 : Int} {p_1 : Sl} {w : World} (h : V_i_WalkProblem_after Q p_0 p_1 w) : Calls Try.prog F.i_WalkProblem_after #[.agg #[.int .i64 p_0, p_1.v]] w (Ret [.at .sl] Q) :=
  mkC (hint := hint) (ann := annOf [(3, ⟨[(12, .int .i64)], [5, 13, 14, 15, 16, 17, 18, 19, 20, 21, 22, 23, 24, 25, 26, 27, 28]⟩)]) (args := [.agg #[.int .i64 p_0, p_1.v]]) (rs := [.at .sl]) Try.func217 (by kernel_rfl) (by kernel_rfl) h

def V_i_labelsIn (Q : Sl → World → Prop) (set1 : Int) (w : World) : Prop :=
  ∃ (I3 : Sl → Int → World → Prop) (m3 : Sl → Int → World → Nat), I3 (⟨none, 0, 0⟩) 0 w ∧ ∀ (out : Sl) (a : Int) w1, I3 out a w1 → ∀ _ _ _ _ _ _ _ _ _ _ _ _ _ _ _ : Value,
  (0 : Int) ≤ a ∧ (
  cond (((shrI .i64 set1 a) : Int) != 0) (
  (0 : Int) ≤ a ∧ (
  cond (((bitAnd .i64 (shrI .i64 set1 a) 1) : Int) == 1) (
  RUN Try.prog (.at .sl) (Instr.buildSlice T.t_sl_int 1 #[(0, .int .i64 a)]) w1 fun (x18 : Sl) w2 =>
  RUN Try.prog (.at .sl) (bsem .append #[T.t_sl_int, T.t_sl_int] T.t_sl_int #[out.v, x18.v]) w2 fun (x19 : Sl) w3 =>
  I3 x19 (IntKind.i64.wrap (a + 1)) w3 ∧ m3 x19 (IntKind.i64.wrap (a + 1)) w3 < m3 out a w1) (
  I3 out (IntKind.i64.wrap (a + 1)) w1 ∧ m3 out (IntKind.i64.wrap (a + 1)) w1 < m3 out a w1))) (
  Q out w1))

theorem C_i_labelsIn {Q : Sl → World → Prop} {set1 : Int} {w : World} (h : V_i_labelsIn Q set1 w) : Calls Try.prog F.i_labelsIn #[.int .i64 set1] w (Ret [.at .sl] Q) :=
  mkC (hint := hint) (ann := annOf [(3, ⟨[(3, .sl), (4, .int .i64)], [5, 6, 7, 8, 9, 10, 11, 12, 13, 14, 15, 16, 17, 18, 19]⟩)]) (args := [.int .i64 set1]) (rs := [.at .sl]) Try.func218 (by kernel_rfl) (by kernel_rfl) h

def V_i_setOf (Q : Int → World → Prop) (labels : Sl) (w : World) : Prop :=
  ∃ (I3 : Int → Int → World → Prop) (m3 : Int → Int → World → Nat), I3 0 0 w ∧ ∀ (set1 : Int) (x8 : Int) w1, I3 set1 x8 w1 → ∀ _ _ _ _ _ _ _ _ _ : Value,
  cond (decide ((x8 : Int) < labels.len)) (
  IX labels x8 1 fun (px10 : Addr) =>
  LD [.int .i64] px10 w1 fun (x11 : Int) =>
  (0 : Int) ≤ x11 ∧ (
  I3 (bitOr .i64 set1 (shlI .i64 1 x11)) (IntKind.i64.wrap (x8 + 1)) w1 ∧ m3 (bitOr .i64 set1 (shlI .i64 1 x11)) (IntKind.i64.wrap (x8 + 1)) w1 < m3 set1 x8 w1)) (
  Q set1 w1)

theorem C_i_setOf {Q : Int → World → Prop} {labels : Sl} {w : World} (h : V_i_setOf Q labels w) : Calls Try.prog F.i_setOf #[labels.v] w (Ret [.at (.int .i64)] Q) :=
  mkC (hint := hint) (ann := annOf [(3, ⟨[(3, .int .i64), (8, .int .i64)], [5, 9, 10, 11, 12, 13, 14, 15, 16]⟩)]) (args := [labels.v]) (rs := [.at (.int .i64)]) Try.func219 (by kernel_rfl) (by kernel_rfl) h

def V_i_WalkProblem_periodOf (Q : Int → World → Prop) (p_0 : Int) (p_1 : Sl) (component : Sl) (w : World) : Prop :=
  NEW T.t_i_WalkProblem #[.int .i64 p_0, p_1.v] w fun (p_p : Addr) w1 =>
  ∀ w2, Ext w1 w2 → w2.heap = w1.heap →
  LD [.int .i64, .sl] p_p w2 fun (x10_0 : Int) (x10_1 : Sl) =>
  Ext w2 w2 ∧ (
  IX component 0 1 fun (px12 : Addr) =>
  Ext w2 w2 ∧ (
  LD [.int .i64] px12 w2 fun (x13 : Int) =>
  Ext w2 w2 ∧ (
  Calls Try.prog F.i_WalkProblem_distancesIn #[.agg #[.int .i64 x10_0, x10_1.v], .int .i64 x13] w2 (Ret [.at .sl] fun (x14 : Sl) w3 =>
  LD [.sl] (p_p.add 1) w3 fun (x16 : Sl) =>
  ∃ (I4 : Int → Int → World → Prop) (m4 : Int → Int → World → Nat), I4 0 0 w3 ∧ ∀ (d : Int) (x18 : Int) w4, I4 d x18 w4 → ∀ _ _ _ _ _ _ _ _ _ _ _ _ _ _ _ _ _ _ _ _ _ _ _ _ _ _ _ _ _ _ _ _ _ _ _ _ _ _ _ : Value,
  cond (decide ((x18 : Int) < x16.len)) (
  IX x16 x18 1 fun (px20 : Addr) =>
  LD [.sl] px20 w4 fun (x21 : Sl) =>
  IX x21 0 1 fun (px24 : Addr) =>
  LD [.int .i64] px24 w4 fun (x25 : Int) =>
  Calls Try.prog F.slices_Contains_sl_int_int #[component.v, .int .i64 x25] w4 (Ret [.at .bool] fun (x26 : Bool) w5 =>
  cond x26 (
  IX x21 1 1 fun (px30 : Addr) =>
  LD [.int .i64] px30 w5 fun (x31 : Int) =>
  Calls Try.prog F.slices_Contains_sl_int_int #[component.v, .int .i64 x31] w5 (Ret [.at .bool] fun (x32 : Bool) w6 =>
  cond x32 (
  IX x21 0 1 fun (px36 : Addr) =>
  LD [.int .i64] px36 w6 fun (x37 : Int) =>
  IX x14 x37 1 fun (px38 : Addr) =>
  LD [.int .i64] px38 w6 fun (x39 : Int) =>
  IX x21 1 1 fun (px43 : Addr) =>
  LD [.int .i64] px43 w6 fun (x44 : Int) =>
  IX x14 x44 1 fun (px45 : Addr) =>
  LD [.int .i64] px45 w6 fun (x46 : Int) =>
  ∀ w7, Ext w6 w7 →
  RUN Try.prog (.at (.int .i64)) (bsem .max #[T.t_int, T.t_int] T.t_int #[.int .i64 (IntKind.i64.wrap ((IntKind.i64.wrap (x39 + 1)) - x46)), .int .i64 (IntKind.i64.wrap (0 - (IntKind.i64.wrap ((IntKind.i64.wrap (x39 + 1)) - x46))))]) w7 fun (x52 : Int) w8 =>
  RUN Try.prog (.at .sl) (Instr.buildSlice T.t_sl_int 2 #[(0, .int .i64 d), (1, .int .i64 x52)]) w8 fun (x53 : Sl) w9 =>
  Calls Try.prog F.i_gcd #[x53.v] w9 (Ret [.at (.int .i64)] fun (x54 : Int) w10 =>
  I4 x54 (IntKind.i64.wrap (x18 + 1)) w10 ∧ m4 x54 (IntKind.i64.wrap (x18 + 1)) w10 < m4 d x18 w4)) (
  I4 d (IntKind.i64.wrap (x18 + 1)) w6 ∧ m4 d (IntKind.i64.wrap (x18 + 1)) w6 < m4 d x18 w4))) (
  I4 d (IntKind.i64.wrap (x18 + 1)) w5 ∧ m4 d (IntKind.i64.wrap (x18 + 1)) w5 < m4 d x18 w4))) (
  Q d w4)))))

theorem C_i_WalkProblem_periodOf {Q : Int → World → Prop} {p_0 : Int} {p_1 : Sl} {component : Sl} {w : World} (h : V_i_WalkProblem_periodOf Q p_0 p_1 component w) : Calls Try.prog F.i_WalkProblem_periodOf #[.agg #[.int .i64 p_0, p_1.v], component.v] w (Ret [.at (.int .i64)] Q) :=
  mkC (hint := hint) (ann := annOf [(4, ⟨[(6, .int .i64), (18, .int .i64)], [8, 9, 19, 20, 21, 22, 23, 24, 25, 26, 27, 28, 29, 30, 31, 32, 33, 34, 35, 36, 37, 38, 39, 40, 41, 42, 43, 44, 45, 46, 47, 48, 49, 50, 51, 52, 53, 54, 55]⟩)]) (args := [.agg #[.int .i64 p_0, p_1.v], component.v]) (rs := [.at (.int .i64)]) Try.func220 (by kernel_rfl) (by kernel_rfl) h

def V_i_areJoined_1 (Q : Bool → World → Prop) (e_0 : Int) (e_1 : Int) (cap0 : Addr) (w : World) : Prop :=
  NEW T.t_i_End #[.int .i64 e_0, .int .i64 e_1] w fun (p_e : Addr) w1 =>
  LD [.int .i64] (p_e.add 0) w1 fun (x5 : Int) =>
  LD [.int .i64] cap0 w1 fun (x6 : Int) =>
  Q ((x5 : Int) == x6) w1

theorem C_i_areJoined_1 {Q : Bool → World → Prop} {e_0 : Int} {e_1 : Int} {cap0 : Addr} {w : World} (h : V_i_areJoined_1 Q e_0 e_1 cap0 w) : Calls Try.prog F.i_areJoined_1 #[.agg #[.int .i64 e_0, .int .i64 e_1], .pointer (some cap0)] w (Ret [.at .bool] Q) :=
  mkC (hint := hint) (ann := annOf []) (args := [.agg #[.int .i64 e_0, .int .i64 e_1], .pointer (some cap0)]) (rs := [.at .bool]) Try.func225 (by kernel_rfl) (by kernel_rfl) h

def V_i_hasNear_1 (Q : Bool → World → Prop) (e_0 : Int) (e_1 : Int) (cap0 : Addr) (w : World) : Prop :=
  NEW T.t_i_End #[.int .i64 e_0, .int .i64 e_1] w fun (p_e : Addr) w1 =>
  LD [.sl] cap0 w1 fun (x4 : Sl) =>
  LD [.int .i64] (p_e.add 0) w1 fun (x6 : Int) =>
  Calls Try.prog F.slices_Contains_sl_int_int #[x4.v, .int .i64 x6] w1 (Ret [.at .bool] fun (x7 : Bool) w2 =>
  Q x7 w2)

theorem C_i_hasNear_1 {Q : Bool → World → Prop} {e_0 : Int} {e_1 : Int} {cap0 : Addr} {w : World} (h : V_i_hasNear_1 Q e_0 e_1 cap0 w) : Calls Try.prog F.i_hasNear_1 #[.agg #[.int .i64 e_0, .int .i64 e_1], .pointer (some cap0)] w (Ret [.at .bool] Q) :=
  mkC (hint := hint) (ann := annOf []) (args := [.agg #[.int .i64 e_0, .int .i64 e_1], .pointer (some cap0)]) (rs := [.at .bool]) Try.func226 (by kernel_rfl) (by kernel_rfl) h

def V_s_prOrder (Q : Int → World → Prop) (a : Sl) (b : Sl) (w : World) : Prop :=
  ∃ (I2 : Int → World → Prop) (m2 : Int → World → Nat), I2 0 w ∧ ∀ (x9 : Int) w1, I2 x9 w1 → ∀ _ _ _ _ _ _ _ _ _ _ _ _ _ _ _ _ _ _ _ _ _ : Value,
  cond (decide ((x9 : Int) < a.len)) (
  IX a x9 1 fun (px12 : Addr) =>
  LD [.int .i64] px12 w1 fun (x13 : Int) =>
  IX b x9 1 fun (px17 : Addr) =>
  LD [.int .i64] px17 w1 fun (x18 : Int) =>
  cond ((x13 : Int) != x18) (
  IX b x9 1 fun (px23 : Addr) =>
  LD [.int .i64] px23 w1 fun (x24 : Int) =>
  Calls Try.prog F.s_l1Sign #[.int .i64 (IntKind.i64.wrap (x13 - x24))] w1 (Ret [.at (.int .i64)] fun (x26 : Int) w2 =>
  Q x26 w2)) (
  I2 (IntKind.i64.wrap (x9 + 1)) w1 ∧ m2 (IntKind.i64.wrap (x9 + 1)) w1 < m2 x9 w1)) (
  Q 0 w1)

theorem C_s_prOrder {Q : Int → World → Prop} {a : Sl} {b : Sl} {w : World} (h : V_s_prOrder Q a b w) : Calls Try.prog F.s_prOrder #[a.v, b.v] w (Ret [.at (.int .i64)] Q) :=
  mkC (hint := hint) (ann := annOf [(2, ⟨[(9, .int .i64)], [4, 5, 6, 10, 11, 12, 13, 14, 15, 16, 17, 18, 19, 20, 21, 22, 23, 24, 25, 26, 27]⟩)]) (args := [a.v, b.v]) (rs := [.at (.int .i64)]) Try.func227 (by kernel_rfl) (by kernel_rfl) h

def V_s_l1Same (Q : Bool → World → Prop) (a : Sl) (b : Sl) (w : World) : Prop :=
  cond ((a.len : Int) != b.len) (
  Q false w) (
  ∃ (I4 : Int → World → Prop) (m4 : Int → World → Nat), I4 0 w ∧ ∀ (x13 : Int) w1, I4 x13 w1 → ∀ _ _ _ _ _ _ _ _ _ _ _ _ _ _ : Value,
  cond (decide ((x13 : Int) < a.len)) (
  IX a x13 1 fun (px18 : Addr) =>
  LD [.int .i64] px18 w1 fun (x19 : Int) =>
  IX b x13 1 fun (px22 : Addr) =>
  LD [.int .i64] px22 w1 fun (x23 : Int) =>
  ∀ w2, Ext w1 w2 →
  cond ((x19 : Int) != x23) (
  Q false w2) (
  I4 (IntKind.i64.wrap (x13 + 1)) w2 ∧ m4 (IntKind.i64.wrap (x13 + 1)) w2 < m4 x13 w1)) (
  Q true w1))

theorem C_s_l1Same {Q : Bool → World → Prop} {a : Sl} {b : Sl} {w : World} (h : V_s_l1Same Q a b w) : Calls Try.prog F.s_l1Same #[a.v, b.v] w (Ret [.at .bool] Q) :=
  mkC (hint := hint) (ann := annOf [(4, ⟨[(13, .int .i64)], [4, 5, 14, 15, 16, 17, 18, 19, 20, 21, 22, 23, 24, 25]⟩)]) (args := [a.v, b.v]) (rs := [.at .bool]) Try.func228 (by kernel_rfl) (by kernel_rfl) h

def V_s_l1Least (Q : Int → World → Prop) (a : Int) (b : Int) (w : World) : Prop :=
  cond (decide ((a : Int) < b)) (
  Q a w) (
  Q b w)

theorem C_s_l1Least {Q : Int → World → Prop} {a : Int} {b : Int} {w : World} (h : V_s_l1Least Q a b w) : Calls Try.prog F.s_l1Least #[.int .i64 a, .int .i64 b] w (Ret [.at (.int .i64)] Q) :=
  mkC (hint := hint) (ann := annOf []) (args := [.int .i64 a, .int .i64 b]) (rs := [.at (.int .i64)]) Try.func229 (by kernel_rfl) (by kernel_rfl) h

def V_slices_IsSorted_sl_int_int (Q : Bool → World → Prop) (x : Sl) (w : World) : Prop :=
  ∃ (I2 : Int → World → Prop) (m2 : Int → World → Nat), I2 (IntKind.i64.wrap (x.len - 1)) w ∧ ∀ (i : Int) w1, I2 i w1 → ∀ _ _ _ _ _ _ _ _ _ _ _ _ _ _ _ : Value,
  cond (decide ((i : Int) > 0)) (
  IX x i 1 fun (px13 : Addr) =>
  LD [.int .i64] px13 w1 fun (x14 : Int) =>
  IX x (IntKind.i64.wrap (i - 1)) 1 fun (px18 : Addr) =>
  LD [.int .i64] px18 w1 fun (x19 : Int) =>
  QCALL Try.prog F.cmp_Less_int #[.int .i64 x14, .int .i64 x19] w1 [.at .bool] fun (x20 : Bool) =>
  ∀ w2, Ext w1 w2 →
  cond x20 (
  Q false w2) (
  I2 (IntKind.i64.wrap (i - 1)) w2 ∧ m2 (IntKind.i64.wrap (i - 1)) w2 < m2 i w1)) (
  Q true w1)

theorem C_slices_IsSorted_sl_int_int {Q : Bool → World → Prop} {x : Sl} {w : World} (h : V_slices_IsSorted_sl_int_int Q x w) : Calls Try.prog F.slices_IsSorted_sl_int_int #[x.v] w (Ret [.at .bool] Q) :=
  mkC (hint := hint) (ann := annOf [(2, ⟨[(3, .int .i64)], [2, 7, 8, 9, 10, 11, 12, 13, 14, 15, 16, 17, 18, 19, 20]⟩)]) (args := [x.v]) (rs := [.at .bool]) Try.func230 (by kernel_rfl) (by kernel_rfl) h

def V_slices_BinarySearchFunc_sl_sl_int_sl_int_sl_int (Q : Int → Bool → World → Prop) (x : Sl) (target : Sl) (cmp : Value) (w : World) : Prop :=
  ∃ (I3 : Int → Int → World → Prop) (m3 : Int → Int → World → Nat), I3 0 x.len w ∧ ∀ (i : Int) (j : Int) w1, I3 i j w1 → ∀ _ _ _ _ _ _ _ _ _ _ _ _ _ _ _ _ _ _ _ _ _ : Value,
  cond (decide ((i : Int) < j)) (
  (0 : Int) ≤ 1 ∧ (
  IX x (IntKind.i64.wrap (shrI .u64 (IntKind.u64.wrap (IntKind.i64.wrap (i + j))) 1)) 1 fun (px27 : Addr) =>
  LD [.sl] px27 w1 fun (x28 : Sl) =>
  CALLV Try.prog cmp #[x28.v, target.v] w1 (Ret [.at (.int .i64)] fun (x30 : Int) w2 =>
  cond (decide ((x30 : Int) < 0)) (
  I3 (IntKind.i64.wrap ((IntKind.i64.wrap (shrI .u64 (IntKind.u64.wrap (IntKind.i64.wrap (i + j))) 1)) + 1)) j w2 ∧ m3 (IntKind.i64.wrap ((IntKind.i64.wrap (shrI .u64 (IntKind.u64.wrap (IntKind.i64.wrap (i + j))) 1)) + 1)) j w2 < m3 i j w1) (
  I3 i (IntKind.i64.wrap (shrI .u64 (IntKind.u64.wrap (IntKind.i64.wrap (i + j))) 1)) w2 ∧ m3 i (IntKind.i64.wrap (shrI .u64 (IntKind.u64.wrap (IntKind.i64.wrap (i + j))) 1)) w2 < m3 i j w1)))) (
  cond (decide ((i : Int) < x.len)) (
  IX x i 1 fun (px43 : Addr) =>
  LD [.sl] px43 w1 fun (x44 : Sl) =>
  CALLV Try.prog cmp #[x44.v, target.v] w1 (Ret [.at (.int .i64)] fun (x46 : Int) w3 =>
  Q i ((x46 : Int) == 0) w3)) (
  Q i false w1))

theorem C_slices_BinarySearchFunc_sl_sl_int_sl_int_sl_int {Q : Int → Bool → World → Prop} {x : Sl} {target : Sl} {cmp : Value} {w : World} (h : V_slices_BinarySearchFunc_sl_sl_int_sl_int_sl_int Q x target cmp w) : Calls Try.prog F.slices_BinarySearchFunc_sl_sl_int_sl_int_sl_int #[x.v, target.v, cmp] w (Ret [.at (.int .i64), .at .bool] Q) :=
  mkC (hint := hint) (ann := annOf [(3, ⟨[(9, .int .i64), (10, .int .i64)], [11, 15, 16, 17, 18, 19, 20, 21, 22, 23, 24, 25, 26, 27, 28, 29, 30, 31, 32, 33, 34]⟩)]) (args := [x.v, target.v, cmp]) (rs := [.at (.int .i64), .at .bool]) Try.func231 (by kernel_rfl) (by kernel_rfl) h

def V_s_roFree (Q : Sl → World → Prop) (many : Int) (w : World) : Prop :=
  RUN Try.prog (.at .sl) (Instr.makeSlice T.t_sl_int (.int .i64 many) (.int .i64 many)) w fun (x6 : Sl) w1 =>
  ∃ (I3 : Int → World → Prop) (m3 : Int → World → Nat), I3 0 w1 ∧ ∀ (x9 : Int) w2, I3 x9 w2 → ∀ _ _ _ _ _ _ _ : Value,
  cond (decide ((x9 : Int) < x6.len)) (
  IX x6 x9 1 fun (px14 : Addr) =>
  ST px14 0 [.int .i64 (-1)] w2 fun w3 =>
  I3 (IntKind.i64.wrap (x9 + 1)) w3 ∧ m3 (IntKind.i64.wrap (x9 + 1)) w3 < m3 x9 w2) (
  Q x6 w2)

theorem C_s_roFree {Q : Sl → World → Prop} {many : Int} {w : World} (h : V_s_roFree Q many w) : Calls Try.prog F.s_roFree #[.int .i64 many] w (Ret [.at .sl] Q) :=
  mkC (hint := hint) (ann := annOf [(3, ⟨[(9, .int .i64)], [4, 10, 11, 12, 13, 14, 15]⟩)]) (args := [.int .i64 many]) (rs := [.at .sl]) Try.func233 (by kernel_rfl) (by kernel_rfl) h

def V_slices_Backward_sl_int_int_1 (Q : World → Prop) (yield : Value) (cap0 : Addr) (w : World) : Prop :=
  LD [.sl] cap0 w fun (x4 : Sl) =>
  ∃ (I1 : Int → World → Prop) (m1 : Int → World → Nat), I1 (IntKind.i64.wrap (x4.len - 1)) w ∧ ∀ (i : Int) w1, I1 i w1 → ∀ _ _ _ _ _ _ _ _ _ _ _ _ : Value,
  cond (decide ((i : Int) ≥ 0)) (
  LD [.sl] cap0 w1 fun (x13 : Sl) =>
  IX x13 i 1 fun (px15 : Addr) =>
  LD [.int .i64] px15 w1 fun (x16 : Int) =>
  CALLV Try.prog yield #[.int .i64 i, .int .i64 x16] w1 (Ret [.at .bool] fun (x17 : Bool) w2 =>
  cond (!x17) (
  Q w2) (
  I1 (IntKind.i64.wrap (i - 1)) w2 ∧ m1 (IntKind.i64.wrap (i - 1)) w2 < m1 i w1))) (
  Q w1)

theorem C_slices_Backward_sl_int_int_1 {Q : World → Prop} {yield : Value} {cap0 : Addr} {w : World} (h : V_slices_Backward_sl_int_int_1 Q yield cap0 w) : Calls Try.prog F.slices_Backward_sl_int_int_1 #[yield, .pointer (some cap0)] w (Ret [] Q) :=
  mkC (hint := hint) (ann := annOf [(1, ⟨[(3, .int .i64)], [7, 8, 9, 10, 11, 12, 13, 14, 15, 16, 17, 18]⟩)]) (args := [yield, .pointer (some cap0)]) (rs := []) Try.func234 (by kernel_rfl) (by kernel_rfl) h

def V_s_waArcs (Q : Bool → World → Prop) (l : Sl) (labels : Int) (w : World) : Prop :=
  ∃ (I2 : Int → World → Prop) (m2 : Int → World → Nat), I2 0 w ∧ ∀ (x9 : Int) w1, I2 x9 w1 → ∀ _ _ _ _ _ _ _ _ _ _ _ _ _ _ _ _ _ _ _ _ _ _ _ _ _ _ _ _ _ _ _ _ : Value,
  cond (decide ((x9 : Int) < l.len)) (
  IX l x9 1 fun (px12 : Addr) =>
  LD [.sl] px12 w1 fun (x13 : Sl) =>
  cond ((x13.len : Int) != 2) (
  Q false w1) (
  Calls Try.prog F.s_l1All #[x13.v, .int .i64 0, .int .i64 (IntKind.i64.wrap (labels - 1))] w1 (Ret [.at .bool] fun (x21 : Bool) w2 =>
  cond (!x21) (
  Q false w2) (
  cond (decide ((x9 : Int) > 0)) (
  IX l (IntKind.i64.wrap (x9 - 1)) 1 fun (px31 : Addr) =>
  LD [.sl] px31 w2 fun (x32 : Sl) =>
  Calls Try.prog F.s_prOrder #[x32.v, x13.v] w2 (Ret [.at (.int .i64)] fun (x34 : Int) w3 =>
  cond (decide ((x34 : Int) ≥ 0)) (
  Q false w3) (
  I2 (IntKind.i64.wrap (x9 + 1)) w3 ∧ m2 (IntKind.i64.wrap (x9 + 1)) w3 < m2 x9 w1))) (
  I2 (IntKind.i64.wrap (x9 + 1)) w2 ∧ m2 (IntKind.i64.wrap (x9 + 1)) w2 < m2 x9 w1))))) (
  Q true w1)

theorem C_s_waArcs {Q : Bool → World → Prop} {l : Sl} {labels : Int} {w : World} (h : V_s_waArcs Q l labels w) : Calls Try.prog F.s_waArcs #[l.v, .int .i64 labels] w (Ret [.at .bool] Q) :=
  mkC (hint := hint) (ann := annOf [(2, ⟨[(9, .int .i64)], [4, 5, 6, 10, 11, 12, 13, 14, 15, 16, 17, 18, 19, 20, 21, 22, 23, 24, 25, 26, 27, 28, 29, 30, 31, 32, 33, 34, 35, 36, 37, 38]⟩)]) (args := [l.v, .int .i64 labels]) (rs := [.at .bool]) Try.func235 (by kernel_rfl) (by kernel_rfl) h

def V_s_waParts_k4 (I5 : Sl → Int → World → Prop) (m5 : Sl → Int → World → Nat) (w4 : World) (px1 : Addr) (x15 : Sl) (x18 : Sl) (x4 : Sl) (x6 : Int) (w5 : World) : Prop :=
  NEW T.t_s_waPart #[.slice none 0 0, .int .i64 0, .slice none 0 0] w5 fun (px7 : Addr) w6 =>
  ST px7 0 [.slice none 0 0, .int .i64 0, .slice none 0 0] w6 fun w7 =>
  ∃ (I10 : Int → World → Prop) (m10 : Int → World → Nat), I10 0 w7 ∧ ∀ (x8 : Int) w8, I10 x8 w8 → ∀ _ _ _ _ _ _ _ _ _ _ _ _ _ _ _ _ _ _ _ _ _ _ _ _ _ _ _ _ _ _ _ : Value,
  LD [.int .i64] (px1.add 0) w8 fun (x42 : Int) =>
  cond (decide ((x8 : Int) < x42)) (
  IX x15 x6 1 fun (px48 : Addr) =>
  LD [.sl] px48 w8 fun (x49 : Sl) =>
  IX x49 x8 1 fun (px51 : Addr) =>
  LD [.bool] px51 w8 fun (x52 : Bool) =>
  cond x52 (
  IX x15 x8 1 fun (px56 : Addr) =>
  LD [.sl] px56 w8 fun (x57 : Sl) =>
  IX x57 x6 1 fun (px59 : Addr) =>
  LD [.bool] px59 w8 fun (x60 : Bool) =>
  cond x60 (
  LD [.sl] (px7.add 0) w8 fun (x63 : Sl) =>
  RUN Try.prog (.at .sl) (Instr.buildSlice T.t_sl_int 1 #[(0, .int .i64 x8)]) w8 fun (x65 : Sl) w9 =>
  RUN Try.prog (.at .sl) (bsem .append #[T.t_sl_int, T.t_sl_int] T.t_sl_int #[x63.v, x65.v]) w9 fun (x66 : Sl) w10 =>
  ST (px7.add 0) 0 [x66.v] w10 fun w11 =>
  IX x18 x8 1 fun (px70 : Addr) =>
  ST px70 0 [.bool true] w11 fun w12 =>
  I10 (IntKind.i64.wrap (x8 + 1)) w12 ∧ m10 (IntKind.i64.wrap (x8 + 1)) w12 < m10 x8 w8) (
  I10 (IntKind.i64.wrap (x8 + 1)) w8 ∧ m10 (IntKind.i64.wrap (x8 + 1)) w8 < m10 x8 w8)) (
  I10 (IntKind.i64.wrap (x8 + 1)) w8 ∧ m10 (IntKind.i64.wrap (x8 + 1)) w8 < m10 x8 w8)) (
  LD [.int .i64, .sl] px1 w8 fun (x71_0 : Int) (x71_1 : Sl) =>
  LD [.sl] (px7.add 0) w8 fun (x73 : Sl) =>
  Calls Try.prog F.s_waDepths #[.agg #[.int .i64 x71_0, x71_1.v], x73.v] w8 (Ret [.at .sl] fun (x74 : Sl) w13 =>
  LD [.sl] (px1.add 1) w13 fun (x76 : Sl) =>
  ∃ (I17 : Int → World → Prop) (m17 : Int → World → Nat), I17 0 w13 ∧ ∀ (x78 : Int) w14, I17 x78 w14 → ∀ _ _ _ _ _ _ _ _ _ _ _ _ _ _ _ _ _ _ _ _ _ _ _ _ _ _ _ _ _ _ _ _ _ _ _ _ _ _ : Value,
  cond (decide ((x78 : Int) < x76.len)) (
  IX x76 x78 1 fun (px80 : Addr) =>
  LD [.sl] px80 w14 fun (x81 : Sl) =>
  LD [.sl] (px7.add 0) w14 fun (x83 : Sl) =>
  IX x81 0 1 fun (px85 : Addr) =>
  LD [.int .i64] px85 w14 fun (x86 : Int) =>
  QCALL Try.prog F.s_l1Has #[x83.v, .int .i64 x86] w14 [.at .bool] fun (x87 : Bool) =>
  cond x87 (
  LD [.sl] (px7.add 0) w14 fun (x90 : Sl) =>
  IX x81 1 1 fun (px92 : Addr) =>
  LD [.int .i64] px92 w14 fun (x93 : Int) =>
  QCALL Try.prog F.s_l1Has #[x90.v, .int .i64 x93] w14 [.at .bool] fun (x94 : Bool) =>
  ∀ w15, Ext w14 w15 →
  cond x94 (
  ∀ w17, Ext w15 w17 → w17.heap = w15.heap → ∃ (D17 : Nat → Prop),
  ¬ D17 (px7.add 1).block ∧ (
  LD [.int .i64] (px7.add 1) w17 fun (x97 : Int) =>
  IX x81 0 1 fun (px100 : Addr) =>
  ¬ D17 px100.block ∧ (
  LD [.int .i64] px100 w17 fun (x101 : Int) =>
  IX x74 x101 1 fun (px102 : Addr) =>
  ¬ D17 px102.block ∧ (
  LD [.int .i64] px102 w17 fun (x103 : Int) =>
  Chg w17 w17 D17 ∧ (
  IX x81 1 1 fun (px107 : Addr) =>
  Chg w17 w17 D17 ∧ (
  LD [.int .i64] px107 w17 fun (x108 : Int) =>
  Chg w17 w17 D17 ∧ (
  IX x74 x108 1 fun (px109 : Addr) =>
  Chg w17 w17 D17 ∧ (
  LD [.int .i64] px109 w17 fun (x110 : Int) =>
  Chg w17 w17 D17 ∧ (
  Chg w17 w17 D17 ∧ (
  Calls Try.prog F.s_l1Abs #[.int .i64 (IntKind.i64.wrap ((IntKind.i64.wrap (x103 + 1)) - x110))] w17 (Ret [.at (.int .i64)] fun (x112 : Int) w18 =>
  Chg w17 w18 D17 ∧ (
  Calls Try.prog F.s_waGcd #[.int .i64 x97, .int .i64 x112] w18 (Ret [.at (.int .i64)] fun (x113 : Int) w19 =>
  Chg w17 w19 D17 ∧ (
  ST (px7.add 1) 0 [.int .i64 x113] w19 fun w20 =>
  I17 (IntKind.i64.wrap (x78 + 1)) w20 ∧ m17 (IntKind.i64.wrap (x78 + 1)) w20 < m17 x78 w14)))))))))))))) (
  I17 (IntKind.i64.wrap (x78 + 1)) w15 ∧ m17 (IntKind.i64.wrap (x78 + 1)) w15 < m17 x78 w14)) (
  ∀ w16, Ext w14 w16 →
  I17 (IntKind.i64.wrap (x78 + 1)) w16 ∧ m17 (IntKind.i64.wrap (x78 + 1)) w16 < m17 x78 w14)) (
  LD [.sl] (px7.add 0) w14 fun (x117 : Sl) =>
  ∃ (I23 : Int → World → Prop) (m23 : Int → World → Nat), I23 0 w14 ∧ ∀ (x119 : Int) w21, I23 x119 w21 → ∀ _ _ _ _ _ _ _ _ _ _ _ _ _ _ _ _ _ : Value,
  cond (decide ((x119 : Int) < x117.len)) (
  IX x117 x119 1 fun (px121 : Addr) =>
  LD [.int .i64] px121 w21 fun (x122 : Int) =>
  ∀ w22, Ext w21 w22 → w22.heap = w21.heap → ∃ (D22 : Nat → Prop),
  ¬ D22 (px7.add 2).block ∧ (
  LD [.sl] (px7.add 2) w22 fun (x124 : Sl) =>
  IX x74 x122 1 fun (px127 : Addr) =>
  ¬ D22 px127.block ∧ (
  LD [.int .i64] px127 w22 fun (x128 : Int) =>
  Chg w22 w22 D22 ∧ (
  LD [.int .i64] (px7.add 1) w22 fun (x130 : Int) =>
  Chg w22 w22 D22 ∧ (
  (x130 : Int) ≠ 0 ∧ (
  Chg w22 w22 D22 ∧ (
  RUN Try.prog (.at .sl) (Instr.buildSlice T.t_sl_int 1 #[(0, .int .i64 (Int.tmod x128 x130))]) w22 fun (x132 : Sl) w23 =>
  Chg w22 w23 D22 ∧ (
  RUN Try.prog (.at .sl) (bsem .append #[T.t_sl_int, T.t_sl_int] T.t_sl_int #[x124.v, x132.v]) w23 fun (x133 : Sl) w24 =>
  Chg w22 w24 D22 ∧ (
  ST (px7.add 2) 0 [x133.v] w24 fun w25 =>
  I23 (IntKind.i64.wrap (x119 + 1)) w25 ∧ m23 (IntKind.i64.wrap (x119 + 1)) w25 < m23 x119 w21))))))))) (
  LD [.sl, .int .i64, .sl] px7 w21 fun (x137_0 : Sl) (x137_1 : Int) (x137_2 : Sl) =>
  RUN Try.prog (.at .sl) (Instr.buildSlice T.t_sl_s_waPart 1 #[(0, .agg #[x137_0.v, .int .i64 x137_1, x137_2.v])]) w21 fun (x138 : Sl) w26 =>
  RUN Try.prog (.at .sl) (bsem .append #[T.t_sl_s_waPart, T.t_sl_s_waPart] T.t_sl_s_waPart #[x4.v, x138.v]) w26 fun (x139 : Sl) w27 =>
  I5 x139 (IntKind.i64.wrap (x6 + 1)) w27 ∧ m5 x139 (IntKind.i64.wrap (x6 + 1)) w27 < m5 x4 x6 w4))))

def V_s_waParts (Q : Sl → World → Prop) (x0_0 : Int) (x0_1 : Sl) (w : World) : Prop :=
  NEW T.t_i_WalkProblem #[.int .i64 x0_0, x0_1.v] w fun (px1 : Addr) w1 =>
  LD [.int .i64, .sl] px1 w1 fun (x14_0 : Int) (x14_1 : Sl) =>
  Calls Try.prog F.s_waReach #[.agg #[.int .i64 x14_0, x14_1.v]] w1 (Ret [.at .sl] fun (x15 : Sl) w2 =>
  LD [.int .i64] (px1.add 0) w2 fun (x17 : Int) =>
  RUN Try.prog (.at .sl) (Instr.makeSlice T.t_sl_bool (.int .i64 x17) (.int .i64 x17)) w2 fun (x18 : Sl) w3 =>
  ∃ (I5 : Sl → Int → World → Prop) (m5 : Sl → Int → World → Nat), I5 (⟨none, 0, 0⟩) 0 w3 ∧ ∀ (x4 : Sl) (x6 : Int) w4, I5 x4 x6 w4 → ∀ _ _ _ _ _ _ _ _ _ _ _ _ _ _ _ _ _ _ _ _ _ _ _ _ _ _ _ _ _ _ _ _ _ _ _ _ _ _ _ _ _ _ _ _ _ _ _ _ _ _ _ _ _ _ _ _ _ _ _ _ _ _ _ _ _ _ _ _ _ _ _ _ _ _ _ _ _ _ _ _ _ _ _ _ _ _ _ _ _ _ _ _ _ _ _ _ _ _ _ _ _ _ _ _ _ _ _ _ _ _ _ _ _ _ _ _ _ _ _ _ _ _ _ _ _ _ : Value,
  LD [.int .i64] (px1.add 0) w4 fun (x21 : Int) =>
  cond (decide ((x6 : Int) < x21)) (
  IX x18 x6 1 fun (px27 : Addr) =>
  LD [.bool] px27 w4 fun (x28 : Bool) =>
  cond x28 (
  I5 x4 (IntKind.i64.wrap (x6 + 1)) w4 ∧ m5 x4 (IntKind.i64.wrap (x6 + 1)) w4 < m5 x4 x6 w4) (
  IX x15 x6 1 fun (px32 : Addr) =>
  LD [.sl] px32 w4 fun (x33 : Sl) =>
  IX x33 x6 1 fun (px35 : Addr) =>
  LD [.bool] px35 w4 fun (x36 : Bool) =>
  cond (!x36) (
  I5 x4 (IntKind.i64.wrap (x6 + 1)) w4 ∧ m5 x4 (IntKind.i64.wrap (x6 + 1)) w4 < m5 x4 x6 w4) (
  V_s_waParts_k4 I5 m5 w4 px1 x15 x18 x4 x6 w4))) (
  Q x4 w4))

theorem C_s_waParts {Q : Sl → World → Prop} {x0_0 : Int} {x0_1 : Sl} {w : World} (h : V_s_waParts Q x0_0 x0_1 w) : Calls Try.prog F.s_waParts #[.agg #[.int .i64 x0_0, x0_1.v]] w (Ret [.at .sl] Q) :=
  mkC (hint := hint) (ann := annOf [(5, ⟨[(4, .sl), (6, .int .i64)], [7, 8, 9, 11, 13, 19, 20, 21, 22, 23, 24, 25, 26, 27, 28, 29, 30, 31, 32, 33, 34, 35, 36, 37, 38, 39, 40, 41, 42, 43, 44, 45, 46, 47, 48, 49, 50, 51, 52, 53, 54, 55, 56, 57, 58, 59, 60, 61, 62, 63, 64, 65, 66, 67, 68, 69, 70, 71, 72, 73, 74, 75, 76, 77, 78, 79, 80, 81, 82, 83, 84, 85, 86, 87, 88, 89, 90, 91, 92, 93, 94, 95, 96, 97, 98, 99, 100, 101, 102, 103, 104, 105, 106, 107, 108, 109, 110, 111, 112, 113, 114, 115, 116, 117, 118, 119, 120, 121, 122, 123, 124, 125, 126, 127, 128, 129, 130, 131, 132, 133, 134, 135, 136, 137, 138, 139]⟩), (10, ⟨[(8, .int .i64)], [40, 41, 42, 43, 44, 45, 46, 47, 48, 49, 50, 51, 52, 53, 54, 55, 56, 57, 58, 59, 60, 61, 62, 63, 64, 65, 66, 67, 68, 69, 70]⟩), (17, ⟨[(78, .int .i64)], [11, 79, 80, 81, 82, 83, 84, 85, 86, 87, 88, 89, 90, 91, 92, 93, 94, 95, 96, 97, 98, 99, 100, 101, 102, 103, 104, 105, 106, 107, 108, 109, 110, 111, 112, 113, 114, 115]⟩), (23, ⟨[(119, .int .i64)], [13, 120, 121, 122, 123, 124, 125, 126, 127, 128, 129, 130, 131, 132, 133, 134, 135]⟩)]) (args := [.agg #[.int .i64 x0_0, x0_1.v]]) (rs := [.at .sl]) Try.func236 (by kernel_rfl) (by kernel_rfl) h

end Go.Proofs.Ytoeaoinedidbiaa
