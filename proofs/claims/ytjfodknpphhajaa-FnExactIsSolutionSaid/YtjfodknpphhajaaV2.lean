/- What each function's code computes to. Printed by a program. -/
import Derived.Test.YtjfodknpphhajaaNames
namespace Go.Proofs.Ytjfodknpphhajaa
open Go.GX Go.RowKit
set_option linter.unusedVariables false
set_option maxRecDepth 100000

def V_i_allWithin (Q : Bool → World → Prop) (list : Sl) (low : Int) (high : Int) (w : World) : Prop :=
  NEW T.t_int #[.int .i64 low] w fun (p_low : Addr) w1 =>
  NEW T.t_int #[.int .i64 high] w1 fun (p_high : Addr) w2 =>
  Calls Try.prog F.slices_ContainsFunc_sl_int_int #[list.v, .func (.func F.i_allWithin_1) #[] #[.pointer (some p_low), .pointer (some p_high)]] w2 (Ret [.at .bool] fun (x9 : Bool) w3 =>
  Q (!x9) w3)

theorem C_i_allWithin {Q : Bool → World → Prop} {list : Sl} {low : Int} {high : Int} {w : World} (h : V_i_allWithin Q list low high w) : Calls Try.prog F.i_allWithin #[list.v, .int .i64 low, .int .i64 high] w (Ret [.at .bool] Q) :=
  mkC (hint := hint) (ann := annOf []) (args := [list.v, .int .i64 low, .int .i64 high]) (rs := [.at .bool]) Try.func68 (by kernel_rfl) (by kernel_rfl) h

def V_slices_Contains_sl_int_int (Q : Bool → World → Prop) (s : Sl) (v : Int) (w : World) : Prop :=
  Calls Try.prog F.slices_Index_sl_int_int #[s.v, .int .i64 v] w (Ret [.at (.int .i64)] fun (x7 : Int) w1 =>
  Q (decide ((x7 : Int) ≥ 0)) w1)

theorem C_slices_Contains_sl_int_int {Q : Bool → World → Prop} {s : Sl} {v : Int} {w : World} (h : V_slices_Contains_sl_int_int Q s v w) : Calls Try.prog F.slices_Contains_sl_int_int #[s.v, .int .i64 v] w (Ret [.at .bool] Q) :=
  mkC (hint := hint) (ann := annOf []) (args := [s.v, .int .i64 v]) (rs := [.at .bool]) Try.func69 (by kernel_rfl) (by kernel_rfl) h

def V_i_sortedLists (Q : Sl → World → Prop) (list : Sl) (w : World) : Prop :=
  Calls Try.prog F.slices_SortFunc_sl_sl_int_sl_int #[list.v, .func (.func F.slices_Compare_sl_int_int) #[] #[]] w (Ret [] fun w1 =>
  Calls Try.prog F.slices_CompactFunc_sl_sl_int_sl_int #[list.v, .func (.func F.slices_Equal_sl_int_int) #[] #[]] w1 (Ret [.at .sl] fun (x6 : Sl) w2 =>
  Q x6 w2))

theorem C_i_sortedLists {Q : Sl → World → Prop} {list : Sl} {w : World} (h : V_i_sortedLists Q list w) : Calls Try.prog F.i_sortedLists #[list.v] w (Ret [.at .sl] Q) :=
  mkC (hint := hint) (ann := annOf []) (args := [list.v]) (rs := [.at .sl]) Try.func71 (by kernel_rfl) (by kernel_rfl) h

def V_l_markIntS (Q : Int → World → Prop) (a : Sl) (k : Int) (w : World) : Prop :=
  ∃ (I2 : Int → Int → World → Prop) (m2 : Int → Int → World → Nat), I2 k 0 w ∧ ∀ (k_2 : Int) (i : Int) w1, I2 k_2 i w1 → ∀ _ _ _ _ _ _ _ _ _ _ _ _ : Value,
  cond (decide ((i : Int) < a.len)) (
  IX a i 1 fun (px15 : Addr) =>
  ST px15 0 [.int .i64 k_2] w1 fun w2 =>
  I2 (IntKind.i64.wrap (k_2 + 1)) (IntKind.i64.wrap (i + 1)) w2 ∧ m2 (IntKind.i64.wrap (k_2 + 1)) (IntKind.i64.wrap (i + 1)) w2 < m2 k_2 i w1) (
  Q k_2 w1)

theorem C_l_markIntS {Q : Int → World → Prop} {a : Sl} {k : Int} {w : World} (h : V_l_markIntS Q a k w) : Calls Try.prog F.l_markIntS #[a.v, .int .i64 k] w (Ret [.at (.int .i64)] Q) :=
  mkC (hint := hint) (ann := annOf [(2, ⟨[(1, .int .i64), (5, .int .i64)], [6, 7, 8, 9, 10, 11, 12, 13, 14, 15, 16, 17]⟩)]) (args := [a.v, .int .i64 k]) (rs := [.at (.int .i64)]) Try.func72 (by kernel_rfl) (by kernel_rfl) h

def V_l_heldIntS (Q : Int → World → Prop) (a : Sl) (k : Int) (w : World) : Prop :=
  ∃ (I2 : Int → Int → World → Prop) (m2 : Int → Int → World → Nat), I2 k 0 w ∧ ∀ (k_2 : Int) (i : Int) w1, I2 k_2 i w1 → ∀ _ _ _ _ _ _ _ _ _ _ _ _ _ _ _ : Value,
  cond (decide ((i : Int) < a.len)) (
  IX a i 1 fun (px14 : Addr) =>
  LD [.int .i64] px14 w1 fun (x15 : Int) =>
  cond ((x15 : Int) != k_2) (
  Q (-1) w1) (
  I2 (IntKind.i64.wrap (k_2 + 1)) (IntKind.i64.wrap (i + 1)) w1 ∧ m2 (IntKind.i64.wrap (k_2 + 1)) (IntKind.i64.wrap (i + 1)) w1 < m2 k_2 i w1)) (
  Q k_2 w1)

theorem C_l_heldIntS {Q : Int → World → Prop} {a : Sl} {k : Int} {w : World} (h : V_l_heldIntS Q a k w) : Calls Try.prog F.l_heldIntS #[a.v, .int .i64 k] w (Ret [.at (.int .i64)] Q) :=
  mkC (hint := hint) (ann := annOf [(2, ⟨[(1, .int .i64), (5, .int .i64)], [4, 6, 7, 8, 9, 10, 11, 12, 13, 14, 15, 16, 17, 18, 19]⟩)]) (args := [a.v, .int .i64 k]) (rs := [.at (.int .i64)]) Try.func73 (by kernel_rfl) (by kernel_rfl) h

def V_s_neIds (Q : Bool → World → Prop) (ids : Sl) (nodes : Int) (w : World) : Prop :=
  ∃ (I2 : Int → World → Prop) (m2 : Int → World → Nat), I2 0 w ∧ ∀ (x9 : Int) w1, I2 x9 w1 → ∀ _ _ _ _ _ _ _ _ _ _ _ _ _ _ _ _ _ _ : Value,
  cond (decide ((x9 : Int) < ids.len)) (
  IX ids x9 1 fun (px12 : Addr) =>
  LD [.int .i64] px12 w1 fun (x13 : Int) =>
  Calls Try.prog F.s_l1In #[.int .i64 x13, .int .i64 1, .int .i64 999999] w1 (Ret [.at .bool] fun (x15 : Bool) w2 =>
  cond (!x15) (
  Q false w2) (
  SLC ids none (some x9) 1 fun (x20 : Sl) =>
  Calls Try.prog F.s_l1Has #[x20.v, .int .i64 x13] w2 (Ret [.at .bool] fun (x22 : Bool) w3 =>
  cond x22 (
  Q false w3) (
  I2 (IntKind.i64.wrap (x9 + 1)) w3 ∧ m2 (IntKind.i64.wrap (x9 + 1)) w3 < m2 x9 w1))))) (
  cond ((ids.len : Int) == 0) (
  Q true w1) (
  Q ((ids.len : Int) == nodes) w1))

theorem C_s_neIds {Q : Bool → World → Prop} {ids : Sl} {nodes : Int} {w : World} (h : V_s_neIds Q ids nodes w) : Calls Try.prog F.s_neIds #[ids.v, .int .i64 nodes] w (Ret [.at .bool] Q) :=
  mkC (hint := hint) (ann := annOf [(2, ⟨[(9, .int .i64)], [4, 5, 6, 10, 11, 12, 13, 14, 15, 16, 17, 18, 19, 20, 21, 22, 23, 24]⟩)]) (args := [ids.v, .int .i64 nodes]) (rs := [.at .bool]) Try.func74 (by kernel_rfl) (by kernel_rfl) h

def V_s_prHas (Q : Bool → World → Prop) (l : Sl) (x : Sl) (w : World) : Prop :=
  ∃ (I2 : Int → World → Prop) (m2 : Int → World → Nat), I2 0 w ∧ ∀ (x9 : Int) w1, I2 x9 w1 → ∀ _ _ _ _ _ _ _ _ _ : Value,
  cond (decide ((x9 : Int) < l.len)) (
  IX l x9 1 fun (px11 : Addr) =>
  LD [.sl] px11 w1 fun (x12 : Sl) =>
  Calls Try.prog F.s_l1Same #[x.v, x12.v] w1 (Ret [.at .bool] fun (x15 : Bool) w2 =>
  cond x15 (
  Q true w2) (
  I2 (IntKind.i64.wrap (x9 + 1)) w2 ∧ m2 (IntKind.i64.wrap (x9 + 1)) w2 < m2 x9 w1))) (
  Q false w1)

theorem C_s_prHas {Q : Bool → World → Prop} {l : Sl} {x : Sl} {w : World} (h : V_s_prHas Q l x w) : Calls Try.prog F.s_prHas #[l.v, x.v] w (Ret [.at .bool] Q) :=
  mkC (hint := hint) (ann := annOf [(2, ⟨[(9, .int .i64)], [4, 6, 10, 11, 12, 13, 14, 15, 16]⟩)]) (args := [l.v, x.v]) (rs := [.at .bool]) Try.func75 (by kernel_rfl) (by kernel_rfl) h

def V_s_l1Least (Q : Int → World → Prop) (a : Int) (b : Int) (w : World) : Prop :=
  cond (decide ((a : Int) < b)) (
  Q a w) (
  Q b w)

theorem C_s_l1Least {Q : Int → World → Prop} {a : Int} {b : Int} {w : World} (h : V_s_l1Least Q a b w) : Calls Try.prog F.s_l1Least #[.int .i64 a, .int .i64 b] w (Ret [.at (.int .i64)] Q) :=
  mkC (hint := hint) (ann := annOf []) (args := [.int .i64 a, .int .i64 b]) (rs := [.at (.int .i64)]) Try.func76 (by kernel_rfl) (by kernel_rfl) h

def V_s_l1Most (Q : Int → World → Prop) (a : Int) (b : Int) (w : World) : Prop :=
  cond (decide ((a : Int) > b)) (
  Q a w) (
  Q b w)

theorem C_s_l1Most {Q : Int → World → Prop} {a : Int} {b : Int} {w : World} (h : V_s_l1Most Q a b w) : Calls Try.prog F.s_l1Most #[.int .i64 a, .int .i64 b] w (Ret [.at (.int .i64)] Q) :=
  mkC (hint := hint) (ann := annOf []) (args := [.int .i64 a, .int .i64 b]) (rs := [.at (.int .i64)]) Try.func77 (by kernel_rfl) (by kernel_rfl) h

def V_l_toEnd (Q : Int → Int → World → Prop) (a_0 : Int) (a_1 : Int) (w : World) : Prop :=
  NEW T.t_l_End #[.int .i64 a_0, .int .i64 a_1] w fun (p_a : Addr) w1 =>
  NEW T.t_i_End #[.int .i64 0, .int .i64 0] w1 fun (px2 : Addr) w2 =>
  NEW T.t_i_End #[.int .i64 0, .int .i64 0] w2 fun (p_out : Addr) w3 =>
  LD [.int .i64] (p_a.add 0) w3 fun (x5 : Int) =>
  ST (p_out.add 0) 0 [.int .i64 x5] w3 fun w4 =>
  LD [.int .i64] (p_a.add 1) w4 fun (x8 : Int) =>
  ST (p_out.add 1) 0 [.int .i64 x8] w4 fun w5 =>
  LD [.int .i64, .int .i64] p_out w5 fun (x10_0 : Int) (x10_1 : Int) =>
  ST px2 0 [.int .i64 x10_0, .int .i64 x10_1] w5 fun w6 =>
  LD [.int .i64, .int .i64] px2 w6 fun (r0_0 : Int) (r0_1 : Int) =>
  Q r0_0 r0_1 w6

theorem C_l_toEnd {Q : Int → Int → World → Prop} {a_0 : Int} {a_1 : Int} {w : World} (h : V_l_toEnd Q a_0 a_1 w) : Calls Try.prog F.l_toEnd #[.agg #[.int .i64 a_0, .int .i64 a_1]] w (Ret [.agg [.int .i64, .int .i64]] Q) :=
  mkC (hint := hint) (ann := annOf []) (args := [.agg #[.int .i64 a_0, .int .i64 a_1]]) (rs := [.agg [.int .i64, .int .i64]]) Try.func78 (by kernel_rfl) (by kernel_rfl) h

def V_slices_IsSorted_sl_int_int (Q : Bool → World → Prop) (x : Sl) (w : World) : Prop :=
  ∃ (I2 : Int → World → Prop) (m2 : Int → World → Nat), I2 (IntKind.i64.wrap (x.len - 1)) w ∧ ∀ (i : Int) w1, I2 i w1 → ∀ _ _ _ _ _ _ _ _ _ _ _ _ _ _ _ : Value,
  cond (decide ((i : Int) > 0)) (
  IX x i 1 fun (px13 : Addr) =>
  LD [.int .i64] px13 w1 fun (x14 : Int) =>
  IX x (IntKind.i64.wrap (i - 1)) 1 fun (px18 : Addr) =>
  LD [.int .i64] px18 w1 fun (x19 : Int) =>
  QCALL Try.prog F.cmp_Less_int #[.int .i64 x14, .int .i64 x19] w1 [.at .bool] fun (x20 : Bool) =>
  ∀ w2, Ext w1 w2 →
  cond x20 (
  Q false w2) (
  I2 (IntKind.i64.wrap (i - 1)) w2 ∧ m2 (IntKind.i64.wrap (i - 1)) w2 < m2 i w1)) (
  Q true w1)

theorem C_slices_IsSorted_sl_int_int {Q : Bool → World → Prop} {x : Sl} {w : World} (h : V_slices_IsSorted_sl_int_int Q x w) : Calls Try.prog F.slices_IsSorted_sl_int_int #[x.v] w (Ret [.at .bool] Q) :=
  mkC (hint := hint) (ann := annOf [(2, ⟨[(3, .int .i64)], [2, 7, 8, 9, 10, 11, 12, 13, 14, 15, 16, 17, 18, 19, 20]⟩)]) (args := [x.v]) (rs := [.at .bool]) Try.func79 (by kernel_rfl) (by kernel_rfl) h

def V_slices_Compare_sl_int_int (Q : Int → World → Prop) (s1 : Sl) (s2 : Sl) (w : World) : Prop :=
  ∃ (I2 : Int → World → Prop) (m2 : Int → World → Nat), I2 0 w ∧ ∀ (x11 : Int) w1, I2 x11 w1 → ∀ _ _ _ _ _ _ _ _ _ _ _ _ _ _ _ _ _ _ _ _ _ _ _ _ : Value,
  cond (decide ((x11 : Int) < s1.len)) (
  IX s1 x11 1 fun (px14 : Addr) =>
  LD [.int .i64] px14 w1 fun (x15 : Int) =>
  cond (decide ((x11 : Int) ≥ s2.len)) (
  Q 1 w1) (
  IX s2 x11 1 fun (px22 : Addr) =>
  LD [.int .i64] px22 w1 fun (x23 : Int) =>
  Calls Try.prog F.cmp_Compare_int #[.int .i64 x15, .int .i64 x23] w1 (Ret [.at (.int .i64)] fun (x26 : Int) w2 =>
  cond ((x26 : Int) != 0) (
  Q x26 w2) (
  I2 (IntKind.i64.wrap (x11 + 1)) w2 ∧ m2 (IntKind.i64.wrap (x11 + 1)) w2 < m2 x11 w1)))) (
  cond (decide ((s1.len : Int) < s2.len)) (
  Q (-1) w1) (
  Q 0 w1))

theorem C_slices_Compare_sl_int_int {Q : Int → World → Prop} {s1 : Sl} {s2 : Sl} {w : World} (h : V_slices_Compare_sl_int_int Q s1 s2 w) : Calls Try.prog F.slices_Compare_sl_int_int #[s1.v, s2.v] w (Ret [.at (.int .i64)] Q) :=
  mkC (hint := hint) (ann := annOf [(2, ⟨[(11, .int .i64)], [4, 5, 6, 7, 8, 12, 13, 14, 15, 16, 17, 18, 19, 20, 21, 22, 23, 24, 25, 26, 27, 28, 29, 30]⟩)]) (args := [s1.v, s2.v]) (rs := [.at (.int .i64)]) Try.func80 (by kernel_rfl) (by kernel_rfl) h

def V_slices_Clone_sl_int_int (Q : Sl → World → Prop) (s : Sl) (w : World) : Prop :=
  cond s.a.isNone (
  Q (⟨none, 0, 0⟩) w) (
  RUN Try.prog (.at .sl) (Instr.buildSlice T.t_sl_int 0 #[]) w fun (x5 : Sl) w1 =>
  RUN Try.prog (.at .sl) (bsem .append #[T.t_sl_int, T.t_sl_int] T.t_sl_int #[x5.v, s.v]) w1 fun (x7 : Sl) w2 =>
  Q x7 w2)

theorem C_slices_Clone_sl_int_int {Q : Sl → World → Prop} {s : Sl} {w : World} (h : V_slices_Clone_sl_int_int Q s w) : Calls Try.prog F.slices_Clone_sl_int_int #[s.v] w (Ret [.at .sl] Q) :=
  mkC (hint := hint) (ann := annOf []) (args := [s.v]) (rs := [.at .sl]) Try.func81 (by kernel_rfl) (by kernel_rfl) h

def V_i_increasing (Q : Bool → World → Prop) (list : Sl) (low : Int) (high : Int) (w : World) : Prop :=
  ∃ (I2 : Int → World → Prop) (m2 : Int → World → Nat), I2 0 w ∧ ∀ (x11 : Int) w1, I2 x11 w1 → ∀ _ _ _ _ _ _ _ _ _ _ _ _ _ _ _ _ _ _ _ _ _ _ _ _ _ _ : Value,
  cond (decide ((x11 : Int) < list.len)) (
  IX list x11 1 fun (px14 : Addr) =>
  LD [.int .i64] px14 w1 fun (x15 : Int) =>
  Calls Try.prog F.i_within #[.int .i64 x15, .int .i64 low, .int .i64 high] w1 (Ret [.at .bool] fun (x19 : Bool) w2 =>
  cond (!x19) (
  Q false w2) (
  cond (decide ((x11 : Int) > 0)) (
  IX list (IntKind.i64.wrap (x11 - 1)) 1 fun (px28 : Addr) =>
  LD [.int .i64] px28 w2 fun (x29 : Int) =>
  cond (decide ((x29 : Int) ≥ x15)) (
  Q false w2) (
  I2 (IntKind.i64.wrap (x11 + 1)) w2 ∧ m2 (IntKind.i64.wrap (x11 + 1)) w2 < m2 x11 w1)) (
  I2 (IntKind.i64.wrap (x11 + 1)) w2 ∧ m2 (IntKind.i64.wrap (x11 + 1)) w2 < m2 x11 w1)))) (
  Q true w1)

theorem C_i_increasing {Q : Bool → World → Prop} {list : Sl} {low : Int} {high : Int} {w : World} (h : V_i_increasing Q list low high w) : Calls Try.prog F.i_increasing #[list.v, .int .i64 low, .int .i64 high] w (Ret [.at .bool] Q) :=
  mkC (hint := hint) (ann := annOf [(2, ⟨[(11, .int .i64)], [6, 7, 8, 12, 13, 14, 15, 16, 17, 18, 19, 20, 21, 22, 23, 24, 25, 26, 27, 28, 29, 30, 31, 32, 33, 34]⟩)]) (args := [list.v, .int .i64 low, .int .i64 high]) (rs := [.at .bool]) Try.func82 (by kernel_rfl) (by kernel_rfl) h

def V_i_Network_hasNode (Q : Bool → World → Prop) (n_0 : Sl) (n_1 : Sl) (n_2 : Sl) (v : Int) (w : World) : Prop :=
  NEW T.t_i_Network #[n_0.v, n_1.v, n_2.v] w fun (p_n : Addr) w1 =>
  LD [.sl] (p_n.add 0) w1 fun (x7 : Sl) =>
  Calls Try.prog F.i_within #[.int .i64 v, .int .i64 0, .int .i64 (IntKind.i64.wrap (x7.len - 1))] w1 (Ret [.at .bool] fun (x10 : Bool) w2 =>
  Q x10 w2)

theorem C_i_Network_hasNode {Q : Bool → World → Prop} {n_0 : Sl} {n_1 : Sl} {n_2 : Sl} {v : Int} {w : World} (h : V_i_Network_hasNode Q n_0 n_1 n_2 v w) : Calls Try.prog F.i_Network_hasNode #[.agg #[n_0.v, n_1.v, n_2.v], .int .i64 v] w (Ret [.at .bool] Q) :=
  mkC (hint := hint) (ann := annOf []) (args := [.agg #[n_0.v, n_1.v, n_2.v], .int .i64 v]) (rs := [.at .bool]) Try.func83 (by kernel_rfl) (by kernel_rfl) h

def V_slices_IndexFunc_sl_sl_int_sl_int (Q : Int → World → Prop) (s : Sl) (f : Value) (w : World) : Prop :=
  ∃ (I2 : Int → World → Prop) (m2 : Int → World → Nat), I2 0 w ∧ ∀ (x8 : Int) w1, I2 x8 w1 → ∀ _ _ _ _ _ _ _ _ _ _ _ _ : Value,
  cond (decide ((x8 : Int) < s.len)) (
  IX s x8 1 fun (px14 : Addr) =>
  LD [.sl] px14 w1 fun (x15 : Sl) =>
  CALLV Try.prog f #[x15.v] w1 (Ret [.at .bool] fun (x16 : Bool) w2 =>
  cond x16 (
  Q x8 w2) (
  I2 (IntKind.i64.wrap (x8 + 1)) w2 ∧ m2 (IntKind.i64.wrap (x8 + 1)) w2 < m2 x8 w1))) (
  Q (-1) w1)

theorem C_slices_IndexFunc_sl_sl_int_sl_int {Q : Int → World → Prop} {s : Sl} {f : Value} {w : World} (h : V_slices_IndexFunc_sl_sl_int_sl_int Q s f w) : Calls Try.prog F.slices_IndexFunc_sl_sl_int_sl_int #[s.v, f] w (Ret [.at (.int .i64)] Q) :=
  mkC (hint := hint) (ann := annOf [(2, ⟨[(8, .int .i64)], [4, 5, 9, 10, 11, 12, 13, 14, 15, 16, 17, 18]⟩)]) (args := [s.v, f]) (rs := [.at (.int .i64)]) Try.func84 (by kernel_rfl) (by kernel_rfl) h

def V_i_hasConfiguration (Q : Bool → World → Prop) (list : Sl) (labels : Sl) (w : World) : Prop :=
  Calls Try.prog F.slices_Values_sl_int_int #[labels.v] w (Ret [.at .val] fun (x10 : Value) w1 =>
  Calls Try.prog F.slices_Sorted_int #[x10] w1 (Ret [.at .sl] fun (x11 : Sl) w2 =>
  Calls Try.prog F.slices_BinarySearchFunc_sl_sl_int_sl_int_sl_int #[list.v, x11.v, .func (.func F.slices_Compare_sl_int_int) #[] #[]] w2 (Ret [.at (.int .i64), .at .bool] fun (x12_0 : Int) (x12_1 : Bool) w3 =>
  Q x12_1 w3)))

theorem C_i_hasConfiguration {Q : Bool → World → Prop} {list : Sl} {labels : Sl} {w : World} (h : V_i_hasConfiguration Q list labels w) : Calls Try.prog F.i_hasConfiguration #[list.v, labels.v] w (Ret [.at .bool] Q) :=
  mkC (hint := hint) (ann := annOf []) (args := [list.v, labels.v]) (rs := [.at .bool]) Try.func85 (by kernel_rfl) (by kernel_rfl) h

def V_l_eqEnd (Q : Bool → World → Prop) (a_0 : Int) (a_1 : Int) (b_0 : Int) (b_1 : Int) (w : World) : Prop :=
  NEW T.t_i_End #[.int .i64 a_0, .int .i64 a_1] w fun (p_a : Addr) w1 =>
  NEW T.t_i_End #[.int .i64 b_0, .int .i64 b_1] w1 fun (p_b : Addr) w2 =>
  LD [.int .i64] (p_a.add 0) w2 fun (x6 : Int) =>
  LD [.int .i64] (p_b.add 0) w2 fun (x8 : Int) =>
  cond ((x6 : Int) != x8) (
  Q false w2) (
  LD [.int .i64] (p_a.add 1) w2 fun (x11 : Int) =>
  LD [.int .i64] (p_b.add 1) w2 fun (x13 : Int) =>
  cond ((x11 : Int) != x13) (
  Q false w2) (
  Q true w2))

theorem C_l_eqEnd {Q : Bool → World → Prop} {a_0 : Int} {a_1 : Int} {b_0 : Int} {b_1 : Int} {w : World} (h : V_l_eqEnd Q a_0 a_1 b_0 b_1 w) : Calls Try.prog F.l_eqEnd #[.agg #[.int .i64 a_0, .int .i64 a_1], .agg #[.int .i64 b_0, .int .i64 b_1]] w (Ret [.at .bool] Q) :=
  mkC (hint := hint) (ann := annOf []) (args := [.agg #[.int .i64 a_0, .int .i64 a_1], .agg #[.int .i64 b_0, .int .i64 b_1]]) (rs := [.at .bool]) Try.func86 (by kernel_rfl) (by kernel_rfl) h

def V_s_prOrder (Q : Int → World → Prop) (a : Sl) (b : Sl) (w : World) : Prop :=
  ∃ (I2 : Int → World → Prop) (m2 : Int → World → Nat), I2 0 w ∧ ∀ (x9 : Int) w1, I2 x9 w1 → ∀ _ _ _ _ _ _ _ _ _ _ _ _ _ _ _ _ _ _ _ _ _ : Value,
  cond (decide ((x9 : Int) < a.len)) (
  IX a x9 1 fun (px12 : Addr) =>
  LD [.int .i64] px12 w1 fun (x13 : Int) =>
  IX b x9 1 fun (px17 : Addr) =>
  LD [.int .i64] px17 w1 fun (x18 : Int) =>
  cond ((x13 : Int) != x18) (
  IX b x9 1 fun (px23 : Addr) =>
  LD [.int .i64] px23 w1 fun (x24 : Int) =>
  Calls Try.prog F.s_l1Sign #[.int .i64 (IntKind.i64.wrap (x13 - x24))] w1 (Ret [.at (.int .i64)] fun (x26 : Int) w2 =>
  Q x26 w2)) (
  I2 (IntKind.i64.wrap (x9 + 1)) w1 ∧ m2 (IntKind.i64.wrap (x9 + 1)) w1 < m2 x9 w1)) (
  Q 0 w1)

theorem C_s_prOrder {Q : Int → World → Prop} {a : Sl} {b : Sl} {w : World} (h : V_s_prOrder Q a b w) : Calls Try.prog F.s_prOrder #[a.v, b.v] w (Ret [.at (.int .i64)] Q) :=
  mkC (hint := hint) (ann := annOf [(2, ⟨[(9, .int .i64)], [4, 5, 6, 10, 11, 12, 13, 14, 15, 16, 17, 18, 19, 20, 21, 22, 23, 24, 25, 26, 27]⟩)]) (args := [a.v, b.v]) (rs := [.at (.int .i64)]) Try.func87 (by kernel_rfl) (by kernel_rfl) h

def V_s_l1Own (Q : Sl → World → Prop) (l : Sl) (w : World) : Prop :=
  RUN Try.prog (.at .sl) (Instr.buildSlice T.t_sl_int 0 #[]) w fun (x3 : Sl) w1 =>
  RUN Try.prog (.at .sl) (bsem .append #[T.t_sl_int, T.t_sl_int] T.t_sl_int #[x3.v, l.v]) w1 fun (x5 : Sl) w2 =>
  Q x5 w2

theorem C_s_l1Own {Q : Sl → World → Prop} {l : Sl} {w : World} (h : V_s_l1Own Q l w) : Calls Try.prog F.s_l1Own #[l.v] w (Ret [.at .sl] Q) :=
  mkC (hint := hint) (ann := annOf []) (args := [l.v]) (rs := [.at .sl]) Try.func88 (by kernel_rfl) (by kernel_rfl) h

def V_s_l1Same (Q : Bool → World → Prop) (a : Sl) (b : Sl) (w : World) : Prop :=
  cond ((a.len : Int) != b.len) (
  Q false w) (
  ∃ (I4 : Int → World → Prop) (m4 : Int → World → Nat), I4 0 w ∧ ∀ (x13 : Int) w1, I4 x13 w1 → ∀ _ _ _ _ _ _ _ _ _ _ _ _ _ _ : Value,
  cond (decide ((x13 : Int) < a.len)) (
  IX a x13 1 fun (px18 : Addr) =>
  LD [.int .i64] px18 w1 fun (x19 : Int) =>
  IX b x13 1 fun (px22 : Addr) =>
  LD [.int .i64] px22 w1 fun (x23 : Int) =>
  ∀ w2, Ext w1 w2 →
  cond ((x19 : Int) != x23) (
  Q false w2) (
  I4 (IntKind.i64.wrap (x13 + 1)) w2 ∧ m4 (IntKind.i64.wrap (x13 + 1)) w2 < m4 x13 w1)) (
  Q true w1))

theorem C_s_l1Same {Q : Bool → World → Prop} {a : Sl} {b : Sl} {w : World} (h : V_s_l1Same Q a b w) : Calls Try.prog F.s_l1Same #[a.v, b.v] w (Ret [.at .bool] Q) :=
  mkC (hint := hint) (ann := annOf [(4, ⟨[(13, .int .i64)], [4, 5, 14, 15, 16, 17, 18, 19, 20, 21, 22, 23, 24, 25]⟩)]) (args := [a.v, b.v]) (rs := [.at .bool]) Try.func89 (by kernel_rfl) (by kernel_rfl) h

def V_slices_ContainsFunc_sl_int_int (Q : Bool → World → Prop) (s : Sl) (f : Value) (w : World) : Prop :=
  Calls Try.prog F.slices_IndexFunc_sl_int_int #[s.v, f] w (Ret [.at (.int .i64)] fun (x7 : Int) w1 =>
  Q (decide ((x7 : Int) ≥ 0)) w1)

theorem C_slices_ContainsFunc_sl_int_int {Q : Bool → World → Prop} {s : Sl} {f : Value} {w : World} (h : V_slices_ContainsFunc_sl_int_int Q s f w) : Calls Try.prog F.slices_ContainsFunc_sl_int_int #[s.v, f] w (Ret [.at .bool] Q) :=
  mkC (hint := hint) (ann := annOf []) (args := [s.v, f]) (rs := [.at .bool]) Try.func90 (by kernel_rfl) (by kernel_rfl) h

def V_i_allWithin_1 (Q : Bool → World → Prop) (n : Int) (cap0 : Addr) (cap1 : Addr) (w : World) : Prop :=
  LD [.int .i64] cap0 w fun (x6 : Int) =>
  LD [.int .i64] cap1 w fun (x7 : Int) =>
  Calls Try.prog F.i_within #[.int .i64 n, .int .i64 x6, .int .i64 x7] w (Ret [.at .bool] fun (x8 : Bool) w1 =>
  Q (!x8) w1)

theorem C_i_allWithin_1 {Q : Bool → World → Prop} {n : Int} {cap0 : Addr} {cap1 : Addr} {w : World} (h : V_i_allWithin_1 Q n cap0 cap1 w) : Calls Try.prog F.i_allWithin_1 #[.int .i64 n, .pointer (some cap0), .pointer (some cap1)] w (Ret [.at .bool] Q) :=
  mkC (hint := hint) (ann := annOf []) (args := [.int .i64 n, .pointer (some cap0), .pointer (some cap1)]) (rs := [.at .bool]) Try.func91 (by kernel_rfl) (by kernel_rfl) h

def V_slices_Index_sl_int_int (Q : Int → World → Prop) (s : Sl) (v : Int) (w : World) : Prop :=
  ∃ (I2 : Int → World → Prop) (m2 : Int → World → Nat), I2 0 w ∧ ∀ (x8 : Int) w1, I2 x8 w1 → ∀ _ _ _ _ _ _ _ _ _ _ _ _ : Value,
  cond (decide ((x8 : Int) < s.len)) (
  IX s x8 1 fun (px14 : Addr) =>
  LD [.int .i64] px14 w1 fun (x15 : Int) =>
  cond ((v : Int) == x15) (
  Q x8 w1) (
  I2 (IntKind.i64.wrap (x8 + 1)) w1 ∧ m2 (IntKind.i64.wrap (x8 + 1)) w1 < m2 x8 w1)) (
  Q (-1) w1)

theorem C_slices_Index_sl_int_int {Q : Int → World → Prop} {s : Sl} {v : Int} {w : World} (h : V_slices_Index_sl_int_int Q s v w) : Calls Try.prog F.slices_Index_sl_int_int #[s.v, .int .i64 v] w (Ret [.at (.int .i64)] Q) :=
  mkC (hint := hint) (ann := annOf [(2, ⟨[(8, .int .i64)], [4, 5, 9, 10, 11, 12, 13, 14, 15, 16, 17, 18]⟩)]) (args := [s.v, .int .i64 v]) (rs := [.at (.int .i64)]) Try.func92 (by kernel_rfl) (by kernel_rfl) h

def V_slices_SortFunc_sl_sl_int_sl_int (Q : World → Prop) (x : Sl) (cmp : Value) (w : World) : Prop :=
  Calls Try.prog F.math_bits_Len #[.int .u64 (IntKind.u64.wrap x.len)] w (Ret [.at (.int .i64)] fun (x11 : Int) w1 =>
  Calls Try.prog F.slices_pdqsortCmpFunc_sl_int #[x.v, .int .i64 0, .int .i64 x.len, .int .i64 x11, cmp] w1 (Ret [] fun w2 =>
  Q w2))

theorem C_slices_SortFunc_sl_sl_int_sl_int {Q : World → Prop} {x : Sl} {cmp : Value} {w : World} (h : V_slices_SortFunc_sl_sl_int_sl_int Q x cmp w) : Calls Try.prog F.slices_SortFunc_sl_sl_int_sl_int #[x.v, cmp] w (Ret [] Q) :=
  mkC (hint := hint) (ann := annOf []) (args := [x.v, cmp]) (rs := []) Try.func95 (by kernel_rfl) (by kernel_rfl) h

def V_slices_CompactFunc_sl_sl_int_sl_int (Q : Sl → World → Prop) (x0 : Sl) (x1 : Value) (w : World) : Prop :=
  cond (decide ((x0.len : Int) < 2)) (
  Q x0 w) (
  ∃ (I4 : Int → World → Prop) (m4 : Int → World → Nat), I4 1 w ∧ ∀ (x5 : Int) w1, I4 x5 w1 → ∀ _ _ _ _ _ _ _ _ _ _ _ _ _ _ _ _ _ _ _ _ _ _ _ _ _ _ _ _ _ _ _ _ _ _ _ _ _ _ _ _ _ _ _ _ _ _ _ _ _ _ _ _ _ _ _ _ : Value,
  cond (decide ((x5 : Int) < x0.len)) (
  ∀ w2, Ext w1 w2 → w2.heap = w1.heap →
  IX x0 x5 1 fun (px21 : Addr) =>
  LD [.sl] px21 w2 fun (x22 : Sl) =>
  Ext w2 w2 ∧ (
  Ext w2 w2 ∧ (
  IX x0 (IntKind.i64.wrap (x5 - 1)) 1 fun (px26 : Addr) =>
  Ext w2 w2 ∧ (
  LD [.sl] px26 w2 fun (x27 : Sl) =>
  Ext w2 w2 ∧ (
  CALLV Try.prog x1 #[x22.v, x27.v] w2 (Ret [.at .bool] fun (x28 : Bool) w3 =>
  Ext w2 w3 ∧ (
  cond x28 (
  SLC x0 (some x5) none 1 fun (x31 : Sl) =>
  ∃ (I9 : Int → Int → World → Prop) (m9 : Int → Int → World → Nat), I9 x5 1 w3 ∧ ∀ (x5_2 : Int) (x7 : Int) w4, I9 x5_2 x7 w4 → ∀ _ _ _ _ _ _ _ _ _ _ _ _ _ _ _ _ _ _ _ _ _ _ _ _ _ _ _ : Value,
  cond (decide ((x7 : Int) < x31.len)) (
  ∀ w5, Ext w4 w5 → w5.heap = w4.heap →
  IX x31 x7 1 fun (px41 : Addr) =>
  LD [.sl] px41 w5 fun (x42 : Sl) =>
  Ext w5 w5 ∧ (
  Ext w5 w5 ∧ (
  IX x31 (IntKind.i64.wrap (x7 - 1)) 1 fun (px46 : Addr) =>
  Ext w5 w5 ∧ (
  LD [.sl] px46 w5 fun (x47 : Sl) =>
  Ext w5 w5 ∧ (
  CALLV Try.prog x1 #[x42.v, x47.v] w5 (Ret [.at .bool] fun (x48 : Bool) w6 =>
  Ext w5 w6 ∧ (
  Ext w5 w6 ∧ (
  cond (!x48) (
  IX x31 x7 1 fun (px54 : Addr) =>
  LD [.sl] px54 w6 fun (x55 : Sl) =>
  IX x0 x5_2 1 fun (px56 : Addr) =>
  ST px56 0 [x55.v] w6 fun w7 =>
  I9 (IntKind.i64.wrap (x5_2 + 1)) (IntKind.i64.wrap (x7 + 1)) w7 ∧ m9 (IntKind.i64.wrap (x5_2 + 1)) (IntKind.i64.wrap (x7 + 1)) w7 < m9 x5_2 x7 w4) (
  I9 x5_2 (IntKind.i64.wrap (x7 + 1)) w6 ∧ m9 x5_2 (IntKind.i64.wrap (x7 + 1)) w6 < m9 x5_2 x7 w4))))))))) (
  SLC x0 (some x5_2) none 1 fun (x61 : Sl) =>
  RUN Try.prog (.at .val) (bsem .clear #[T.t_sl_sl_int] T.t_unit #[x61.v]) w4 fun (x : Value) w8 =>
  SLC x0 none (some x5_2) 1 fun (x64 : Sl) =>
  Q x64 w8)) (
  I4 (IntKind.i64.wrap (x5 + 1)) w3 ∧ m4 (IntKind.i64.wrap (x5 + 1)) w3 < m4 x5 w1)))))))) (
  Q x0 w1))

theorem C_slices_CompactFunc_sl_sl_int_sl_int {Q : Sl → World → Prop} {x0 : Sl} {x1 : Value} {w : World} (h : V_slices_CompactFunc_sl_sl_int_sl_int Q x0 x1 w) : Calls Try.prog F.slices_CompactFunc_sl_sl_int_sl_int #[x0.v, x1] w (Ret [.at .sl] Q) :=
  mkC (hint := hint) (ann := annOf [(4, ⟨[(5, .int .i64)], [4, 6, 7, 12, 13, 14, 15, 16, 17, 18, 19, 20, 21, 22, 23, 24, 25, 26, 27, 28, 29, 30, 31, 32, 33, 34, 35, 36, 37, 38, 39, 40, 41, 42, 43, 44, 45, 46, 47, 48, 49, 50, 51, 52, 53, 54, 55, 56, 57, 58, 59, 60, 61, 62, 63, 64]⟩), (9, ⟨[(5, .int .i64), (7, .int .i64)], [32, 33, 34, 35, 36, 37, 38, 39, 40, 41, 42, 43, 44, 45, 46, 47, 48, 49, 50, 51, 52, 53, 54, 55, 56, 57, 58]⟩)]) (args := [x0.v, x1]) (rs := [.at .sl]) Try.func96 (by kernel_rfl) (by kernel_rfl) h

def V_slices_Equal_sl_int_int (Q : Bool → World → Prop) (s1 : Sl) (s2 : Sl) (w : World) : Prop :=
  cond ((s1.len : Int) != s2.len) (
  Q false w) (
  ∃ (I4 : Int → World → Prop) (m4 : Int → World → Nat), I4 0 w ∧ ∀ (x13 : Int) w1, I4 x13 w1 → ∀ _ _ _ _ _ _ _ _ _ _ _ _ _ _ : Value,
  cond (decide ((x13 : Int) < s1.len)) (
  IX s1 x13 1 fun (px18 : Addr) =>
  LD [.int .i64] px18 w1 fun (x19 : Int) =>
  IX s2 x13 1 fun (px22 : Addr) =>
  LD [.int .i64] px22 w1 fun (x23 : Int) =>
  ∀ w2, Ext w1 w2 →
  cond ((x19 : Int) != x23) (
  Q false w2) (
  I4 (IntKind.i64.wrap (x13 + 1)) w2 ∧ m4 (IntKind.i64.wrap (x13 + 1)) w2 < m4 x13 w1)) (
  Q true w1))

theorem C_slices_Equal_sl_int_int {Q : Bool → World → Prop} {s1 : Sl} {s2 : Sl} {w : World} (h : V_slices_Equal_sl_int_int Q s1 s2 w) : Calls Try.prog F.slices_Equal_sl_int_int #[s1.v, s2.v] w (Ret [.at .bool] Q) :=
  mkC (hint := hint) (ann := annOf [(4, ⟨[(13, .int .i64)], [4, 5, 14, 15, 16, 17, 18, 19, 20, 21, 22, 23, 24, 25]⟩)]) (args := [s1.v, s2.v]) (rs := [.at .bool]) Try.func97 (by kernel_rfl) (by kernel_rfl) h

def V_s_l1Has (Q : Bool → World → Prop) (l : Sl) (n : Int) (w : World) : Prop :=
  ∃ (I2 : Int → World → Prop) (m2 : Int → World → Nat), I2 0 w ∧ ∀ (x9 : Int) w1, I2 x9 w1 → ∀ _ _ _ _ _ _ _ _ _ : Value,
  cond (decide ((x9 : Int) < l.len)) (
  IX l x9 1 fun (px11 : Addr) =>
  LD [.int .i64] px11 w1 fun (x12 : Int) =>
  cond ((x12 : Int) == n) (
  Q true w1) (
  I2 (IntKind.i64.wrap (x9 + 1)) w1 ∧ m2 (IntKind.i64.wrap (x9 + 1)) w1 < m2 x9 w1)) (
  Q false w1)

theorem C_s_l1Has {Q : Bool → World → Prop} {l : Sl} {n : Int} {w : World} (h : V_s_l1Has Q l n w) : Calls Try.prog F.s_l1Has #[l.v, .int .i64 n] w (Ret [.at .bool] Q) :=
  mkC (hint := hint) (ann := annOf [(2, ⟨[(9, .int .i64)], [4, 6, 10, 11, 12, 13, 14, 15, 16]⟩)]) (args := [l.v, .int .i64 n]) (rs := [.at .bool]) Try.func98 (by kernel_rfl) (by kernel_rfl) h

def V_slices_BinarySearchFunc_sl_sl_int_sl_int_sl_int (Q : Int → Bool → World → Prop) (x : Sl) (target : Sl) (cmp : Value) (w : World) : Prop :=
  ∃ (I3 : Int → Int → World → Prop) (m3 : Int → Int → World → Nat), I3 0 x.len w ∧ ∀ (i : Int) (j : Int) w1, I3 i j w1 → ∀ _ _ _ _ _ _ _ _ _ _ _ _ _ _ _ _ _ _ _ _ _ : Value,
  cond (decide ((i : Int) < j)) (
  (0 : Int) ≤ 1 ∧ (
  IX x (IntKind.i64.wrap (shrI .u64 (IntKind.u64.wrap (IntKind.i64.wrap (i + j))) 1)) 1 fun (px27 : Addr) =>
  LD [.sl] px27 w1 fun (x28 : Sl) =>
  CALLV Try.prog cmp #[x28.v, target.v] w1 (Ret [.at (.int .i64)] fun (x30 : Int) w2 =>
  cond (decide ((x30 : Int) < 0)) (
  I3 (IntKind.i64.wrap ((IntKind.i64.wrap (shrI .u64 (IntKind.u64.wrap (IntKind.i64.wrap (i + j))) 1)) + 1)) j w2 ∧ m3 (IntKind.i64.wrap ((IntKind.i64.wrap (shrI .u64 (IntKind.u64.wrap (IntKind.i64.wrap (i + j))) 1)) + 1)) j w2 < m3 i j w1) (
  I3 i (IntKind.i64.wrap (shrI .u64 (IntKind.u64.wrap (IntKind.i64.wrap (i + j))) 1)) w2 ∧ m3 i (IntKind.i64.wrap (shrI .u64 (IntKind.u64.wrap (IntKind.i64.wrap (i + j))) 1)) w2 < m3 i j w1)))) (
  cond (decide ((i : Int) < x.len)) (
  IX x i 1 fun (px43 : Addr) =>
  LD [.sl] px43 w1 fun (x44 : Sl) =>
  CALLV Try.prog cmp #[x44.v, target.v] w1 (Ret [.at (.int .i64)] fun (x46 : Int) w3 =>
  Q i ((x46 : Int) == 0) w3)) (
  Q i false w1))

theorem C_slices_BinarySearchFunc_sl_sl_int_sl_int_sl_int {Q : Int → Bool → World → Prop} {x : Sl} {target : Sl} {cmp : Value} {w : World} (h : V_slices_BinarySearchFunc_sl_sl_int_sl_int_sl_int Q x target cmp w) : Calls Try.prog F.slices_BinarySearchFunc_sl_sl_int_sl_int_sl_int #[x.v, target.v, cmp] w (Ret [.at (.int .i64), .at .bool] Q) :=
  mkC (hint := hint) (ann := annOf [(3, ⟨[(9, .int .i64), (10, .int .i64)], [11, 15, 16, 17, 18, 19, 20, 21, 22, 23, 24, 25, 26, 27, 28, 29, 30, 31, 32, 33, 34]⟩)]) (args := [x.v, target.v, cmp]) (rs := [.at (.int .i64), .at .bool]) Try.func101 (by kernel_rfl) (by kernel_rfl) h

def V_slices_Sorted_int (Q : Sl → World → Prop) (seq : Value) (w : World) : Prop :=
  Calls Try.prog F.slices_Collect_int #[seq] w (Ret [.at .sl] fun (x5 : Sl) w1 =>
  Calls Try.prog F.slices_Sort_sl_int_int #[x5.v] w1 (Ret [] fun w2 =>
  Q x5 w2))

theorem C_slices_Sorted_int {Q : Sl → World → Prop} {seq : Value} {w : World} (h : V_slices_Sorted_int Q seq w) : Calls Try.prog F.slices_Sorted_int #[seq] w (Ret [.at .sl] Q) :=
  mkC (hint := hint) (ann := annOf []) (args := [seq]) (rs := [.at .sl]) Try.func102 (by kernel_rfl) (by kernel_rfl) h

def V_slices_Values_sl_int_int (Q : Value → World → Prop) (s : Sl) (w : World) : Prop :=
  NEW T.t_sl_int #[s.v] w fun (p_s : Addr) w1 =>
  Q (.func (.func F.slices_Values_sl_int_int_1) #[] #[.pointer (some p_s)]) w1

theorem C_slices_Values_sl_int_int {Q : Value → World → Prop} {s : Sl} {w : World} (h : V_slices_Values_sl_int_int Q s w) : Calls Try.prog F.slices_Values_sl_int_int #[s.v] w (Ret [.at .val] Q) :=
  mkC (hint := hint) (ann := annOf []) (args := [s.v]) (rs := [.at .val]) Try.func103 (by kernel_rfl) (by kernel_rfl) h

def V_s_l1Sign (Q : Int → World → Prop) (n : Int) (w : World) : Prop :=
  cond (decide ((n : Int) > 0)) (
  Q 1 w) (
  cond (decide ((n : Int) < 0)) (
  Q (-1) w) (
  Q 0 w))

theorem C_s_l1Sign {Q : Int → World → Prop} {n : Int} {w : World} (h : V_s_l1Sign Q n w) : Calls Try.prog F.s_l1Sign #[.int .i64 n] w (Ret [.at (.int .i64)] Q) :=
  mkC (hint := hint) (ann := annOf []) (args := [.int .i64 n]) (rs := [.at (.int .i64)]) Try.func104 (by kernel_rfl) (by kernel_rfl) h

def V_slices_IndexFunc_sl_int_int (Q : Int → World → Prop) (s : Sl) (f : Value) (w : World) : Prop :=
  ∃ (I2 : Int → World → Prop) (m2 : Int → World → Nat), I2 0 w ∧ ∀ (x8 : Int) w1, I2 x8 w1 → ∀ _ _ _ _ _ _ _ _ _ _ _ _ : Value,
  cond (decide ((x8 : Int) < s.len)) (
  IX s x8 1 fun (px14 : Addr) =>
  LD [.int .i64] px14 w1 fun (x15 : Int) =>
  CALLV Try.prog f #[.int .i64 x15] w1 (Ret [.at .bool] fun (x16 : Bool) w2 =>
  cond x16 (
  Q x8 w2) (
  I2 (IntKind.i64.wrap (x8 + 1)) w2 ∧ m2 (IntKind.i64.wrap (x8 + 1)) w2 < m2 x8 w1))) (
  Q (-1) w1)

theorem C_slices_IndexFunc_sl_int_int {Q : Int → World → Prop} {s : Sl} {f : Value} {w : World} (h : V_slices_IndexFunc_sl_int_int Q s f w) : Calls Try.prog F.slices_IndexFunc_sl_int_int #[s.v, f] w (Ret [.at (.int .i64)] Q) :=
  mkC (hint := hint) (ann := annOf [(2, ⟨[(8, .int .i64)], [4, 5, 9, 10, 11, 12, 13, 14, 15, 16, 17, 18]⟩)]) (args := [s.v, f]) (rs := [.at (.int .i64)]) Try.func105 (by kernel_rfl) (by kernel_rfl) h

def V_slices_Collect_int (Q : Sl → World → Prop) (seq : Value) (w : World) : Prop :=
  Calls Try.prog F.slices_AppendSeq_sl_int_int #[.slice none 0 0, seq] w (Ret [.at .sl] fun (x4 : Sl) w1 =>
  Q x4 w1)

theorem C_slices_Collect_int {Q : Sl → World → Prop} {seq : Value} {w : World} (h : V_slices_Collect_int Q seq w) : Calls Try.prog F.slices_Collect_int #[seq] w (Ret [.at .sl] Q) :=
  mkC (hint := hint) (ann := annOf []) (args := [seq]) (rs := [.at .sl]) Try.func118 (by kernel_rfl) (by kernel_rfl) h

def V_slices_Values_sl_int_int_1 (Q : World → Prop) (yield : Value) (cap0 : Addr) (w : World) : Prop :=
  LD [.sl] cap0 w fun (x5 : Sl) =>
  ∃ (I1 : Int → World → Prop) (m1 : Int → World → Nat), I1 0 w ∧ ∀ (x7 : Int) w1, I1 x7 w1 → ∀ _ _ _ _ _ _ _ _ _ : Value,
  cond (decide ((x7 : Int) < x5.len)) (
  IX x5 x7 1 fun (px9 : Addr) =>
  LD [.int .i64] px9 w1 fun (x10 : Int) =>
  CALLV Try.prog yield #[.int .i64 x10] w1 (Ret [.at .bool] fun (x13 : Bool) w2 =>
  cond (!x13) (
  Q w2) (
  I1 (IntKind.i64.wrap (x7 + 1)) w2 ∧ m1 (IntKind.i64.wrap (x7 + 1)) w2 < m1 x7 w1))) (
  Q w1)

theorem C_slices_Values_sl_int_int_1 {Q : World → Prop} {yield : Value} {cap0 : Addr} {w : World} (h : V_slices_Values_sl_int_int_1 Q yield cap0 w) : Calls Try.prog F.slices_Values_sl_int_int_1 #[yield, .pointer (some cap0)] w (Ret [] Q) :=
  mkC (hint := hint) (ann := annOf [(1, ⟨[(7, .int .i64)], [4, 8, 9, 10, 11, 12, 13, 14, 15]⟩)]) (args := [yield, .pointer (some cap0)]) (rs := []) Try.func119 (by kernel_rfl) (by kernel_rfl) h

end Go.Proofs.Ytjfodknpphhajaa
