/- What each function's code computes to. Printed by a program. -/
import Derived.Test.YtcilbmkieclelaaNames
namespace Go.Proofs.Ytcilbmkieclelaa
open Go.GX Go.RowKit
set_option linter.unusedVariables false
set_option maxRecDepth 100000

def V_s_neIds (Q : Bool → World → Prop) (ids : Sl) (nodes : Int) (w : World) : Prop :=
  ∃ (I2 : Int → World → Prop) (m2 : Int → World → Nat), I2 0 w ∧ ∀ (x9 : Int) w1, I2 x9 w1 → ∀ _ _ _ _ _ _ _ _ _ _ _ _ _ _ _ _ _ _ : Value,
  cond (decide ((x9 : Int) < ids.len)) (
  IX ids x9 1 fun (px12 : Addr) =>
  LD [.int .i64] px12 w1 fun (x13 : Int) =>
  Calls Try.prog F.s_l1In #[.int .i64 x13, .int .i64 1, .int .i64 999999] w1 (Ret [.at .bool] fun (x15 : Bool) w2 =>
  cond (!x15) (
  Q false w2) (
  SLC ids none (some x9) 1 fun (x20 : Sl) =>
  Calls Try.prog F.s_l1Has #[x20.v, .int .i64 x13] w2 (Ret [.at .bool] fun (x22 : Bool) w3 =>
  cond x22 (
  Q false w3) (
  I2 (IntKind.i64.wrap (x9 + 1)) w3 ∧ m2 (IntKind.i64.wrap (x9 + 1)) w3 < m2 x9 w1))))) (
  cond ((ids.len : Int) == 0) (
  Q true w1) (
  Q ((ids.len : Int) == nodes) w1))

theorem C_s_neIds {Q : Bool → World → Prop} {ids : Sl} {nodes : Int} {w : World} (h : V_s_neIds Q ids nodes w) : Calls Try.prog F.s_neIds #[ids.v, .int .i64 nodes] w (Ret [.at .bool] Q) :=
  mkC (hint := hint) (ann := annOf [(2, ⟨[(9, .int .i64)], [4, 5, 6, 10, 11, 12, 13, 14, 15, 16, 17, 18, 19, 20, 21, 22, 23, 24]⟩)]) (args := [ids.v, .int .i64 nodes]) (rs := [.at .bool]) Try.func109 (by kernel_rfl) (by kernel_rfl) h

def V_s_l1All (Q : Bool → World → Prop) (l : Sl) (lo : Int) (hi : Int) (w : World) : Prop :=
  ∃ (I2 : Int → World → Prop) (m2 : Int → World → Nat), I2 0 w ∧ ∀ (x11 : Int) w1, I2 x11 w1 → ∀ _ _ _ _ _ _ _ _ _ _ _ : Value,
  cond (decide ((x11 : Int) < l.len)) (
  IX l x11 1 fun (px13 : Addr) =>
  LD [.int .i64] px13 w1 fun (x14 : Int) =>
  Calls Try.prog F.s_l1In #[.int .i64 x14, .int .i64 lo, .int .i64 hi] w1 (Ret [.at .bool] fun (x18 : Bool) w2 =>
  cond (!x18) (
  Q false w2) (
  I2 (IntKind.i64.wrap (x11 + 1)) w2 ∧ m2 (IntKind.i64.wrap (x11 + 1)) w2 < m2 x11 w1))) (
  Q true w1)

theorem C_s_l1All {Q : Bool → World → Prop} {l : Sl} {lo : Int} {hi : Int} {w : World} (h : V_s_l1All Q l lo hi w) : Calls Try.prog F.s_l1All #[l.v, .int .i64 lo, .int .i64 hi] w (Ret [.at .bool] Q) :=
  mkC (hint := hint) (ann := annOf [(2, ⟨[(11, .int .i64)], [6, 8, 12, 13, 14, 15, 16, 17, 18, 19, 20]⟩)]) (args := [l.v, .int .i64 lo, .int .i64 hi]) (rs := [.at .bool]) Try.func110 (by kernel_rfl) (by kernel_rfl) h

def V_l_toEndS (Q : Sl → World → Prop) (a : Sl) (w : World) : Prop :=
  RUN Try.prog (.at .sl) (Instr.makeSlice T.t_sl_i_End (.int .i64 a.len) (.int .i64 a.len)) w fun (x7 : Sl) w1 =>
  ∃ (I3 : Int → World → Prop) (m3 : Int → World → Nat), I3 0 w1 ∧ ∀ (i : Int) w2, I3 i w2 → ∀ _ _ _ _ _ _ _ _ _ _ _ _ _ _ : Value,
  cond (decide ((i : Int) < a.len)) (
  IX a i 2 fun (px18 : Addr) =>
  LD [.int .i64, .int .i64] px18 w2 fun (x19_0 : Int) (x19_1 : Int) =>
  Calls Try.prog F.l_toEnd #[.agg #[.int .i64 x19_0, .int .i64 x19_1]] w2 (Ret [.agg [.int .i64, .int .i64]] fun (x20_0 : Int) (x20_1 : Int) w3 =>
  IX x7 i 2 fun (px21 : Addr) =>
  ST px21 0 [.int .i64 x20_0, .int .i64 x20_1] w3 fun w4 =>
  I3 (IntKind.i64.wrap (i + 1)) w4 ∧ m3 (IntKind.i64.wrap (i + 1)) w4 < m3 i w2)) (
  Q x7 w2)

theorem C_l_toEndS {Q : Sl → World → Prop} {a : Sl} {w : World} (h : V_l_toEndS Q a w) : Calls Try.prog F.l_toEndS #[a.v] w (Ret [.at .sl] Q) :=
  mkC (hint := hint) (ann := annOf [(3, ⟨[(4, .int .i64)], [8, 9, 10, 11, 12, 13, 14, 15, 16, 17, 18, 19, 20, 21]⟩)]) (args := [a.v]) (rs := [.at .sl]) Try.func111 (by kernel_rfl) (by kernel_rfl) h

def V_i_idsOk (Q : Bool → World → Prop) (ids : Sl) (nodes : Int) (w : World) : Prop :=
  cond ((ids.len : Int) == 0) (
  Q true w) (
  Calls Try.prog F.slices_Clone_sl_int_int #[ids.v] w (Ret [.at .sl] fun (x10 : Sl) w1 =>
  Calls Try.prog F.slices_Sort_sl_int_int #[x10.v] w1 (Ret [] fun w2 =>
  cond ((ids.len : Int) == nodes) (
  Calls Try.prog F.i_increasing #[x10.v, .int .i64 1, .int .i64 999999] w2 (Ret [.at .bool] fun (x19 : Bool) w3 =>
  Q x19 w3)) (
  Q false w2))))

theorem C_i_idsOk {Q : Bool → World → Prop} {ids : Sl} {nodes : Int} {w : World} (h : V_i_idsOk Q ids nodes w) : Calls Try.prog F.i_idsOk #[ids.v, .int .i64 nodes] w (Ret [.at .bool] Q) :=
  mkC (hint := hint) (ann := annOf []) (args := [ids.v, .int .i64 nodes]) (rs := [.at .bool]) Try.func112 (by kernel_rfl) (by kernel_rfl) h

def V_i_inputsOk (Q : Bool → World → Prop) (inputs : Sl) (nodes : Int) (w : World) : Prop :=
  cond ((inputs.len : Int) == nodes) (
  Calls Try.prog F.i_allWithin #[inputs.v, .int .i64 0, .int .i64 9] w (Ret [.at .bool] fun (x11 : Bool) w1 =>
  Q x11 w1)) (
  Q false w)

theorem C_i_inputsOk {Q : Bool → World → Prop} {inputs : Sl} {nodes : Int} {w : World} (h : V_i_inputsOk Q inputs nodes w) : Calls Try.prog F.i_inputsOk #[inputs.v, .int .i64 nodes] w (Ret [.at .bool] Q) :=
  mkC (hint := hint) (ann := annOf []) (args := [inputs.v, .int .i64 nodes]) (rs := [.at .bool]) Try.func113 (by kernel_rfl) (by kernel_rfl) h

def V_i_Network_hasPort (Q : Bool → World → Prop) (n_0 : Sl) (n_1 : Sl) (n_2 : Sl) (v : Int) (i : Int) (w : World) : Prop :=
  NEW T.t_i_Network #[n_0.v, n_1.v, n_2.v] w fun (p_n : Addr) w1 =>
  LD [.sl, .sl, .sl] p_n w1 fun (x7_0 : Sl) (x7_1 : Sl) (x7_2 : Sl) =>
  Calls Try.prog F.i_Network_hasNode #[.agg #[x7_0.v, x7_1.v, x7_2.v], .int .i64 v] w1 (Ret [.at .bool] fun (x9 : Bool) w2 =>
  cond x9 (
  LD [.sl] (p_n.add 0) w2 fun (x13 : Sl) =>
  IX x13 v 1 fun (px15 : Addr) =>
  LD [.sl] px15 w2 fun (x16 : Sl) =>
  Calls Try.prog F.i_within #[.int .i64 i, .int .i64 0, .int .i64 (IntKind.i64.wrap (x16.len - 1))] w2 (Ret [.at .bool] fun (x19 : Bool) w3 =>
  Q x19 w3)) (
  Q false w2))

theorem C_i_Network_hasPort {Q : Bool → World → Prop} {n_0 : Sl} {n_1 : Sl} {n_2 : Sl} {v : Int} {i : Int} {w : World} (h : V_i_Network_hasPort Q n_0 n_1 n_2 v i w) : Calls Try.prog F.i_Network_hasPort #[.agg #[n_0.v, n_1.v, n_2.v], .int .i64 v, .int .i64 i] w (Ret [.at .bool] Q) :=
  mkC (hint := hint) (ann := annOf []) (args := [.agg #[n_0.v, n_1.v, n_2.v], .int .i64 v, .int .i64 i]) (rs := [.at .bool]) Try.func114 (by kernel_rfl) (by kernel_rfl) h

def V_i_portsOk (Q : Bool → World → Prop) (n_0 : Sl) (n_1 : Sl) (n_2 : Sl) (l : Sl) (w : World) : Prop :=
  NEW T.t_i_Network #[n_0.v, n_1.v, n_2.v] w fun (p_n : Addr) w1 =>
  LD [.sl] (p_n.add 0) w1 fun (x10 : Sl) =>
  cond ((l.len : Int) != x10.len) (
  Q false w1) (
  ∃ (I4 : Int → World → Prop) (m4 : Int → World → Nat), I4 0 w1 ∧ ∀ (x15 : Int) w2, I4 x15 w2 → ∀ _ _ _ _ _ _ _ _ _ _ _ _ _ _ _ _ _ : Value,
  cond (decide ((x15 : Int) < l.len)) (
  IX l x15 1 fun (px18 : Addr) =>
  LD [.sl] px18 w2 fun (x19 : Sl) =>
  LD [.sl] (p_n.add 0) w2 fun (x23 : Sl) =>
  IX x23 x15 1 fun (px25 : Addr) =>
  LD [.sl] px25 w2 fun (x26 : Sl) =>
  cond ((x19.len : Int) != x26.len) (
  Q false w2) (
  I4 (IntKind.i64.wrap (x15 + 1)) w2 ∧ m4 (IntKind.i64.wrap (x15 + 1)) w2 < m4 x15 w2)) (
  Q true w2))

theorem C_i_portsOk {Q : Bool → World → Prop} {n_0 : Sl} {n_1 : Sl} {n_2 : Sl} {l : Sl} {w : World} (h : V_i_portsOk Q n_0 n_1 n_2 l w) : Calls Try.prog F.i_portsOk #[.agg #[n_0.v, n_1.v, n_2.v], l.v] w (Ret [.at .bool] Q) :=
  mkC (hint := hint) (ann := annOf [(4, ⟨[(15, .int .i64)], [4, 5, 6, 16, 17, 18, 19, 20, 21, 22, 23, 24, 25, 26, 27, 28, 29]⟩)]) (args := [.agg #[n_0.v, n_1.v, n_2.v], l.v]) (rs := [.at .bool]) Try.func115 (by kernel_rfl) (by kernel_rfl) h

def V_i_increasing (Q : Bool → World → Prop) (list : Sl) (low : Int) (high : Int) (w : World) : Prop :=
  ∃ (I2 : Int → World → Prop) (m2 : Int → World → Nat), I2 0 w ∧ ∀ (x11 : Int) w1, I2 x11 w1 → ∀ _ _ _ _ _ _ _ _ _ _ _ _ _ _ _ _ _ _ _ _ _ _ _ _ _ _ : Value,
  cond (decide ((x11 : Int) < list.len)) (
  IX list x11 1 fun (px14 : Addr) =>
  LD [.int .i64] px14 w1 fun (x15 : Int) =>
  Calls Try.prog F.i_within #[.int .i64 x15, .int .i64 low, .int .i64 high] w1 (Ret [.at .bool] fun (x19 : Bool) w2 =>
  cond (!x19) (
  Q false w2) (
  cond (decide ((x11 : Int) > 0)) (
  IX list (IntKind.i64.wrap (x11 - 1)) 1 fun (px28 : Addr) =>
  LD [.int .i64] px28 w2 fun (x29 : Int) =>
  cond (decide ((x29 : Int) ≥ x15)) (
  Q false w2) (
  I2 (IntKind.i64.wrap (x11 + 1)) w2 ∧ m2 (IntKind.i64.wrap (x11 + 1)) w2 < m2 x11 w1)) (
  I2 (IntKind.i64.wrap (x11 + 1)) w2 ∧ m2 (IntKind.i64.wrap (x11 + 1)) w2 < m2 x11 w1)))) (
  Q true w1)

theorem C_i_increasing {Q : Bool → World → Prop} {list : Sl} {low : Int} {high : Int} {w : World} (h : V_i_increasing Q list low high w) : Calls Try.prog F.i_increasing #[list.v, .int .i64 low, .int .i64 high] w (Ret [.at .bool] Q) :=
  mkC (hint := hint) (ann := annOf [(2, ⟨[(11, .int .i64)], [6, 7, 8, 12, 13, 14, 15, 16, 17, 18, 19, 20, 21, 22, 23, 24, 25, 26, 27, 28, 29, 30, 31, 32, 33, 34]⟩)]) (args := [list.v, .int .i64 low, .int .i64 high]) (rs := [.at .bool]) Try.func116 (by kernel_rfl) (by kernel_rfl) h

def V_slices_Sorted_int (Q : Sl → World → Prop) (seq : Value) (w : World) : Prop :=
  Calls Try.prog F.slices_Collect_int #[seq] w (Ret [.at .sl] fun (x5 : Sl) w1 =>
  Calls Try.prog F.slices_Sort_sl_int_int #[x5.v] w1 (Ret [] fun w2 =>
  Q x5 w2))

theorem C_slices_Sorted_int {Q : Sl → World → Prop} {seq : Value} {w : World} (h : V_slices_Sorted_int Q seq w) : Calls Try.prog F.slices_Sorted_int #[seq] w (Ret [.at .sl] Q) :=
  mkC (hint := hint) (ann := annOf []) (args := [seq]) (rs := [.at .sl]) Try.func117 (by kernel_rfl) (by kernel_rfl) h

def V_slices_Values_sl_int_int (Q : Value → World → Prop) (s : Sl) (w : World) : Prop :=
  NEW T.t_sl_int #[s.v] w fun (p_s : Addr) w1 =>
  Q (.func (.func F.slices_Values_sl_int_int_1) #[] #[.pointer (some p_s)]) w1

theorem C_slices_Values_sl_int_int {Q : Value → World → Prop} {s : Sl} {w : World} (h : V_slices_Values_sl_int_int Q s w) : Calls Try.prog F.slices_Values_sl_int_int #[s.v] w (Ret [.at .val] Q) :=
  mkC (hint := hint) (ann := annOf []) (args := [s.v]) (rs := [.at .val]) Try.func118 (by kernel_rfl) (by kernel_rfl) h

def V_l_eqEndS (Q : Bool → World → Prop) (a : Sl) (b : Sl) (w : World) : Prop :=
  cond ((a.len : Int) != b.len) (
  Q false w) (
  ∃ (I4 : Int → World → Prop) (m4 : Int → World → Nat), I4 0 w ∧ ∀ (i : Int) w1, I4 i w1 → ∀ _ _ _ _ _ _ _ _ _ _ _ _ _ _ _ _ _ : Value,
  cond (decide ((i : Int) < a.len)) (
  IX a i 2 fun (px19 : Addr) =>
  LD [.int .i64, .int .i64] px19 w1 fun (x20_0 : Int) (x20_1 : Int) =>
  IX b i 2 fun (px23 : Addr) =>
  LD [.int .i64, .int .i64] px23 w1 fun (x24_0 : Int) (x24_1 : Int) =>
  QCALL Try.prog F.l_eqEnd #[.agg #[.int .i64 x20_0, .int .i64 x20_1], .agg #[.int .i64 x24_0, .int .i64 x24_1]] w1 [.at .bool] fun (x25 : Bool) =>
  ∀ w2, Ext w1 w2 →
  cond (!x25) (
  Q false w2) (
  I4 (IntKind.i64.wrap (i + 1)) w2 ∧ m4 (IntKind.i64.wrap (i + 1)) w2 < m4 i w1)) (
  Q true w1))

theorem C_l_eqEndS {Q : Bool → World → Prop} {a : Sl} {b : Sl} {w : World} (h : V_l_eqEndS Q a b w) : Calls Try.prog F.l_eqEndS #[a.v, b.v] w (Ret [.at .bool] Q) :=
  mkC (hint := hint) (ann := annOf [(4, ⟨[(5, .int .i64)], [4, 11, 12, 13, 14, 15, 16, 17, 18, 19, 20, 21, 22, 23, 24, 25, 26]⟩)]) (args := [a.v, b.v]) (rs := [.at .bool]) Try.func119 (by kernel_rfl) (by kernel_rfl) h

def V_i_distancesFrom (Q : Sl → World → Prop) (n_0 : Sl) (n_1 : Sl) (n_2 : Sl) (v : Int) (w : World) : Prop :=
  NEW T.t_i_Network #[n_0.v, n_1.v, n_2.v] w fun (p_n : Addr) w1 =>
  RUN Try.prog (.at .sl) (Instr.buildSlice T.t_sl_int 1 #[(0, .int .i64 (-1))]) w1 fun (x10 : Sl) w2 =>
  LD [.sl] (p_n.add 0) w2 fun (x12 : Sl) =>
  Calls Try.prog F.slices_Repeat_sl_int_int #[x10.v, .int .i64 x12.len] w2 (Ret [.at .sl] fun (x14 : Sl) w3 =>
  IX x14 v 1 fun (px17 : Addr) =>
  ST px17 0 [.int .i64 0] w3 fun w4 =>
  RUN Try.prog (.at .sl) (Instr.buildSlice T.t_sl_int 1 #[(0, .int .i64 v)]) w4 fun (x19 : Sl) w5 =>
  ∃ (I4 : Sl → World → Prop) (m4 : Sl → World → Nat), I4 x19 w5 ∧ ∀ (queue : Sl) w6, I4 queue w6 → ∀ _ _ _ _ _ _ _ _ _ _ _ _ _ _ _ _ _ _ _ _ _ _ _ _ _ _ _ _ _ _ _ _ _ _ _ _ _ _ _ _ _ : Value,
  cond (decide ((queue.len : Int) > 0)) (
  IX queue 0 1 fun (px24 : Addr) =>
  LD [.int .i64] px24 w6 fun (x25 : Int) =>
  SLC queue (some 1) none 1 fun (x27 : Sl) =>
  LD [.sl] (p_n.add 0) w6 fun (x29 : Sl) =>
  IX x29 x25 1 fun (px31 : Addr) =>
  LD [.sl] px31 w6 fun (x32 : Sl) =>
  ∃ (I8 : Sl → Int → World → Prop) (m8 : Sl → Int → World → Nat), I8 x27 0 w6 ∧ ∀ (queue_2 : Sl) (x34 : Int) w7, I8 queue_2 x34 w7 → ∀ _ _ _ _ _ _ _ _ _ _ _ _ _ _ _ _ _ _ _ _ _ _ _ _ _ : Value,
  cond (decide ((x34 : Int) < x32.len)) (
  IX x32 x34 2 fun (px36 : Addr) =>
  LD [.int .i64, .int .i64] px36 w7 fun (x37_0 : Int) (x37_1 : Int) =>
  NEW T.t_i_End #[.int .i64 0, .int .i64 0] w7 fun (p_e : Addr) w8 =>
  ST p_e 0 [.int .i64 x37_0, .int .i64 x37_1] w8 fun w9 =>
  LD [.int .i64] (p_e.add 0) w9 fun (x40 : Int) =>
  IX x14 x40 1 fun (px41 : Addr) =>
  LD [.int .i64] px41 w9 fun (x42 : Int) =>
  cond (decide ((x42 : Int) < 0)) (
  ∀ w10, Ext w9 w10 → w10.heap = w9.heap → ∃ (D10 : Nat → Prop),
  ¬ D10 (p_e.add 0).block ∧ (
  LD [.int .i64] (p_e.add 0) w10 fun (x46 : Int) =>
  Chg w10 w10 D10 ∧ (
  IX x14 x25 1 fun (px49 : Addr) =>
  Chg w10 w10 D10 ∧ (
  LD [.int .i64] px49 w10 fun (x50 : Int) =>
  Chg w10 w10 D10 ∧ (
  Chg w10 w10 D10 ∧ (
  IX x14 x46 1 fun (px52 : Addr) =>
  ST px52 0 [.int .i64 (IntKind.i64.wrap (x50 + 1))] w10 fun w11 =>
  LD [.int .i64] (p_e.add 0) w11 fun (x55 : Int) =>
  RUN Try.prog (.at .sl) (Instr.buildSlice T.t_sl_int 1 #[(0, .int .i64 x55)]) w11 fun (x56 : Sl) w12 =>
  RUN Try.prog (.at .sl) (bsem .append #[T.t_sl_int, T.t_sl_int] T.t_sl_int #[queue_2.v, x56.v]) w12 fun (x57 : Sl) w13 =>
  I8 x57 (IntKind.i64.wrap (x34 + 1)) w13 ∧ m8 x57 (IntKind.i64.wrap (x34 + 1)) w13 < m8 queue_2 x34 w7)))))) (
  I8 queue_2 (IntKind.i64.wrap (x34 + 1)) w9 ∧ m8 queue_2 (IntKind.i64.wrap (x34 + 1)) w9 < m8 queue_2 x34 w7)) (
  I4 queue_2 w7 ∧ m4 queue_2 w7 < m4 queue w6)) (
  Q x14 w6))

theorem C_i_distancesFrom {Q : Sl → World → Prop} {n_0 : Sl} {n_1 : Sl} {n_2 : Sl} {v : Int} {w : World} (h : V_i_distancesFrom Q n_0 n_1 n_2 v w) : Calls Try.prog F.i_distancesFrom #[.agg #[n_0.v, n_1.v, n_2.v], .int .i64 v] w (Ret [.at .sl] Q) :=
  mkC (hint := hint) (ann := annOf [(4, ⟨[(6, .sl)], [7, 9, 20, 21, 22, 23, 24, 25, 26, 27, 28, 29, 30, 31, 32, 33, 34, 35, 36, 37, 38, 39, 40, 41, 42, 43, 44, 45, 46, 47, 48, 49, 50, 51, 52, 53, 54, 55, 56, 57, 58]⟩), (8, ⟨[(6, .sl), (34, .int .i64)], [9, 35, 36, 37, 38, 39, 40, 41, 42, 43, 44, 45, 46, 47, 48, 49, 50, 51, 52, 53, 54, 55, 56, 57, 58]⟩)]) (args := [.agg #[n_0.v, n_1.v, n_2.v], .int .i64 v]) (rs := [.at .sl]) Try.func120 (by kernel_rfl) (by kernel_rfl) h

def V_i_areJoined (Q : Bool → World → Prop) (n_0 : Sl) (n_1 : Sl) (n_2 : Sl) (u : Int) (v : Int) (w : World) : Prop :=
  NEW T.t_i_Network #[n_0.v, n_1.v, n_2.v] w fun (p_n : Addr) w1 =>
  NEW T.t_int #[.int .i64 v] w1 fun (p_v : Addr) w2 =>
  LD [.sl] (p_n.add 0) w2 fun (x8 : Sl) =>
  IX x8 u 1 fun (px10 : Addr) =>
  LD [.sl] px10 w2 fun (x11 : Sl) =>
  Calls Try.prog F.slices_ContainsFunc_sl_i_End_i_End #[x11.v, .func (.func F.i_areJoined_1) #[] #[.pointer (some p_v)]] w2 (Ret [.at .bool] fun (x13 : Bool) w3 =>
  Q x13 w3)

theorem C_i_areJoined {Q : Bool → World → Prop} {n_0 : Sl} {n_1 : Sl} {n_2 : Sl} {u : Int} {v : Int} {w : World} (h : V_i_areJoined Q n_0 n_1 n_2 u v w) : Calls Try.prog F.i_areJoined #[.agg #[n_0.v, n_1.v, n_2.v], .int .i64 u, .int .i64 v] w (Ret [.at .bool] Q) :=
  mkC (hint := hint) (ann := annOf []) (args := [.agg #[n_0.v, n_1.v, n_2.v], .int .i64 u, .int .i64 v]) (rs := [.at .bool]) Try.func121 (by kernel_rfl) (by kernel_rfl) h

def V_i_hasNear (Q : Bool → World → Prop) (n_0 : Sl) (n_1 : Sl) (n_2 : Sl) (v : Int) (set1 : Sl) (w : World) : Prop :=
  NEW T.t_i_Network #[n_0.v, n_1.v, n_2.v] w fun (p_n : Addr) w1 =>
  NEW T.t_sl_int #[set1.v] w1 fun (p_set : Addr) w2 =>
  LD [.sl] (p_n.add 0) w2 fun (x8 : Sl) =>
  IX x8 v 1 fun (px10 : Addr) =>
  LD [.sl] px10 w2 fun (x11 : Sl) =>
  Calls Try.prog F.slices_ContainsFunc_sl_i_End_i_End #[x11.v, .func (.func F.i_hasNear_1) #[] #[.pointer (some p_set)]] w2 (Ret [.at .bool] fun (x13 : Bool) w3 =>
  Q x13 w3)

theorem C_i_hasNear {Q : Bool → World → Prop} {n_0 : Sl} {n_1 : Sl} {n_2 : Sl} {v : Int} {set1 : Sl} {w : World} (h : V_i_hasNear Q n_0 n_1 n_2 v set1 w) : Calls Try.prog F.i_hasNear #[.agg #[n_0.v, n_1.v, n_2.v], .int .i64 v, set1.v] w (Ret [.at .bool] Q) :=
  mkC (hint := hint) (ann := annOf []) (args := [.agg #[n_0.v, n_1.v, n_2.v], .int .i64 v, set1.v]) (rs := [.at .bool]) Try.func122 (by kernel_rfl) (by kernel_rfl) h

def V_l_markEndS (Q : Int → World → Prop) (a : Sl) (k : Int) (w : World) : Prop :=
  ∃ (I2 : Int → Int → World → Prop) (m2 : Int → Int → World → Nat), I2 k 0 w ∧ ∀ (k_2 : Int) (i : Int) w1, I2 k_2 i w1 → ∀ _ _ _ _ _ _ _ _ _ _ _ _ _ _ _ _ _ _ _ _ : Value,
  cond (decide ((i : Int) < a.len)) (
  IX a i 2 fun (px15 : Addr) =>
  ST (px15.add 0) 0 [.int .i64 k_2] w1 fun w2 =>
  IX a i 2 fun (px22 : Addr) =>
  ST (px22.add 1) 0 [.int .i64 (IntKind.i64.wrap (k_2 + 1))] w2 fun w3 =>
  I2 (IntKind.i64.wrap ((IntKind.i64.wrap (k_2 + 1)) + 1)) (IntKind.i64.wrap (i + 1)) w3 ∧ m2 (IntKind.i64.wrap ((IntKind.i64.wrap (k_2 + 1)) + 1)) (IntKind.i64.wrap (i + 1)) w3 < m2 k_2 i w1) (
  Q k_2 w1)

theorem C_l_markEndS {Q : Int → World → Prop} {a : Sl} {k : Int} {w : World} (h : V_l_markEndS Q a k w) : Calls Try.prog F.l_markEndS #[a.v, .int .i64 k] w (Ret [.at (.int .i64)] Q) :=
  mkC (hint := hint) (ann := annOf [(2, ⟨[(1, .int .i64), (5, .int .i64)], [6, 7, 8, 9, 10, 11, 12, 13, 14, 15, 16, 17, 18, 19, 20, 21, 22, 23, 24, 25]⟩)]) (args := [a.v, .int .i64 k]) (rs := [.at (.int .i64)]) Try.func124 (by kernel_rfl) (by kernel_rfl) h

def V_s_nuBit (Q : Int → World → Prop) (n : Int) (i : Int) (w : World) : Prop :=
  ∃ (I1 : Int → Int → World → Prop) (m1 : Int → Int → World → Nat), I1 n i w ∧ ∀ (n_2 : Int) (i_2 : Int) w1, I1 n_2 i_2 w1 → ∀ _ _ _ _ _ _ : Value,
  cond (decide ((i_2 : Int) > 0)) (
  (2 : Int) ≠ 0 ∧ (
  I1 (IntKind.i64.wrap (Int.tdiv n_2 2)) (IntKind.i64.wrap (i_2 - 1)) w1 ∧ m1 (IntKind.i64.wrap (Int.tdiv n_2 2)) (IntKind.i64.wrap (i_2 - 1)) w1 < m1 n_2 i_2 w1)) (
  (2 : Int) ≠ 0 ∧ (
  Q (Int.tmod n_2 2) w1))

theorem C_s_nuBit {Q : Int → World → Prop} {n : Int} {i : Int} {w : World} (h : V_s_nuBit Q n i w) : Calls Try.prog F.s_nuBit #[.int .i64 n, .int .i64 i] w (Ret [.at (.int .i64)] Q) :=
  mkC (hint := hint) (ann := annOf [(1, ⟨[(0, .int .i64), (1, .int .i64)], [5, 6, 7, 8, 9, 10]⟩)]) (args := [.int .i64 n, .int .i64 i]) (rs := [.at (.int .i64)]) Try.func125 (by kernel_rfl) (by kernel_rfl) h

def V_slices_IndexFunc_sl_int_int (Q : Int → World → Prop) (s : Sl) (f : Value) (w : World) : Prop :=
  ∃ (I2 : Int → World → Prop) (m2 : Int → World → Nat), I2 0 w ∧ ∀ (x8 : Int) w1, I2 x8 w1 → ∀ _ _ _ _ _ _ _ _ _ _ _ _ : Value,
  cond (decide ((x8 : Int) < s.len)) (
  IX s x8 1 fun (px14 : Addr) =>
  LD [.int .i64] px14 w1 fun (x15 : Int) =>
  CALLV Try.prog f #[.int .i64 x15] w1 (Ret [.at .bool] fun (x16 : Bool) w2 =>
  cond x16 (
  Q x8 w2) (
  I2 (IntKind.i64.wrap (x8 + 1)) w2 ∧ m2 (IntKind.i64.wrap (x8 + 1)) w2 < m2 x8 w1))) (
  Q (-1) w1)

theorem C_slices_IndexFunc_sl_int_int {Q : Int → World → Prop} {s : Sl} {f : Value} {w : World} (h : V_slices_IndexFunc_sl_int_int Q s f w) : Calls Try.prog F.slices_IndexFunc_sl_int_int #[s.v, f] w (Ret [.at (.int .i64)] Q) :=
  mkC (hint := hint) (ann := annOf [(2, ⟨[(8, .int .i64)], [4, 5, 9, 10, 11, 12, 13, 14, 15, 16, 17, 18]⟩)]) (args := [s.v, f]) (rs := [.at (.int .i64)]) Try.func126 (by kernel_rfl) (by kernel_rfl) h

def V_slices_IndexFunc_sl_i_End_i_End (Q : Int → World → Prop) (s : Sl) (f : Value) (w : World) : Prop :=
  ∃ (I2 : Int → World → Prop) (m2 : Int → World → Nat), I2 0 w ∧ ∀ (x8 : Int) w1, I2 x8 w1 → ∀ _ _ _ _ _ _ _ _ _ _ _ _ : Value,
  cond (decide ((x8 : Int) < s.len)) (
  IX s x8 2 fun (px14 : Addr) =>
  LD [.int .i64, .int .i64] px14 w1 fun (x15_0 : Int) (x15_1 : Int) =>
  CALLV Try.prog f #[.agg #[.int .i64 x15_0, .int .i64 x15_1]] w1 (Ret [.at .bool] fun (x16 : Bool) w2 =>
  cond x16 (
  Q x8 w2) (
  I2 (IntKind.i64.wrap (x8 + 1)) w2 ∧ m2 (IntKind.i64.wrap (x8 + 1)) w2 < m2 x8 w1))) (
  Q (-1) w1)

theorem C_slices_IndexFunc_sl_i_End_i_End {Q : Int → World → Prop} {s : Sl} {f : Value} {w : World} (h : V_slices_IndexFunc_sl_i_End_i_End Q s f w) : Calls Try.prog F.slices_IndexFunc_sl_i_End_i_End #[s.v, f] w (Ret [.at (.int .i64)] Q) :=
  mkC (hint := hint) (ann := annOf [(2, ⟨[(8, .int .i64)], [4, 5, 9, 10, 11, 12, 13, 14, 15, 16, 17, 18]⟩)]) (args := [s.v, f]) (rs := [.at (.int .i64)]) Try.func127 (by kernel_rfl) (by kernel_rfl) h

def V_slices_Index_sl_int_int (Q : Int → World → Prop) (s : Sl) (v : Int) (w : World) : Prop :=
  ∃ (I2 : Int → World → Prop) (m2 : Int → World → Nat), I2 0 w ∧ ∀ (x8 : Int) w1, I2 x8 w1 → ∀ _ _ _ _ _ _ _ _ _ _ _ _ : Value,
  cond (decide ((x8 : Int) < s.len)) (
  IX s x8 1 fun (px14 : Addr) =>
  LD [.int .i64] px14 w1 fun (x15 : Int) =>
  cond ((v : Int) == x15) (
  Q x8 w1) (
  I2 (IntKind.i64.wrap (x8 + 1)) w1 ∧ m2 (IntKind.i64.wrap (x8 + 1)) w1 < m2 x8 w1)) (
  Q (-1) w1)

theorem C_slices_Index_sl_int_int {Q : Int → World → Prop} {s : Sl} {v : Int} {w : World} (h : V_slices_Index_sl_int_int Q s v w) : Calls Try.prog F.slices_Index_sl_int_int #[s.v, .int .i64 v] w (Ret [.at (.int .i64)] Q) :=
  mkC (hint := hint) (ann := annOf [(2, ⟨[(8, .int .i64)], [4, 5, 9, 10, 11, 12, 13, 14, 15, 16, 17, 18]⟩)]) (args := [s.v, .int .i64 v]) (rs := [.at (.int .i64)]) Try.func128 (by kernel_rfl) (by kernel_rfl) h

def V_s_mtIs (Q : Bool → World → Prop) (n_0 : Sl) (n_1 : Sl) (n_2 : Sl) (m : Sl) (w : World) : Prop :=
  NEW T.t_i_Network #[n_0.v, n_1.v, n_2.v] w fun (p_n : Addr) w1 =>
  LD [.sl] (p_n.add 0) w1 fun (x11 : Sl) =>
  cond ((m.len : Int) != x11.len) (
  Q false w1) (
  ∃ (I4 : Int → World → Prop) (m4 : Int → World → Nat), I4 0 w1 ∧ ∀ (x16 : Int) w2, I4 x16 w2 → ∀ _ _ _ _ _ _ _ _ _ _ _ _ _ _ _ _ _ _ _ _ _ _ _ _ _ _ _ _ _ _ _ _ _ _ _ _ _ _ _ _ _ _ _ : Value,
  cond (decide ((x16 : Int) < m.len)) (
  IX m x16 1 fun (px19 : Addr) =>
  LD [.int .i64] px19 w2 fun (x20 : Int) =>
  cond ((x20 : Int) == (-1)) (
  I4 (IntKind.i64.wrap (x16 + 1)) w2 ∧ m4 (IntKind.i64.wrap (x16 + 1)) w2 < m4 x16 w2) (
  LD [.sl] (p_n.add 0) w2 fun (x25 : Sl) =>
  IX x25 x16 1 fun (px27 : Addr) =>
  LD [.sl] px27 w2 fun (x28 : Sl) =>
  Calls Try.prog F.s_l1In #[.int .i64 x20, .int .i64 0, .int .i64 (IntKind.i64.wrap (x28.len - 1))] w2 (Ret [.at .bool] fun (x31 : Bool) w3 =>
  cond (!x31) (
  Q false w3) (
  LD [.sl] (p_n.add 0) w3 fun (x34 : Sl) =>
  IX x34 x16 1 fun (px36 : Addr) =>
  LD [.sl] px36 w3 fun (x37 : Sl) =>
  IX x37 x20 2 fun (px39 : Addr) =>
  LD [.int .i64, .int .i64] px39 w3 fun (x40_0 : Int) (x40_1 : Int) =>
  NEW T.t_i_End #[.int .i64 0, .int .i64 0] w3 fun (p_e : Addr) w4 =>
  ST p_e 0 [.int .i64 x40_0, .int .i64 x40_1] w4 fun w5 =>
  LD [.int .i64] (p_e.add 0) w5 fun (x42 : Int) =>
  cond ((x42 : Int) == x16) (
  ∀ w6, Ext w5 w6 →
  Q false w6) (
  LD [.int .i64] (p_e.add 0) w5 fun (x48 : Int) =>
  IX m x48 1 fun (px49 : Addr) =>
  LD [.int .i64] px49 w5 fun (x50 : Int) =>
  LD [.int .i64] (p_e.add 1) w5 fun (x52 : Int) =>
  ∀ w7, Ext w5 w7 →
  cond ((x50 : Int) != x52) (
  Q false w7) (
  I4 (IntKind.i64.wrap (x16 + 1)) w7 ∧ m4 (IntKind.i64.wrap (x16 + 1)) w7 < m4 x16 w2)))))) (
  Q true w2))

theorem C_s_mtIs {Q : Bool → World → Prop} {n_0 : Sl} {n_1 : Sl} {n_2 : Sl} {m : Sl} {w : World} (h : V_s_mtIs Q n_0 n_1 n_2 m w) : Calls Try.prog F.s_mtIs #[.agg #[n_0.v, n_1.v, n_2.v], m.v] w (Ret [.at .bool] Q) :=
  mkC (hint := hint) (ann := annOf [(4, ⟨[(16, .int .i64)], [4, 5, 6, 7, 17, 18, 19, 20, 21, 22, 23, 24, 25, 26, 27, 28, 29, 30, 31, 32, 33, 34, 35, 36, 37, 38, 39, 40, 41, 42, 43, 44, 45, 46, 47, 48, 49, 50, 51, 52, 53, 54, 55]⟩)]) (args := [.agg #[n_0.v, n_1.v, n_2.v], m.v]) (rs := [.at .bool]) Try.func129 (by kernel_rfl) (by kernel_rfl) h

def V_s_l1Own (Q : Sl → World → Prop) (l : Sl) (w : World) : Prop :=
  RUN Try.prog (.at .sl) (Instr.buildSlice T.t_sl_int 0 #[]) w fun (x3 : Sl) w1 =>
  RUN Try.prog (.at .sl) (bsem .append #[T.t_sl_int, T.t_sl_int] T.t_sl_int #[x3.v, l.v]) w1 fun (x5 : Sl) w2 =>
  Q x5 w2

theorem C_s_l1Own {Q : Sl → World → Prop} {l : Sl} {w : World} (h : V_s_l1Own Q l w) : Calls Try.prog F.s_l1Own #[l.v] w (Ret [.at .sl] Q) :=
  mkC (hint := hint) (ann := annOf []) (args := [l.v]) (rs := [.at .sl]) Try.func130 (by kernel_rfl) (by kernel_rfl) h

def V_i_isMatching (Q : Bool → World → Prop) (n_0 : Sl) (n_1 : Sl) (n_2 : Sl) (m : Sl) (w : World) : Prop :=
  NEW T.t_i_Network #[n_0.v, n_1.v, n_2.v] w fun (p_n : Addr) w1 =>
  LD [.sl] (p_n.add 0) w1 fun (x11 : Sl) =>
  cond ((m.len : Int) != x11.len) (
  Q false w1) (
  ∃ (I4 : Int → World → Prop) (m4 : Int → World → Nat), I4 0 w1 ∧ ∀ (x16 : Int) w2, I4 x16 w2 → ∀ _ _ _ _ _ _ _ _ _ _ _ _ _ _ _ _ _ _ _ _ _ _ _ _ _ _ _ _ _ _ _ _ _ _ _ _ _ _ : Value,
  cond (decide ((x16 : Int) < m.len)) (
  IX m x16 1 fun (px19 : Addr) =>
  LD [.int .i64] px19 w2 fun (x20 : Int) =>
  cond ((x20 : Int) == (-1)) (
  I4 (IntKind.i64.wrap (x16 + 1)) w2 ∧ m4 (IntKind.i64.wrap (x16 + 1)) w2 < m4 x16 w2) (
  LD [.sl, .sl, .sl] p_n w2 fun (x23_0 : Sl) (x23_1 : Sl) (x23_2 : Sl) =>
  Calls Try.prog F.i_Network_hasPort #[.agg #[x23_0.v, x23_1.v, x23_2.v], .int .i64 x16, .int .i64 x20] w2 (Ret [.at .bool] fun (x26 : Bool) w3 =>
  cond (!x26) (
  Q false w3) (
  LD [.sl] (p_n.add 0) w3 fun (x29 : Sl) =>
  IX x29 x16 1 fun (px31 : Addr) =>
  LD [.sl] px31 w3 fun (x32 : Sl) =>
  IX x32 x20 2 fun (px34 : Addr) =>
  LD [.int .i64, .int .i64] px34 w3 fun (x35_0 : Int) (x35_1 : Int) =>
  NEW T.t_i_End #[.int .i64 0, .int .i64 0] w3 fun (p_e : Addr) w4 =>
  ST p_e 0 [.int .i64 x35_0, .int .i64 x35_1] w4 fun w5 =>
  LD [.int .i64] (p_e.add 0) w5 fun (x37 : Int) =>
  cond ((x37 : Int) == x16) (
  ∀ w6, Ext w5 w6 →
  Q false w6) (
  LD [.int .i64] (p_e.add 0) w5 fun (x43 : Int) =>
  IX m x43 1 fun (px44 : Addr) =>
  LD [.int .i64] px44 w5 fun (x45 : Int) =>
  LD [.int .i64] (p_e.add 1) w5 fun (x47 : Int) =>
  ∀ w7, Ext w5 w7 →
  cond ((x45 : Int) != x47) (
  Q false w7) (
  I4 (IntKind.i64.wrap (x16 + 1)) w7 ∧ m4 (IntKind.i64.wrap (x16 + 1)) w7 < m4 x16 w2)))))) (
  Q true w2))

theorem C_i_isMatching {Q : Bool → World → Prop} {n_0 : Sl} {n_1 : Sl} {n_2 : Sl} {m : Sl} {w : World} (h : V_i_isMatching Q n_0 n_1 n_2 m w) : Calls Try.prog F.i_isMatching #[.agg #[n_0.v, n_1.v, n_2.v], m.v] w (Ret [.at .bool] Q) :=
  mkC (hint := hint) (ann := annOf [(4, ⟨[(16, .int .i64)], [4, 5, 6, 7, 17, 18, 19, 20, 21, 22, 23, 24, 25, 26, 27, 28, 29, 30, 31, 32, 33, 34, 35, 36, 37, 38, 39, 40, 41, 42, 43, 44, 45, 46, 47, 48, 49, 50]⟩)]) (args := [.agg #[n_0.v, n_1.v, n_2.v], m.v]) (rs := [.at .bool]) Try.func131 (by kernel_rfl) (by kernel_rfl) h

def V_i_portTo_1 (Q : Bool → World → Prop) (e_0 : Int) (e_1 : Int) (cap0 : Addr) (w : World) : Prop :=
  NEW T.t_i_End #[.int .i64 e_0, .int .i64 e_1] w fun (p_e : Addr) w1 =>
  LD [.int .i64] (p_e.add 0) w1 fun (x5 : Int) =>
  LD [.int .i64] cap0 w1 fun (x6 : Int) =>
  Q ((x5 : Int) == x6) w1

theorem C_i_portTo_1 {Q : Bool → World → Prop} {e_0 : Int} {e_1 : Int} {cap0 : Addr} {w : World} (h : V_i_portTo_1 Q e_0 e_1 cap0 w) : Calls Try.prog F.i_portTo_1 #[.agg #[.int .i64 e_0, .int .i64 e_1], .pointer (some cap0)] w (Ret [.at .bool] Q) :=
  mkC (hint := hint) (ann := annOf []) (args := [.agg #[.int .i64 e_0, .int .i64 e_1], .pointer (some cap0)]) (rs := [.at .bool]) Try.func132 (by kernel_rfl) (by kernel_rfl) h

def V_s_mtSet (Q : Bool → World → Prop) (n_0 : Sl) (n_1 : Sl) (n_2 : Sl) (set1 : Sl) (w : World) : Prop :=
  NEW T.t_i_Network #[n_0.v, n_1.v, n_2.v] w fun (p_n : Addr) w1 =>
  LD [.sl, .sl, .sl] p_n w1 fun (x5_0 : Sl) (x5_1 : Sl) (x5_2 : Sl) =>
  Calls Try.prog F.s_neGood #[.agg #[x5_0.v, x5_1.v, x5_2.v]] w1 (Ret [.at .bool] fun (x6 : Bool) w2 =>
  cond x6 (
  LD [.sl] (p_n.add 0) w2 fun (x10 : Sl) =>
  Calls Try.prog F.s_l1Rising #[set1.v, .int .i64 0, .int .i64 (IntKind.i64.wrap (x10.len - 1))] w2 (Ret [.at .bool] fun (x13 : Bool) w3 =>
  Q x13 w3)) (
  Q false w2))

theorem C_s_mtSet {Q : Bool → World → Prop} {n_0 : Sl} {n_1 : Sl} {n_2 : Sl} {set1 : Sl} {w : World} (h : V_s_mtSet Q n_0 n_1 n_2 set1 w) : Calls Try.prog F.s_mtSet #[.agg #[n_0.v, n_1.v, n_2.v], set1.v] w (Ret [.at .bool] Q) :=
  mkC (hint := hint) (ann := annOf []) (args := [.agg #[n_0.v, n_1.v, n_2.v], set1.v]) (rs := [.at .bool]) Try.func133 (by kernel_rfl) (by kernel_rfl) h

def V_s_mtIndependent (Q : Bool → World → Prop) (n_0 : Sl) (n_1 : Sl) (n_2 : Sl) (set1 : Sl) (w : World) : Prop :=
  NEW T.t_i_Network #[n_0.v, n_1.v, n_2.v] w fun (p_n : Addr) w1 =>
  ∃ (I2 : Int → World → Prop) (m2 : Int → World → Nat), I2 0 w1 ∧ ∀ (x9 : Int) w2, I2 x9 w2 → ∀ _ _ _ _ _ _ _ _ _ _ _ : Value,
  cond (decide ((x9 : Int) < set1.len)) (
  IX set1 x9 1 fun (px11 : Addr) =>
  LD [.int .i64] px11 w2 fun (x12 : Int) =>
  LD [.sl, .sl, .sl] p_n w2 fun (x13_0 : Sl) (x13_1 : Sl) (x13_2 : Sl) =>
  Calls Try.prog F.s_mtApart #[.agg #[x13_0.v, x13_1.v, x13_2.v], .int .i64 x12, set1.v] w2 (Ret [.at .bool] fun (x16 : Bool) w3 =>
  cond (!x16) (
  Q false w3) (
  I2 (IntKind.i64.wrap (x9 + 1)) w3 ∧ m2 (IntKind.i64.wrap (x9 + 1)) w3 < m2 x9 w2))) (
  Q true w2)

theorem C_s_mtIndependent {Q : Bool → World → Prop} {n_0 : Sl} {n_1 : Sl} {n_2 : Sl} {set1 : Sl} {w : World} (h : V_s_mtIndependent Q n_0 n_1 n_2 set1 w) : Calls Try.prog F.s_mtIndependent #[.agg #[n_0.v, n_1.v, n_2.v], set1.v] w (Ret [.at .bool] Q) :=
  mkC (hint := hint) (ann := annOf [(2, ⟨[(9, .int .i64)], [4, 6, 10, 11, 12, 13, 14, 15, 16, 17, 18]⟩)]) (args := [.agg #[n_0.v, n_1.v, n_2.v], set1.v]) (rs := [.at .bool]) Try.func134 (by kernel_rfl) (by kernel_rfl) h

def V_i_isNodeSet (Q : Bool → World → Prop) (n_0 : Sl) (n_1 : Sl) (n_2 : Sl) (set1 : Sl) (w : World) : Prop :=
  NEW T.t_i_Network #[n_0.v, n_1.v, n_2.v] w fun (p_n : Addr) w1 =>
  LD [.sl, .sl, .sl] p_n w1 fun (x5_0 : Sl) (x5_1 : Sl) (x5_2 : Sl) =>
  Calls Try.prog F.i_IsNetwork #[.agg #[x5_0.v, x5_1.v, x5_2.v]] w1 (Ret [.at .bool] fun (x6 : Bool) w2 =>
  cond x6 (
  LD [.sl] (p_n.add 0) w2 fun (x10 : Sl) =>
  Calls Try.prog F.i_increasing #[set1.v, .int .i64 0, .int .i64 (IntKind.i64.wrap (x10.len - 1))] w2 (Ret [.at .bool] fun (x13 : Bool) w3 =>
  Q x13 w3)) (
  Q false w2))

theorem C_i_isNodeSet {Q : Bool → World → Prop} {n_0 : Sl} {n_1 : Sl} {n_2 : Sl} {set1 : Sl} {w : World} (h : V_i_isNodeSet Q n_0 n_1 n_2 set1 w) : Calls Try.prog F.i_isNodeSet #[.agg #[n_0.v, n_1.v, n_2.v], set1.v] w (Ret [.at .bool] Q) :=
  mkC (hint := hint) (ann := annOf []) (args := [.agg #[n_0.v, n_1.v, n_2.v], set1.v]) (rs := [.at .bool]) Try.func135 (by kernel_rfl) (by kernel_rfl) h

def V_i_isIndependent (Q : Bool → World → Prop) (n_0 : Sl) (n_1 : Sl) (n_2 : Sl) (set1 : Sl) (w : World) : Prop :=
  NEW T.t_i_Network #[n_0.v, n_1.v, n_2.v] w fun (p_n : Addr) w1 =>
  NEW T.t_sl_int #[set1.v] w1 fun (p_set : Addr) w2 =>
  LD [.sl, .sl, .sl] p_n w2 fun (x5_0 : Sl) (x5_1 : Sl) (x5_2 : Sl) =>
  Calls Try.prog F.i_Network_edges #[.agg #[x5_0.v, x5_1.v, x5_2.v]] w2 (Ret [.at .sl] fun (x6 : Sl) w3 =>
  Calls Try.prog F.slices_ContainsFunc_sl_i_edge_i_edge #[x6.v, .func (.func F.i_isIndependent_1) #[] #[.pointer (some p_set)]] w3 (Ret [.at .bool] fun (x8 : Bool) w4 =>
  Q (!x8) w4))

theorem C_i_isIndependent {Q : Bool → World → Prop} {n_0 : Sl} {n_1 : Sl} {n_2 : Sl} {set1 : Sl} {w : World} (h : V_i_isIndependent Q n_0 n_1 n_2 set1 w) : Calls Try.prog F.i_isIndependent #[.agg #[n_0.v, n_1.v, n_2.v], set1.v] w (Ret [.at .bool] Q) :=
  mkC (hint := hint) (ann := annOf []) (args := [.agg #[n_0.v, n_1.v, n_2.v], set1.v]) (rs := [.at .bool]) Try.func136 (by kernel_rfl) (by kernel_rfl) h

def V_s_roFree (Q : Sl → World → Prop) (many : Int) (w : World) : Prop :=
  RUN Try.prog (.at .sl) (Instr.makeSlice T.t_sl_int (.int .i64 many) (.int .i64 many)) w fun (x6 : Sl) w1 =>
  ∃ (I3 : Int → World → Prop) (m3 : Int → World → Nat), I3 0 w1 ∧ ∀ (x9 : Int) w2, I3 x9 w2 → ∀ _ _ _ _ _ _ _ : Value,
  cond (decide ((x9 : Int) < x6.len)) (
  IX x6 x9 1 fun (px14 : Addr) =>
  ST px14 0 [.int .i64 (-1)] w2 fun w3 =>
  I3 (IntKind.i64.wrap (x9 + 1)) w3 ∧ m3 (IntKind.i64.wrap (x9 + 1)) w3 < m3 x9 w2) (
  Q x6 w2)

theorem C_s_roFree {Q : Sl → World → Prop} {many : Int} {w : World} (h : V_s_roFree Q many w) : Calls Try.prog F.s_roFree #[.int .i64 many] w (Ret [.at .sl] Q) :=
  mkC (hint := hint) (ann := annOf [(3, ⟨[(9, .int .i64)], [4, 10, 11, 12, 13, 14, 15]⟩)]) (args := [.int .i64 many]) (rs := [.at .sl]) Try.func137 (by kernel_rfl) (by kernel_rfl) h

def V_s_neFirst (Q : Bool → World → Prop) (n_0 : Sl) (n_1 : Sl) (n_2 : Sl) (v : Int) (i : Int) (w : World) : Prop :=
  NEW T.t_i_Network #[n_0.v, n_1.v, n_2.v] w fun (p_n : Addr) w1 =>
  LD [.sl] (p_n.add 0) w1 fun (x9 : Sl) =>
  IX x9 v 1 fun (px11 : Addr) =>
  LD [.sl] px11 w1 fun (x12 : Sl) =>
  IX x12 i 2 fun (px14 : Addr) =>
  LD [.int .i64, .int .i64] px14 w1 fun (x15_0 : Int) (x15_1 : Int) =>
  NEW T.t_i_End #[.int .i64 0, .int .i64 0] w1 fun (p_e : Addr) w2 =>
  ST p_e 0 [.int .i64 x15_0, .int .i64 x15_1] w2 fun w3 =>
  LD [.int .i64] (p_e.add 0) w3 fun (x18 : Int) =>
  cond (decide ((v : Int) < x18)) (
  Q true w3) (
  LD [.int .i64] (p_e.add 0) w3 fun (x23 : Int) =>
  cond ((v : Int) == x23) (
  LD [.int .i64] (p_e.add 1) w3 fun (x28 : Int) =>
  Q (decide ((i : Int) ≤ x28)) w3) (
  Q false w3))

theorem C_s_neFirst {Q : Bool → World → Prop} {n_0 : Sl} {n_1 : Sl} {n_2 : Sl} {v : Int} {i : Int} {w : World} (h : V_s_neFirst Q n_0 n_1 n_2 v i w) : Calls Try.prog F.s_neFirst #[.agg #[n_0.v, n_1.v, n_2.v], .int .i64 v, .int .i64 i] w (Ret [.at .bool] Q) :=
  mkC (hint := hint) (ann := annOf []) (args := [.agg #[n_0.v, n_1.v, n_2.v], .int .i64 v, .int .i64 i]) (rs := [.at .bool]) Try.func138 (by kernel_rfl) (by kernel_rfl) h

def V_slices_Repeat_sl_int_int_k2 (x : Sl) (Q : Sl → World → Prop) (x18_1 : Int) (w2 : World) : Prop :=
  RUN Try.prog (.at .sl) (Instr.makeSlice T.t_sl_int (.int .i64 (IntKind.i64.wrap x18_1)) (.int .i64 (IntKind.i64.wrap x18_1))) w2 fun (x30 : Sl) w3 =>
  RUN Try.prog (.at (.int .i64)) (bsem .copy #[T.t_sl_int, T.t_sl_int] T.t_int #[x30.v, x.v]) w3 fun (x33 : Int) w4 =>
  ∃ (I8 : Int → World → Prop) (m8 : Int → World → Nat), I8 x33 w4 ∧ ∀ (n : Int) w5, I8 n w5 → ∀ _ _ _ _ _ _ _ _ _ _ _ _ _ : Value,
  cond (decide ((n : Int) < x30.len)) (
  ∀ w6, Ext w5 w6 → w6.heap = w5.heap → ∃ (D6 : Nat → Prop),
  SLC x30 (some n) none 1 fun (x41 : Sl) =>
  Chg w6 w6 D6 ∧ (
  SLC x30 none (some n) 1 fun (x44 : Sl) =>
  Chg w6 w6 D6 ∧ (
  RUN Try.prog (.at (.int .i64)) (bsem .copy #[T.t_sl_int, T.t_sl_int] T.t_int #[x41.v, x44.v]) w6 fun (x45 : Int) w7 =>
  Chg w6 w7 D6 ∧ (
  Chg w6 w7 D6 ∧ (
  I8 (IntKind.i64.wrap (n + x45)) w7 ∧ m8 (IntKind.i64.wrap (n + x45)) w7 < m8 n w5))))) (
  Q x30 w5)

def V_slices_Repeat_sl_int_int (Q : Sl → World → Prop) (x : Sl) (count : Int) (w : World) : Prop :=
  cond (decide ((count : Int) < 0)) (
  False) (
  Calls Try.prog F.math_bits_Mul #[.int .u64 (IntKind.u64.wrap x.len), .int .u64 (IntKind.u64.wrap count)] w (Ret [.at (.int .u64), .at (.int .u64)] fun (x18_0 : Int) (x18_1 : Int) w1 =>
  cond (decide ((x18_0 : Int) > 0)) (
  False) (
  cond (decide ((x18_1 : Int) > 9223372036854775807)) (
  False) (
  V_slices_Repeat_sl_int_int_k2 x Q x18_1 w1))))

theorem C_slices_Repeat_sl_int_int {Q : Sl → World → Prop} {x : Sl} {count : Int} {w : World} (h : V_slices_Repeat_sl_int_int Q x count w) : Calls Try.prog F.slices_Repeat_sl_int_int #[x.v, .int .i64 count] w (Ret [.at .sl] Q) :=
  mkC (hint := hint) (ann := annOf [(8, ⟨[(8, .int .i64)], [34, 35, 36, 37, 38, 39, 40, 41, 42, 43, 44, 45, 46]⟩)]) (args := [x.v, .int .i64 count]) (rs := [.at .sl]) Try.func139 (by kernel_rfl) (by kernel_rfl) h

def V_s_imEdge (Q : Int → Int → Bool → World → Prop) (n_0 : Sl) (n_1 : Sl) (n_2 : Sl) (l : Sl) (w : World) : Prop :=
  NEW T.t_i_Network #[n_0.v, n_1.v, n_2.v] w fun (p_n : Addr) w1 =>
  LD [.sl] (p_n.add 0) w1 fun (x11 : Sl) =>
  ∃ (I2 : Int → World → Prop) (m2 : Int → World → Nat), I2 0 w1 ∧ ∀ (x13 : Int) w2, I2 x13 w2 → ∀ _ _ _ _ _ _ _ _ _ _ _ _ _ _ _ _ _ _ _ _ _ _ _ _ _ _ _ _ _ _ _ _ _ _ _ _ : Value,
  cond (decide ((x13 : Int) < x11.len)) (
  LD [.sl, .sl, .sl] p_n w2 fun (x16_0 : Sl) (x16_1 : Sl) (x16_2 : Sl) =>
  Calls Try.prog F.s_neNear #[.agg #[x16_0.v, x16_1.v, x16_2.v], .int .i64 x13] w2 (Ret [.at .sl] fun (x18 : Sl) w3 =>
  ∃ (I6 : Int → World → Prop) (m6 : Int → World → Nat), I6 x13 w3 ∧ ∀ (v : Int) w4, I6 v w4 → ∀ _ _ _ _ _ _ _ _ _ _ _ _ _ _ _ _ _ _ _ _ _ _ _ _ _ _ : Value,
  LD [.sl] (p_n.add 0) w4 fun (x22 : Sl) =>
  cond (decide ((v : Int) < x22.len)) (
  QCALL Try.prog F.s_l1Has #[x18.v, .int .i64 v] w4 [.at .bool] fun (x29 : Bool) =>
  cond x29 (
  IX l x13 1 fun (px33 : Addr) =>
  LD [.int .i64] px33 w4 fun (x34 : Int) =>
  IX l v 1 fun (px37 : Addr) =>
  LD [.int .i64] px37 w4 fun (x38 : Int) =>
  ∀ w5, Ext w4 w5 →
  cond ((x34 : Int) == x38) (
  Q x13 v true w5) (
  I6 (IntKind.i64.wrap (v + 1)) w5 ∧ m6 (IntKind.i64.wrap (v + 1)) w5 < m6 v w4)) (
  ∀ w6, Ext w4 w6 →
  I6 (IntKind.i64.wrap (v + 1)) w6 ∧ m6 (IntKind.i64.wrap (v + 1)) w6 < m6 v w4)) (
  I2 (IntKind.i64.wrap (x13 + 1)) w4 ∧ m2 (IntKind.i64.wrap (x13 + 1)) w4 < m2 x13 w2))) (
  Q 0 0 false w2)

theorem C_s_imEdge {Q : Int → Int → Bool → World → Prop} {n_0 : Sl} {n_1 : Sl} {n_2 : Sl} {l : Sl} {w : World} (h : V_s_imEdge Q n_0 n_1 n_2 l w) : Calls Try.prog F.s_imEdge #[.agg #[n_0.v, n_1.v, n_2.v], l.v] w (Ret [.at (.int .i64), .at (.int .i64), .at .bool] Q) :=
  mkC (hint := hint) (ann := annOf [(2, ⟨[(13, .int .i64)], [4, 5, 6, 7, 8, 9, 14, 15, 16, 17, 18, 19, 20, 21, 22, 23, 24, 25, 26, 27, 28, 29, 30, 31, 32, 33, 34, 35, 36, 37, 38, 39, 40, 41, 42, 43]⟩), (6, ⟨[(9, .int .i64)], [4, 5, 6, 20, 21, 22, 23, 24, 25, 26, 27, 28, 29, 30, 31, 32, 33, 34, 35, 36, 37, 38, 39, 40, 41, 42]⟩)]) (args := [.agg #[n_0.v, n_1.v, n_2.v], l.v]) (rs := [.at (.int .i64), .at (.int .i64), .at .bool]) Try.func140 (by kernel_rfl) (by kernel_rfl) h

def V_s_clLeast (Q : Int → World → Prop) (l : Sl) (w : World) : Prop :=
  ∃ (I2 : Int → World → Prop) (m2 : Int → World → Nat), I2 0 w ∧ ∀ (x : Int) w1, I2 x w1 → ∀ _ _ _ _ _ : Value,
  Calls Try.prog F.s_l1Has #[l.v, .int .i64 x] w1 (Ret [.at .bool] fun (x6 : Bool) w2 =>
  cond x6 (
  I2 (IntKind.i64.wrap (x + 1)) w2 ∧ m2 (IntKind.i64.wrap (x + 1)) w2 < m2 x w1) (
  Q x w2))

theorem C_s_clLeast {Q : Int → World → Prop} {l : Sl} {w : World} (h : V_s_clLeast Q l w) : Calls Try.prog F.s_clLeast #[l.v] w (Ret [.at (.int .i64)] Q) :=
  mkC (hint := hint) (ann := annOf [(2, ⟨[(3, .int .i64)], [4, 5, 6, 7, 8]⟩)]) (args := [l.v]) (rs := [.at (.int .i64)]) Try.func141 (by kernel_rfl) (by kernel_rfl) h

def V_s_coThrough (Q : Sl → World → Prop) (l : Sl) (at1 : Sl) (w : World) : Prop :=
  ∃ (I3 : Sl → Int → World → Prop) (m3 : Sl → Int → World → Nat), I3 (⟨none, 0, 0⟩) 0 w ∧ ∀ (out : Sl) (x10 : Int) w1, I3 out x10 w1 → ∀ _ _ _ _ _ _ _ _ _ _ _ _ : Value,
  cond (decide ((x10 : Int) < at1.len)) (
  IX at1 x10 1 fun (px12 : Addr) =>
  LD [.int .i64] px12 w1 fun (x13 : Int) =>
  IX l x13 1 fun (px17 : Addr) =>
  LD [.int .i64] px17 w1 fun (x18 : Int) =>
  RUN Try.prog (.at .sl) (Instr.buildSlice T.t_sl_int 1 #[(0, .int .i64 x18)]) w1 fun (x19 : Sl) w2 =>
  RUN Try.prog (.at .sl) (bsem .append #[T.t_sl_int, T.t_sl_int] T.t_sl_int #[out.v, x19.v]) w2 fun (x20 : Sl) w3 =>
  I3 x20 (IntKind.i64.wrap (x10 + 1)) w3 ∧ m3 x20 (IntKind.i64.wrap (x10 + 1)) w3 < m3 out x10 w1) (
  Q out w1)

theorem C_s_coThrough {Q : Sl → World → Prop} {l : Sl} {at1 : Sl} {w : World} (h : V_s_coThrough Q l at1 w) : Calls Try.prog F.s_coThrough #[l.v, at1.v] w (Ret [.at .sl] Q) :=
  mkC (hint := hint) (ann := annOf [(3, ⟨[(5, .sl), (10, .int .i64)], [7, 11, 12, 13, 14, 15, 16, 17, 18, 19, 20, 21]⟩)]) (args := [l.v, at1.v]) (rs := [.at .sl]) Try.func142 (by kernel_rfl) (by kernel_rfl) h

def V_i_isColouring_1 (Q : Bool → World → Prop) (e_0 : Int) (e_1 : Int) (e_2 : Int) (e_3 : Int) (cap0 : Addr) (w : World) : Prop :=
  NEW T.t_i_edge #[.int .i64 e_0, .int .i64 e_1, .int .i64 e_2, .int .i64 e_3] w fun (p_e : Addr) w1 =>
  LD [.sl] cap0 w1 fun (x4 : Sl) =>
  LD [.int .i64] (p_e.add 0) w1 fun (x6 : Int) =>
  IX x4 x6 1 fun (px7 : Addr) =>
  LD [.int .i64] px7 w1 fun (x8 : Int) =>
  LD [.sl] cap0 w1 fun (x9 : Sl) =>
  LD [.int .i64] (p_e.add 2) w1 fun (x11 : Int) =>
  IX x9 x11 1 fun (px12 : Addr) =>
  LD [.int .i64] px12 w1 fun (x13 : Int) =>
  ∀ w2, Ext w1 w2 →
  Q ((x8 : Int) == x13) w2

theorem C_i_isColouring_1 {Q : Bool → World → Prop} {e_0 : Int} {e_1 : Int} {e_2 : Int} {e_3 : Int} {cap0 : Addr} {w : World} (h : V_i_isColouring_1 Q e_0 e_1 e_2 e_3 cap0 w) : Calls Try.prog F.i_isColouring_1 #[.agg #[.int .i64 e_0, .int .i64 e_1, .int .i64 e_2, .int .i64 e_3], .pointer (some cap0)] w (Ret [.at .bool] Q) :=
  mkC (hint := hint) (ann := annOf []) (args := [.agg #[.int .i64 e_0, .int .i64 e_1, .int .i64 e_2, .int .i64 e_3], .pointer (some cap0)]) (rs := [.at .bool]) Try.func143 (by kernel_rfl) (by kernel_rfl) h

def V_i_leastFree (Q : Int → World → Prop) (used : Sl) (w : World) : Prop :=
  ∃ (I2 : Int → World → Prop) (m2 : Int → World → Nat), I2 0 w ∧ ∀ (c : Int) w1, I2 c w1 → ∀ _ _ _ _ _ : Value,
  Calls Try.prog F.slices_Contains_sl_int_int #[used.v, .int .i64 c] w1 (Ret [.at .bool] fun (x6 : Bool) w2 =>
  cond x6 (
  I2 (IntKind.i64.wrap (c + 1)) w2 ∧ m2 (IntKind.i64.wrap (c + 1)) w2 < m2 c w1) (
  Q c w2))

theorem C_i_leastFree {Q : Int → World → Prop} {used : Sl} {w : World} (h : V_i_leastFree Q used w) : Calls Try.prog F.i_leastFree #[used.v] w (Ret [.at (.int .i64)] Q) :=
  mkC (hint := hint) (ann := annOf [(2, ⟨[(3, .int .i64)], [4, 5, 6, 7, 8]⟩)]) (args := [used.v]) (rs := [.at (.int .i64)]) Try.func144 (by kernel_rfl) (by kernel_rfl) h

def V_i_near (Q : Sl → World → Prop) (n_0 : Sl) (n_1 : Sl) (n_2 : Sl) (v : Int) (numbers : Sl) (w : World) : Prop :=
  NEW T.t_i_Network #[n_0.v, n_1.v, n_2.v] w fun (p_n : Addr) w1 =>
  LD [.sl] (p_n.add 0) w1 fun (x11 : Sl) =>
  IX x11 v 1 fun (px13 : Addr) =>
  LD [.sl] px13 w1 fun (x14 : Sl) =>
  ∃ (I3 : Sl → Int → World → Prop) (m3 : Sl → Int → World → Nat), I3 (⟨none, 0, 0⟩) 0 w1 ∧ ∀ (out : Sl) (x16 : Int) w2, I3 out x16 w2 → ∀ _ _ _ _ _ _ _ _ _ _ _ _ _ : Value,
  cond (decide ((x16 : Int) < x14.len)) (
  IX x14 x16 2 fun (px18 : Addr) =>
  LD [.int .i64, .int .i64] px18 w2 fun (x19_0 : Int) (x19_1 : Int) =>
  NEW T.t_i_End #[.int .i64 0, .int .i64 0] w2 fun (p_e : Addr) w3 =>
  ST p_e 0 [.int .i64 x19_0, .int .i64 x19_1] w3 fun w4 =>
  LD [.int .i64] (p_e.add 0) w4 fun (x23 : Int) =>
  IX numbers x23 1 fun (px24 : Addr) =>
  LD [.int .i64] px24 w4 fun (x25 : Int) =>
  RUN Try.prog (.at .sl) (Instr.buildSlice T.t_sl_int 1 #[(0, .int .i64 x25)]) w4 fun (x26 : Sl) w5 =>
  RUN Try.prog (.at .sl) (bsem .append #[T.t_sl_int, T.t_sl_int] T.t_sl_int #[out.v, x26.v]) w5 fun (x27 : Sl) w6 =>
  I3 x27 (IntKind.i64.wrap (x16 + 1)) w6 ∧ m3 x27 (IntKind.i64.wrap (x16 + 1)) w6 < m3 out x16 w2) (
  Q out w2)

theorem C_i_near {Q : Sl → World → Prop} {n_0 : Sl} {n_1 : Sl} {n_2 : Sl} {v : Int} {numbers : Sl} {w : World} (h : V_i_near Q n_0 n_1 n_2 v numbers w) : Calls Try.prog F.i_near #[.agg #[n_0.v, n_1.v, n_2.v], .int .i64 v, numbers.v] w (Ret [.at .sl] Q) :=
  mkC (hint := hint) (ann := annOf [(3, ⟨[(7, .sl), (16, .int .i64)], [9, 17, 18, 19, 20, 21, 22, 23, 24, 25, 26, 27, 28]⟩)]) (args := [.agg #[n_0.v, n_1.v, n_2.v], .int .i64 v, numbers.v]) (rs := [.at .sl]) Try.func145 (by kernel_rfl) (by kernel_rfl) h

def V_s_elHas (Q : Bool → World → Prop) (set1 : Int) (a : Int) (w : World) : Prop :=
  (0 : Int) ≤ a ∧ (
  (2 : Int) ≠ 0 ∧ (
  Q (((Int.tmod (shrI .i64 set1 a) 2) : Int) == 1) w))

theorem C_s_elHas {Q : Bool → World → Prop} {set1 : Int} {a : Int} {w : World} (h : V_s_elHas Q set1 a w) : Calls Try.prog F.s_elHas #[.int .i64 set1, .int .i64 a] w (Ret [.at .bool] Q) :=
  mkC (hint := hint) (ann := annOf []) (args := [.int .i64 set1, .int .i64 a]) (rs := [.at .bool]) Try.func146 (by kernel_rfl) (by kernel_rfl) h

def V_i_isCover_1 (Q : Bool → World → Prop) (e_0 : Int) (e_1 : Int) (e_2 : Int) (e_3 : Int) (cap0 : Addr) (w : World) : Prop :=
  NEW T.t_i_edge #[.int .i64 e_0, .int .i64 e_1, .int .i64 e_2, .int .i64 e_3] w fun (p_e : Addr) w1 =>
  LD [.sl] cap0 w1 fun (x4 : Sl) =>
  LD [.int .i64] (p_e.add 0) w1 fun (x6 : Int) =>
  Calls Try.prog F.slices_Contains_sl_int_int #[x4.v, .int .i64 x6] w1 (Ret [.at .bool] fun (x7 : Bool) w2 =>
  cond (!x7) (
  LD [.sl] cap0 w2 fun (x10 : Sl) =>
  LD [.int .i64] (p_e.add 2) w2 fun (x12 : Int) =>
  Calls Try.prog F.slices_Contains_sl_int_int #[x10.v, .int .i64 x12] w2 (Ret [.at .bool] fun (x13 : Bool) w3 =>
  Q (!x13) w3)) (
  Q false w2))

theorem C_i_isCover_1 {Q : Bool → World → Prop} {e_0 : Int} {e_1 : Int} {e_2 : Int} {e_3 : Int} {cap0 : Addr} {w : World} (h : V_i_isCover_1 Q e_0 e_1 e_2 e_3 cap0 w) : Calls Try.prog F.i_isCover_1 #[.agg #[.int .i64 e_0, .int .i64 e_1, .int .i64 e_2, .int .i64 e_3], .pointer (some cap0)] w (Ret [.at .bool] Q) :=
  mkC (hint := hint) (ann := annOf []) (args := [.agg #[.int .i64 e_0, .int .i64 e_1, .int .i64 e_2, .int .i64 e_3], .pointer (some cap0)]) (rs := [.at .bool]) Try.func147 (by kernel_rfl) (by kernel_rfl) h

def V_i_independentByIds_1 (Q : Bool → World → Prop) (e_0 : Int) (e_1 : Int) (cap0 : Addr) (cap1 : Addr) (cap2 : Addr) (w : World) : Prop :=
  NEW T.t_i_End #[.int .i64 e_0, .int .i64 e_1] w fun (p_e : Addr) w1 =>
  LD [.sl] cap0 w1 fun (x6 : Sl) =>
  LD [.int .i64] (p_e.add 0) w1 fun (x8 : Int) =>
  QCALL Try.prog F.slices_Contains_sl_int_int #[x6.v, .int .i64 x8] w1 [.at .bool] fun (x9 : Bool) =>
  cond x9 (
  LD [.sl] (cap1.add 1) w1 fun (x12 : Sl) =>
  LD [.int .i64] (p_e.add 0) w1 fun (x14 : Int) =>
  IX x12 x14 1 fun (px15 : Addr) =>
  LD [.int .i64] px15 w1 fun (x16 : Int) =>
  LD [.sl] (cap1.add 1) w1 fun (x18 : Sl) =>
  LD [.int .i64] cap2 w1 fun (x19 : Int) =>
  IX x18 x19 1 fun (px20 : Addr) =>
  LD [.int .i64] px20 w1 fun (x21 : Int) =>
  ∀ w2, Ext w1 w2 →
  Q (decide ((x16 : Int) < x21)) w2) (
  ∀ w3, Ext w1 w3 →
  Q false w3)

theorem C_i_independentByIds_1 {Q : Bool → World → Prop} {e_0 : Int} {e_1 : Int} {cap0 : Addr} {cap1 : Addr} {cap2 : Addr} {w : World} (h : V_i_independentByIds_1 Q e_0 e_1 cap0 cap1 cap2 w) : Calls Try.prog F.i_independentByIds_1 #[.agg #[.int .i64 e_0, .int .i64 e_1], .pointer (some cap0), .pointer (some cap1), .pointer (some cap2)] w (Ret [.at .bool] Q) :=
  mkC (hint := hint) (ann := annOf []) (args := [.agg #[.int .i64 e_0, .int .i64 e_1], .pointer (some cap0), .pointer (some cap1), .pointer (some cap2)]) (rs := [.at .bool]) Try.func148 (by kernel_rfl) (by kernel_rfl) h

def V_i_independentByIds_2 (Q : Bool → World → Prop) (v : Int) (cap0 : Addr) (cap1 : Addr) (w : World) : Prop :=
  LD [.sl] cap0 w fun (x5 : Sl) =>
  Calls Try.prog F.slices_Contains_sl_int_int #[x5.v, .int .i64 v] w (Ret [.at .bool] fun (x7 : Bool) w1 =>
  cond x7 (
  Q true w1) (
  LD [.sl, .sl, .sl] cap1 w1 fun (x9_0 : Sl) (x9_1 : Sl) (x9_2 : Sl) =>
  LD [.sl] cap0 w1 fun (x11 : Sl) =>
  Calls Try.prog F.i_hasNear #[.agg #[x9_0.v, x9_1.v, x9_2.v], .int .i64 v, x11.v] w1 (Ret [.at .bool] fun (x12 : Bool) w2 =>
  Q x12 w2)))

theorem C_i_independentByIds_2 {Q : Bool → World → Prop} {v : Int} {cap0 : Addr} {cap1 : Addr} {w : World} (h : V_i_independentByIds_2 Q v cap0 cap1 w) : Calls Try.prog F.i_independentByIds_2 #[.int .i64 v, .pointer (some cap0), .pointer (some cap1)] w (Ret [.at .bool] Q) :=
  mkC (hint := hint) (ann := annOf []) (args := [.int .i64 v, .pointer (some cap0), .pointer (some cap1)]) (rs := [.at .bool]) Try.func149 (by kernel_rfl) (by kernel_rfl) h

def V_s_l1Most (Q : Int → World → Prop) (a : Int) (b : Int) (w : World) : Prop :=
  cond (decide ((a : Int) > b)) (
  Q a w) (
  Q b w)

theorem C_s_l1Most {Q : Int → World → Prop} {a : Int} {b : Int} {w : World} (h : V_s_l1Most Q a b w) : Calls Try.prog F.s_l1Most #[.int .i64 a, .int .i64 b] w (Ret [.at (.int .i64)] Q) :=
  mkC (hint := hint) (ann := annOf []) (args := [.int .i64 a, .int .i64 b]) (rs := [.at (.int .i64)]) Try.func150 (by kernel_rfl) (by kernel_rfl) h

def V_slices_ContainsFunc_sl_int_int (Q : Bool → World → Prop) (s : Sl) (f : Value) (w : World) : Prop :=
  Calls Try.prog F.slices_IndexFunc_sl_int_int #[s.v, f] w (Ret [.at (.int .i64)] fun (x7 : Int) w1 =>
  Q (decide ((x7 : Int) ≥ 0)) w1)

theorem C_slices_ContainsFunc_sl_int_int {Q : Bool → World → Prop} {s : Sl} {f : Value} {w : World} (h : V_slices_ContainsFunc_sl_int_int Q s f w) : Calls Try.prog F.slices_ContainsFunc_sl_int_int #[s.v, f] w (Ret [.at .bool] Q) :=
  mkC (hint := hint) (ann := annOf []) (args := [s.v, f]) (rs := [.at .bool]) Try.func151 (by kernel_rfl) (by kernel_rfl) h

def V_i_allWithin_1 (Q : Bool → World → Prop) (n : Int) (cap0 : Addr) (cap1 : Addr) (w : World) : Prop :=
  LD [.int .i64] cap0 w fun (x6 : Int) =>
  LD [.int .i64] cap1 w fun (x7 : Int) =>
  Calls Try.prog F.i_within #[.int .i64 n, .int .i64 x6, .int .i64 x7] w (Ret [.at .bool] fun (x8 : Bool) w1 =>
  Q (!x8) w1)

theorem C_i_allWithin_1 {Q : Bool → World → Prop} {n : Int} {cap0 : Addr} {cap1 : Addr} {w : World} (h : V_i_allWithin_1 Q n cap0 cap1 w) : Calls Try.prog F.i_allWithin_1 #[.int .i64 n, .pointer (some cap0), .pointer (some cap1)] w (Ret [.at .bool] Q) :=
  mkC (hint := hint) (ann := annOf []) (args := [.int .i64 n, .pointer (some cap0), .pointer (some cap1)]) (rs := [.at .bool]) Try.func152 (by kernel_rfl) (by kernel_rfl) h

def V_slices_IndexFunc_sl_i_edge_i_edge (Q : Int → World → Prop) (s : Sl) (f : Value) (w : World) : Prop :=
  ∃ (I2 : Int → World → Prop) (m2 : Int → World → Nat), I2 0 w ∧ ∀ (x8 : Int) w1, I2 x8 w1 → ∀ _ _ _ _ _ _ _ _ _ _ _ _ : Value,
  cond (decide ((x8 : Int) < s.len)) (
  IX s x8 4 fun (px14 : Addr) =>
  LD [.int .i64, .int .i64, .int .i64, .int .i64] px14 w1 fun (x15_0 : Int) (x15_1 : Int) (x15_2 : Int) (x15_3 : Int) =>
  CALLV Try.prog f #[.agg #[.int .i64 x15_0, .int .i64 x15_1, .int .i64 x15_2, .int .i64 x15_3]] w1 (Ret [.at .bool] fun (x16 : Bool) w2 =>
  cond x16 (
  Q x8 w2) (
  I2 (IntKind.i64.wrap (x8 + 1)) w2 ∧ m2 (IntKind.i64.wrap (x8 + 1)) w2 < m2 x8 w1))) (
  Q (-1) w1)

theorem C_slices_IndexFunc_sl_i_edge_i_edge {Q : Int → World → Prop} {s : Sl} {f : Value} {w : World} (h : V_slices_IndexFunc_sl_i_edge_i_edge Q s f w) : Calls Try.prog F.slices_IndexFunc_sl_i_edge_i_edge #[s.v, f] w (Ret [.at (.int .i64)] Q) :=
  mkC (hint := hint) (ann := annOf [(2, ⟨[(8, .int .i64)], [4, 5, 9, 10, 11, 12, 13, 14, 15, 16, 17, 18]⟩)]) (args := [s.v, f]) (rs := [.at (.int .i64)]) Try.func153 (by kernel_rfl) (by kernel_rfl) h

def V_l_toEnd (Q : Int → Int → World → Prop) (a_0 : Int) (a_1 : Int) (w : World) : Prop :=
  NEW T.t_l_End #[.int .i64 a_0, .int .i64 a_1] w fun (p_a : Addr) w1 =>
  NEW T.t_i_End #[.int .i64 0, .int .i64 0] w1 fun (px2 : Addr) w2 =>
  NEW T.t_i_End #[.int .i64 0, .int .i64 0] w2 fun (p_out : Addr) w3 =>
  LD [.int .i64] (p_a.add 0) w3 fun (x5 : Int) =>
  ST (p_out.add 0) 0 [.int .i64 x5] w3 fun w4 =>
  LD [.int .i64] (p_a.add 1) w4 fun (x8 : Int) =>
  ST (p_out.add 1) 0 [.int .i64 x8] w4 fun w5 =>
  LD [.int .i64, .int .i64] p_out w5 fun (x10_0 : Int) (x10_1 : Int) =>
  ST px2 0 [.int .i64 x10_0, .int .i64 x10_1] w5 fun w6 =>
  LD [.int .i64, .int .i64] px2 w6 fun (r0_0 : Int) (r0_1 : Int) =>
  Q r0_0 r0_1 w6

theorem C_l_toEnd {Q : Int → Int → World → Prop} {a_0 : Int} {a_1 : Int} {w : World} (h : V_l_toEnd Q a_0 a_1 w) : Calls Try.prog F.l_toEnd #[.agg #[.int .i64 a_0, .int .i64 a_1]] w (Ret [.agg [.int .i64, .int .i64]] Q) :=
  mkC (hint := hint) (ann := annOf []) (args := [.agg #[.int .i64 a_0, .int .i64 a_1]]) (rs := [.agg [.int .i64, .int .i64]]) Try.func154 (by kernel_rfl) (by kernel_rfl) h

def V_i_Network_hasNode (Q : Bool → World → Prop) (n_0 : Sl) (n_1 : Sl) (n_2 : Sl) (v : Int) (w : World) : Prop :=
  NEW T.t_i_Network #[n_0.v, n_1.v, n_2.v] w fun (p_n : Addr) w1 =>
  LD [.sl] (p_n.add 0) w1 fun (x7 : Sl) =>
  Calls Try.prog F.i_within #[.int .i64 v, .int .i64 0, .int .i64 (IntKind.i64.wrap (x7.len - 1))] w1 (Ret [.at .bool] fun (x10 : Bool) w2 =>
  Q x10 w2)

theorem C_i_Network_hasNode {Q : Bool → World → Prop} {n_0 : Sl} {n_1 : Sl} {n_2 : Sl} {v : Int} {w : World} (h : V_i_Network_hasNode Q n_0 n_1 n_2 v w) : Calls Try.prog F.i_Network_hasNode #[.agg #[n_0.v, n_1.v, n_2.v], .int .i64 v] w (Ret [.at .bool] Q) :=
  mkC (hint := hint) (ann := annOf []) (args := [.agg #[n_0.v, n_1.v, n_2.v], .int .i64 v]) (rs := [.at .bool]) Try.func155 (by kernel_rfl) (by kernel_rfl) h

def V_slices_Collect_int (Q : Sl → World → Prop) (seq : Value) (w : World) : Prop :=
  Calls Try.prog F.slices_AppendSeq_sl_int_int #[.slice none 0 0, seq] w (Ret [.at .sl] fun (x4 : Sl) w1 =>
  Q x4 w1)

theorem C_slices_Collect_int {Q : Sl → World → Prop} {seq : Value} {w : World} (h : V_slices_Collect_int Q seq w) : Calls Try.prog F.slices_Collect_int #[seq] w (Ret [.at .sl] Q) :=
  mkC (hint := hint) (ann := annOf []) (args := [seq]) (rs := [.at .sl]) Try.func156 (by kernel_rfl) (by kernel_rfl) h

def V_slices_Values_sl_int_int_1 (Q : World → Prop) (yield : Value) (cap0 : Addr) (w : World) : Prop :=
  LD [.sl] cap0 w fun (x5 : Sl) =>
  ∃ (I1 : Int → World → Prop) (m1 : Int → World → Nat), I1 0 w ∧ ∀ (x7 : Int) w1, I1 x7 w1 → ∀ _ _ _ _ _ _ _ _ _ : Value,
  cond (decide ((x7 : Int) < x5.len)) (
  IX x5 x7 1 fun (px9 : Addr) =>
  LD [.int .i64] px9 w1 fun (x10 : Int) =>
  CALLV Try.prog yield #[.int .i64 x10] w1 (Ret [.at .bool] fun (x13 : Bool) w2 =>
  cond (!x13) (
  Q w2) (
  I1 (IntKind.i64.wrap (x7 + 1)) w2 ∧ m1 (IntKind.i64.wrap (x7 + 1)) w2 < m1 x7 w1))) (
  Q w1)

theorem C_slices_Values_sl_int_int_1 {Q : World → Prop} {yield : Value} {cap0 : Addr} {w : World} (h : V_slices_Values_sl_int_int_1 Q yield cap0 w) : Calls Try.prog F.slices_Values_sl_int_int_1 #[yield, .pointer (some cap0)] w (Ret [] Q) :=
  mkC (hint := hint) (ann := annOf [(1, ⟨[(7, .int .i64)], [4, 8, 9, 10, 11, 12, 13, 14, 15]⟩)]) (args := [yield, .pointer (some cap0)]) (rs := []) Try.func157 (by kernel_rfl) (by kernel_rfl) h

def V_l_eqEnd (Q : Bool → World → Prop) (a_0 : Int) (a_1 : Int) (b_0 : Int) (b_1 : Int) (w : World) : Prop :=
  NEW T.t_i_End #[.int .i64 a_0, .int .i64 a_1] w fun (p_a : Addr) w1 =>
  NEW T.t_i_End #[.int .i64 b_0, .int .i64 b_1] w1 fun (p_b : Addr) w2 =>
  LD [.int .i64] (p_a.add 0) w2 fun (x6 : Int) =>
  LD [.int .i64] (p_b.add 0) w2 fun (x8 : Int) =>
  cond ((x6 : Int) != x8) (
  Q false w2) (
  LD [.int .i64] (p_a.add 1) w2 fun (x11 : Int) =>
  LD [.int .i64] (p_b.add 1) w2 fun (x13 : Int) =>
  cond ((x11 : Int) != x13) (
  Q false w2) (
  Q true w2))

theorem C_l_eqEnd {Q : Bool → World → Prop} {a_0 : Int} {a_1 : Int} {b_0 : Int} {b_1 : Int} {w : World} (h : V_l_eqEnd Q a_0 a_1 b_0 b_1 w) : Calls Try.prog F.l_eqEnd #[.agg #[.int .i64 a_0, .int .i64 a_1], .agg #[.int .i64 b_0, .int .i64 b_1]] w (Ret [.at .bool] Q) :=
  mkC (hint := hint) (ann := annOf []) (args := [.agg #[.int .i64 a_0, .int .i64 a_1], .agg #[.int .i64 b_0, .int .i64 b_1]]) (rs := [.at .bool]) Try.func158 (by kernel_rfl) (by kernel_rfl) h

def V_i_areJoined_1 (Q : Bool → World → Prop) (e_0 : Int) (e_1 : Int) (cap0 : Addr) (w : World) : Prop :=
  NEW T.t_i_End #[.int .i64 e_0, .int .i64 e_1] w fun (p_e : Addr) w1 =>
  LD [.int .i64] (p_e.add 0) w1 fun (x5 : Int) =>
  LD [.int .i64] cap0 w1 fun (x6 : Int) =>
  Q ((x5 : Int) == x6) w1

theorem C_i_areJoined_1 {Q : Bool → World → Prop} {e_0 : Int} {e_1 : Int} {cap0 : Addr} {w : World} (h : V_i_areJoined_1 Q e_0 e_1 cap0 w) : Calls Try.prog F.i_areJoined_1 #[.agg #[.int .i64 e_0, .int .i64 e_1], .pointer (some cap0)] w (Ret [.at .bool] Q) :=
  mkC (hint := hint) (ann := annOf []) (args := [.agg #[.int .i64 e_0, .int .i64 e_1], .pointer (some cap0)]) (rs := [.at .bool]) Try.func159 (by kernel_rfl) (by kernel_rfl) h

def V_i_hasNear_1 (Q : Bool → World → Prop) (e_0 : Int) (e_1 : Int) (cap0 : Addr) (w : World) : Prop :=
  NEW T.t_i_End #[.int .i64 e_0, .int .i64 e_1] w fun (p_e : Addr) w1 =>
  LD [.sl] cap0 w1 fun (x4 : Sl) =>
  LD [.int .i64] (p_e.add 0) w1 fun (x6 : Int) =>
  Calls Try.prog F.slices_Contains_sl_int_int #[x4.v, .int .i64 x6] w1 (Ret [.at .bool] fun (x7 : Bool) w2 =>
  Q x7 w2)

theorem C_i_hasNear_1 {Q : Bool → World → Prop} {e_0 : Int} {e_1 : Int} {cap0 : Addr} {w : World} (h : V_i_hasNear_1 Q e_0 e_1 cap0 w) : Calls Try.prog F.i_hasNear_1 #[.agg #[.int .i64 e_0, .int .i64 e_1], .pointer (some cap0)] w (Ret [.at .bool] Q) :=
  mkC (hint := hint) (ann := annOf []) (args := [.agg #[.int .i64 e_0, .int .i64 e_1], .pointer (some cap0)]) (rs := [.at .bool]) Try.func160 (by kernel_rfl) (by kernel_rfl) h

def V_s_l1Rising (Q : Bool → World → Prop) (l : Sl) (lo : Int) (hi : Int) (w : World) : Prop :=
  ∃ (I2 : Int → World → Prop) (m2 : Int → World → Nat), I2 0 w ∧ ∀ (x11 : Int) w1, I2 x11 w1 → ∀ _ _ _ _ _ _ _ _ _ _ _ _ _ _ _ _ _ _ _ _ _ _ _ _ _ _ : Value,
  cond (decide ((x11 : Int) < l.len)) (
  IX l x11 1 fun (px14 : Addr) =>
  LD [.int .i64] px14 w1 fun (x15 : Int) =>
  Calls Try.prog F.s_l1In #[.int .i64 x15, .int .i64 lo, .int .i64 hi] w1 (Ret [.at .bool] fun (x19 : Bool) w2 =>
  cond (!x19) (
  Q false w2) (
  cond (decide ((x11 : Int) > 0)) (
  IX l (IntKind.i64.wrap (x11 - 1)) 1 fun (px28 : Addr) =>
  LD [.int .i64] px28 w2 fun (x29 : Int) =>
  cond (decide ((x29 : Int) ≥ x15)) (
  Q false w2) (
  I2 (IntKind.i64.wrap (x11 + 1)) w2 ∧ m2 (IntKind.i64.wrap (x11 + 1)) w2 < m2 x11 w1)) (
  I2 (IntKind.i64.wrap (x11 + 1)) w2 ∧ m2 (IntKind.i64.wrap (x11 + 1)) w2 < m2 x11 w1)))) (
  Q true w1)

theorem C_s_l1Rising {Q : Bool → World → Prop} {l : Sl} {lo : Int} {hi : Int} {w : World} (h : V_s_l1Rising Q l lo hi w) : Calls Try.prog F.s_l1Rising #[l.v, .int .i64 lo, .int .i64 hi] w (Ret [.at .bool] Q) :=
  mkC (hint := hint) (ann := annOf [(2, ⟨[(11, .int .i64)], [6, 7, 8, 12, 13, 14, 15, 16, 17, 18, 19, 20, 21, 22, 23, 24, 25, 26, 27, 28, 29, 30, 31, 32, 33, 34]⟩)]) (args := [l.v, .int .i64 lo, .int .i64 hi]) (rs := [.at .bool]) Try.func163 (by kernel_rfl) (by kernel_rfl) h

end Go.Proofs.Ytcilbmkieclelaa
