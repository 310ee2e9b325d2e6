/- What each function's code computes to. Printed by a program. -/
import Derived.Test.YtcilbmkieclelaaNames
namespace Go.Proofs.Ytcilbmkieclelaa
open Go.GX Go.RowKit
set_option linter.unusedVariables false
set_option maxRecDepth 100000

def V_s_mtTake (Q : Sl → World → Prop) (n_0 : Sl) (n_1 : Sl) (n_2 : Sl) (m : Sl) (v : Int) (i : Int) (w : World) : Prop :=
  NEW T.t_i_Network #[n_0.v, n_1.v, n_2.v] w fun (p_n : Addr) w1 =>
  Calls Try.prog F.s_l1Own #[m.v] w1 (Ret [.at .sl] fun (x11 : Sl) w2 =>
  IX x11 v 1 fun (px15 : Addr) =>
  ST px15 0 [.int .i64 i] w2 fun w3 =>
  ∀ w4, Ext w3 w4 → w4.heap = w3.heap → ∃ (D4 : Nat → Prop),
  ¬ D4 (p_n.add 0).block ∧ (
  LD [.sl] (p_n.add 0) w4 fun (x18 : Sl) =>
  IX x18 v 1 fun (px20 : Addr) =>
  ¬ D4 px20.block ∧ (
  LD [.sl] px20 w4 fun (x21 : Sl) =>
  IX x21 i 2 fun (px23 : Addr) =>
  ¬ D4 (px23.add 0).block ∧ (
  LD [.int .i64] (px23.add 0) w4 fun (x25 : Int) =>
  ¬ D4 (p_n.add 0).block ∧ (
  LD [.sl] (p_n.add 0) w4 fun (x27 : Sl) =>
  IX x27 v 1 fun (px29 : Addr) =>
  ¬ D4 px29.block ∧ (
  LD [.sl] px29 w4 fun (x30 : Sl) =>
  Chg w4 w4 D4 ∧ (
  IX x30 i 2 fun (px32 : Addr) =>
  Chg w4 w4 D4 ∧ (
  Chg w4 w4 D4 ∧ (
  LD [.int .i64] (px32.add 1) w4 fun (x34 : Int) =>
  Chg w4 w4 D4 ∧ (
  IX x11 x25 1 fun (px35 : Addr) =>
  ST px35 0 [.int .i64 x34] w4 fun w5 =>
  Q x11 w5))))))))))

theorem C_s_mtTake {Q : Sl → World → Prop} {n_0 : Sl} {n_1 : Sl} {n_2 : Sl} {m : Sl} {v : Int} {i : Int} {w : World} (h : V_s_mtTake Q n_0 n_1 n_2 m v i w) : Calls Try.prog F.s_mtTake #[.agg #[n_0.v, n_1.v, n_2.v], m.v, .int .i64 v, .int .i64 i] w (Ret [.at .sl] Q) :=
  mkC (hint := hint) (ann := annOf []) (args := [.agg #[n_0.v, n_1.v, n_2.v], m.v, .int .i64 v, .int .i64 i]) (rs := [.at .sl]) Try.func76 (by kernel_rfl) (by kernel_rfl) h

def V_i_matchingOk (Q : Bool → World → Prop) (n_0 : Sl) (n_1 : Sl) (n_2 : Sl) (m : Sl) (w : World) : Prop :=
  NEW T.t_i_Network #[n_0.v, n_1.v, n_2.v] w fun (p_n : Addr) w1 =>
  LD [.sl, .sl, .sl] p_n w1 fun (x5_0 : Sl) (x5_1 : Sl) (x5_2 : Sl) =>
  Calls Try.prog F.i_IsNetwork #[.agg #[x5_0.v, x5_1.v, x5_2.v]] w1 (Ret [.at .bool] fun (x6 : Bool) w2 =>
  cond x6 (
  LD [.sl, .sl, .sl] p_n w2 fun (x8_0 : Sl) (x8_1 : Sl) (x8_2 : Sl) =>
  Calls Try.prog F.i_isMatching #[.agg #[x8_0.v, x8_1.v, x8_2.v], m.v] w2 (Ret [.at .bool] fun (x10 : Bool) w3 =>
  Q x10 w3)) (
  Q false w2))

theorem C_i_matchingOk {Q : Bool → World → Prop} {n_0 : Sl} {n_1 : Sl} {n_2 : Sl} {m : Sl} {w : World} (h : V_i_matchingOk Q n_0 n_1 n_2 m w) : Calls Try.prog F.i_matchingOk #[.agg #[n_0.v, n_1.v, n_2.v], m.v] w (Ret [.at .bool] Q) :=
  mkC (hint := hint) (ann := annOf []) (args := [.agg #[n_0.v, n_1.v, n_2.v], m.v]) (rs := [.at .bool]) Try.func77 (by kernel_rfl) (by kernel_rfl) h

def V_i_portTo (Q : Int → World → Prop) (n_0 : Sl) (n_1 : Sl) (n_2 : Sl) (v : Int) (w1 : Int) (w : World) : Prop :=
  NEW T.t_i_Network #[n_0.v, n_1.v, n_2.v] w fun (p_n : Addr) w2 =>
  NEW T.t_int #[.int .i64 w1] w2 fun (p_w : Addr) w3 =>
  LD [.sl] (p_n.add 0) w3 fun (x8 : Sl) =>
  IX x8 v 1 fun (px10 : Addr) =>
  LD [.sl] px10 w3 fun (x11 : Sl) =>
  Calls Try.prog F.slices_IndexFunc_sl_i_End_i_End #[x11.v, .func (.func F.i_portTo_1) #[] #[.pointer (some p_w)]] w3 (Ret [.at (.int .i64)] fun (x13 : Int) w4 =>
  Q x13 w4)

theorem C_i_portTo {Q : Int → World → Prop} {n_0 : Sl} {n_1 : Sl} {n_2 : Sl} {v : Int} {w1 : Int} {w : World} (h : V_i_portTo Q n_0 n_1 n_2 v w1 w) : Calls Try.prog F.i_portTo #[.agg #[n_0.v, n_1.v, n_2.v], .int .i64 v, .int .i64 w1] w (Ret [.at (.int .i64)] Q) :=
  mkC (hint := hint) (ann := annOf []) (args := [.agg #[n_0.v, n_1.v, n_2.v], .int .i64 v, .int .i64 w1]) (rs := [.at (.int .i64)]) Try.func78 (by kernel_rfl) (by kernel_rfl) h

def V_s_IsMaximalIndependent (Q : Bool → Bool → World → Prop) (n_0 : Sl) (n_1 : Sl) (n_2 : Sl) (set1 : Sl) (w : World) : Prop :=
  NEW T.t_i_Network #[n_0.v, n_1.v, n_2.v] w fun (p_n : Addr) w1 =>
  LD [.sl, .sl, .sl] p_n w1 fun (x7_0 : Sl) (x7_1 : Sl) (x7_2 : Sl) =>
  Calls Try.prog F.s_mtSet #[.agg #[x7_0.v, x7_1.v, x7_2.v], set1.v] w1 (Ret [.at .bool] fun (x9 : Bool) w2 =>
  cond (!x9) (
  Q false false w2) (
  LD [.sl] (p_n.add 0) w2 fun (x12 : Sl) =>
  ∃ (I4 : Int → World → Prop) (m4 : Int → World → Nat), I4 0 w2 ∧ ∀ (x14 : Int) w3, I4 x14 w3 → ∀ _ _ _ _ _ _ _ _ _ _ _ _ _ _ _ _ _ _ _ _ _ _ : Value,
  cond (decide ((x14 : Int) < x12.len)) (
  Calls Try.prog F.s_l1Has #[set1.v, .int .i64 x14] w3 (Ret [.at .bool] fun (x19 : Bool) w4 =>
  cond (!x19) (
  LD [.sl, .sl, .sl] p_n w4 fun (x22_0 : Sl) (x22_1 : Sl) (x22_2 : Sl) =>
  Calls Try.prog F.s_mtOwn #[.agg #[x22_0.v, x22_1.v, x22_2.v], .int .i64 x14] w4 (Ret [.at .bool] fun (x24 : Bool) w5 =>
  cond (!x24) (
  LD [.sl, .sl, .sl] p_n w5 fun (x28_0 : Sl) (x28_1 : Sl) (x28_2 : Sl) =>
  Calls Try.prog F.s_mtApart #[.agg #[x28_0.v, x28_1.v, x28_2.v], .int .i64 x14, set1.v] w5 (Ret [.at .bool] fun (x31 : Bool) w6 =>
  cond x31 (
  Q false true w6) (
  I4 (IntKind.i64.wrap (x14 + 1)) w6 ∧ m4 (IntKind.i64.wrap (x14 + 1)) w6 < m4 x14 w3))) (
  I4 (IntKind.i64.wrap (x14 + 1)) w5 ∧ m4 (IntKind.i64.wrap (x14 + 1)) w5 < m4 x14 w3))) (
  I4 (IntKind.i64.wrap (x14 + 1)) w4 ∧ m4 (IntKind.i64.wrap (x14 + 1)) w4 < m4 x14 w3))) (
  LD [.sl, .sl, .sl] p_n w3 fun (x34_0 : Sl) (x34_1 : Sl) (x34_2 : Sl) =>
  Calls Try.prog F.s_mtIndependent #[.agg #[x34_0.v, x34_1.v, x34_2.v], set1.v] w3 (Ret [.at .bool] fun (x36 : Bool) w7 =>
  Q x36 true w7))))

theorem C_s_IsMaximalIndependent {Q : Bool → Bool → World → Prop} {n_0 : Sl} {n_1 : Sl} {n_2 : Sl} {set1 : Sl} {w : World} (h : V_s_IsMaximalIndependent Q n_0 n_1 n_2 set1 w) : Calls Try.prog F.s_IsMaximalIndependent #[.agg #[n_0.v, n_1.v, n_2.v], set1.v] w (Ret [.at .bool, .at .bool] Q) :=
  mkC (hint := hint) (ann := annOf [(4, ⟨[(14, .int .i64)], [4, 5, 6, 15, 16, 17, 18, 19, 20, 21, 22, 23, 24, 25, 26, 27, 28, 29, 30, 31, 32, 33]⟩)]) (args := [.agg #[n_0.v, n_1.v, n_2.v], set1.v]) (rs := [.at .bool, .at .bool]) Try.func79 (by kernel_rfl) (by kernel_rfl) h

def V_i_IsMaximalIndependent (Q : Bool → Bool → World → Prop) (n_0 : Sl) (n_1 : Sl) (n_2 : Sl) (set1 : Sl) (w : World) : Prop :=
  NEW T.t_i_Network #[n_0.v, n_1.v, n_2.v] w fun (p_n : Addr) w1 =>
  LD [.sl, .sl, .sl] p_n w1 fun (x7_0 : Sl) (x7_1 : Sl) (x7_2 : Sl) =>
  Calls Try.prog F.i_isNodeSet #[.agg #[x7_0.v, x7_1.v, x7_2.v], set1.v] w1 (Ret [.at .bool] fun (x9 : Bool) w2 =>
  cond (!x9) (
  Q false false w2) (
  LD [.sl] (p_n.add 0) w2 fun (x12 : Sl) =>
  ∃ (I4 : Int → World → Prop) (m4 : Int → World → Nat), I4 0 w2 ∧ ∀ (x14 : Int) w3, I4 x14 w3 → ∀ _ _ _ _ _ _ _ _ _ _ _ _ _ _ _ _ _ _ _ _ _ _ _ _ : Value,
  cond (decide ((x14 : Int) < x12.len)) (
  Calls Try.prog F.slices_Contains_sl_int_int #[set1.v, .int .i64 x14] w3 (Ret [.at .bool] fun (x19 : Bool) w4 =>
  cond (!x19) (
  LD [.sl, .sl, .sl] p_n w4 fun (x22_0 : Sl) (x22_1 : Sl) (x22_2 : Sl) =>
  Calls Try.prog F.i_areJoined #[.agg #[x22_0.v, x22_1.v, x22_2.v], .int .i64 x14, .int .i64 x14] w4 (Ret [.at .bool] fun (x25 : Bool) w5 =>
  cond (!x25) (
  LD [.sl, .sl, .sl] p_n w5 fun (x29_0 : Sl) (x29_1 : Sl) (x29_2 : Sl) =>
  Calls Try.prog F.i_hasNear #[.agg #[x29_0.v, x29_1.v, x29_2.v], .int .i64 x14, set1.v] w5 (Ret [.at .bool] fun (x32 : Bool) w6 =>
  cond (!x32) (
  Q false true w6) (
  I4 (IntKind.i64.wrap (x14 + 1)) w6 ∧ m4 (IntKind.i64.wrap (x14 + 1)) w6 < m4 x14 w3))) (
  I4 (IntKind.i64.wrap (x14 + 1)) w5 ∧ m4 (IntKind.i64.wrap (x14 + 1)) w5 < m4 x14 w3))) (
  I4 (IntKind.i64.wrap (x14 + 1)) w4 ∧ m4 (IntKind.i64.wrap (x14 + 1)) w4 < m4 x14 w3))) (
  LD [.sl, .sl, .sl] p_n w3 fun (x36_0 : Sl) (x36_1 : Sl) (x36_2 : Sl) =>
  Calls Try.prog F.i_isIndependent #[.agg #[x36_0.v, x36_1.v, x36_2.v], set1.v] w3 (Ret [.at .bool] fun (x38 : Bool) w7 =>
  Q x38 true w7))))

theorem C_i_IsMaximalIndependent {Q : Bool → Bool → World → Prop} {n_0 : Sl} {n_1 : Sl} {n_2 : Sl} {set1 : Sl} {w : World} (h : V_i_IsMaximalIndependent Q n_0 n_1 n_2 set1 w) : Calls Try.prog F.i_IsMaximalIndependent #[.agg #[n_0.v, n_1.v, n_2.v], set1.v] w (Ret [.at .bool, .at .bool] Q) :=
  mkC (hint := hint) (ann := annOf [(4, ⟨[(14, .int .i64)], [4, 5, 6, 15, 16, 17, 18, 19, 20, 21, 22, 23, 24, 25, 26, 27, 28, 29, 30, 31, 32, 33, 34, 35]⟩)]) (args := [.agg #[n_0.v, n_1.v, n_2.v], set1.v]) (rs := [.at .bool, .at .bool]) Try.func80 (by kernel_rfl) (by kernel_rfl) h

def V_s_mtFree (Q : Sl → World → Prop) (n_0 : Sl) (n_1 : Sl) (n_2 : Sl) (w : World) : Prop :=
  NEW T.t_i_Network #[n_0.v, n_1.v, n_2.v] w fun (p_n : Addr) w1 =>
  LD [.sl] (p_n.add 0) w1 fun (x4 : Sl) =>
  Calls Try.prog F.s_roFree #[.int .i64 x4.len] w1 (Ret [.at .sl] fun (x6 : Sl) w2 =>
  Q x6 w2)

theorem C_s_mtFree {Q : Sl → World → Prop} {n_0 : Sl} {n_1 : Sl} {n_2 : Sl} {w : World} (h : V_s_mtFree Q n_0 n_1 n_2 w) : Calls Try.prog F.s_mtFree #[.agg #[n_0.v, n_1.v, n_2.v]] w (Ret [.at .sl] Q) :=
  mkC (hint := hint) (ann := annOf []) (args := [.agg #[n_0.v, n_1.v, n_2.v]]) (rs := [.at .sl]) Try.func81 (by kernel_rfl) (by kernel_rfl) h

def V_s_neEdges (Q : Sl → World → Prop) (n_0 : Sl) (n_1 : Sl) (n_2 : Sl) (w : World) : Prop :=
  NEW T.t_i_Network #[n_0.v, n_1.v, n_2.v] w fun (p_n : Addr) w1 =>
  LD [.sl] (p_n.add 0) w1 fun (x9 : Sl) =>
  ∃ (I3 : Sl → Int → World → Prop) (m3 : Sl → Int → World → Nat), I3 (⟨none, 0, 0⟩) 0 w1 ∧ ∀ (out : Sl) (x11 : Int) w2, I3 out x11 w2 → ∀ _ _ _ _ _ _ _ _ _ _ _ _ _ _ _ _ _ _ _ _ _ _ _ _ _ _ _ _ _ _ _ : Value,
  cond (decide ((x11 : Int) < x9.len)) (
  IX x9 x11 1 fun (px14 : Addr) =>
  LD [.sl] px14 w2 fun (x15 : Sl) =>
  ∃ (I6 : Sl → Int → World → Prop) (m6 : Sl → Int → World → Nat), I6 out 0 w2 ∧ ∀ (out_2 : Sl) (x18 : Int) w3, I6 out_2 x18 w3 → ∀ _ _ _ _ _ _ _ _ _ _ _ _ _ _ _ _ _ _ _ _ _ : Value,
  cond (decide ((x18 : Int) < x15.len)) (
  IX x15 x18 2 fun (px21 : Addr) =>
  LD [.int .i64, .int .i64] px21 w3 fun (x22_0 : Int) (x22_1 : Int) =>
  NEW T.t_i_End #[.int .i64 0, .int .i64 0] w3 fun (p_e : Addr) w4 =>
  ST p_e 0 [.int .i64 x22_0, .int .i64 x22_1] w4 fun w5 =>
  LD [.sl, .sl, .sl] p_n w5 fun (x23_0 : Sl) (x23_1 : Sl) (x23_2 : Sl) =>
  Calls Try.prog F.s_neFirst #[.agg #[x23_0.v, x23_1.v, x23_2.v], .int .i64 x11, .int .i64 x18] w5 (Ret [.at .bool] fun (x26 : Bool) w6 =>
  cond x26 (
  LD [.int .i64] (p_e.add 0) w6 fun (x31 : Int) =>
  LD [.int .i64] (p_e.add 1) w6 fun (x33 : Int) =>
  RUN Try.prog (.at .sl) (Instr.buildSlice T.t_sl_int 4 #[(0, .int .i64 x11), (1, .int .i64 x18), (2, .int .i64 x31), (3, .int .i64 x33)]) w6 fun (x34 : Sl) w7 =>
  RUN Try.prog (.at .sl) (Instr.buildSlice T.t_sl_sl_int 1 #[(0, x34.v)]) w7 fun (x35 : Sl) w8 =>
  RUN Try.prog (.at .sl) (bsem .append #[T.t_sl_sl_int, T.t_sl_sl_int] T.t_sl_sl_int #[out_2.v, x35.v]) w8 fun (x36 : Sl) w9 =>
  I6 x36 (IntKind.i64.wrap (x18 + 1)) w9 ∧ m6 x36 (IntKind.i64.wrap (x18 + 1)) w9 < m6 out_2 x18 w3) (
  I6 out_2 (IntKind.i64.wrap (x18 + 1)) w6 ∧ m6 out_2 (IntKind.i64.wrap (x18 + 1)) w6 < m6 out_2 x18 w3))) (
  I3 out_2 (IntKind.i64.wrap (x11 + 1)) w3 ∧ m3 out_2 (IntKind.i64.wrap (x11 + 1)) w3 < m3 out x11 w2)) (
  Q out w2)

theorem C_s_neEdges {Q : Sl → World → Prop} {n_0 : Sl} {n_1 : Sl} {n_2 : Sl} {w : World} (h : V_s_neEdges Q n_0 n_1 n_2 w) : Calls Try.prog F.s_neEdges #[.agg #[n_0.v, n_1.v, n_2.v]] w (Ret [.at .sl] Q) :=
  mkC (hint := hint) (ann := annOf [(3, ⟨[(3, .sl), (11, .int .i64)], [4, 5, 6, 7, 12, 13, 14, 15, 16, 17, 18, 19, 20, 21, 22, 23, 24, 25, 26, 27, 28, 29, 30, 31, 32, 33, 34, 35, 36, 37, 38]⟩), (6, ⟨[(3, .sl), (18, .int .i64)], [6, 7, 19, 20, 21, 22, 23, 24, 25, 26, 27, 28, 29, 30, 31, 32, 33, 34, 35, 36, 37]⟩)]) (args := [.agg #[n_0.v, n_1.v, n_2.v]]) (rs := [.at .sl]) Try.func82 (by kernel_rfl) (by kernel_rfl) h

def V_i_noMatching (Q : Sl → World → Prop) (n_0 : Sl) (n_1 : Sl) (n_2 : Sl) (w : World) : Prop :=
  NEW T.t_i_Network #[n_0.v, n_1.v, n_2.v] w fun (p_n : Addr) w1 =>
  RUN Try.prog (.at .sl) (Instr.buildSlice T.t_sl_int 1 #[(0, .int .i64 (-1))]) w1 fun (x3 : Sl) w2 =>
  LD [.sl] (p_n.add 0) w2 fun (x5 : Sl) =>
  Calls Try.prog F.slices_Repeat_sl_int_int #[x3.v, .int .i64 x5.len] w2 (Ret [.at .sl] fun (x7 : Sl) w3 =>
  Q x7 w3)

theorem C_i_noMatching {Q : Sl → World → Prop} {n_0 : Sl} {n_1 : Sl} {n_2 : Sl} {w : World} (h : V_i_noMatching Q n_0 n_1 n_2 w) : Calls Try.prog F.i_noMatching #[.agg #[n_0.v, n_1.v, n_2.v]] w (Ret [.at .sl] Q) :=
  mkC (hint := hint) (ann := annOf []) (args := [.agg #[n_0.v, n_1.v, n_2.v]]) (rs := [.at .sl]) Try.func83 (by kernel_rfl) (by kernel_rfl) h

def V_i_Network_edges_k5 (I6 : Sl → Int → World → Prop) (m6 : Sl → Int → World → Nat) (out_2 : Sl) (x18 : Int) (w3 : World) (out_3 : Sl) (w10 : World) : Prop :=
  I6 out_3 (IntKind.i64.wrap (x18 + 1)) w10 ∧ m6 out_3 (IntKind.i64.wrap (x18 + 1)) w10 < m6 out_2 x18 w3

def V_i_Network_edges (Q : Sl → World → Prop) (n_0 : Sl) (n_1 : Sl) (n_2 : Sl) (w : World) : Prop :=
  NEW T.t_i_Network #[n_0.v, n_1.v, n_2.v] w fun (p_n : Addr) w1 =>
  LD [.sl] (p_n.add 0) w1 fun (x9 : Sl) =>
  ∃ (I3 : Sl → Int → World → Prop) (m3 : Sl → Int → World → Nat), I3 (⟨none, 0, 0⟩) 0 w1 ∧ ∀ (out : Sl) (x11 : Int) w2, I3 out x11 w2 → ∀ _ _ _ _ _ _ _ _ _ _ _ _ _ _ _ _ _ _ _ _ _ _ _ _ _ _ _ _ _ _ _ _ _ _ _ _ _ _ _ _ _ _ _ : Value,
  cond (decide ((x11 : Int) < x9.len)) (
  IX x9 x11 1 fun (px14 : Addr) =>
  LD [.sl] px14 w2 fun (x15 : Sl) =>
  ∃ (I6 : Sl → Int → World → Prop) (m6 : Sl → Int → World → Nat), I6 out 0 w2 ∧ ∀ (out_2 : Sl) (x18 : Int) w3, I6 out_2 x18 w3 → ∀ _ _ _ _ _ _ _ _ _ _ _ _ _ _ _ _ _ _ _ _ _ _ _ _ _ _ _ _ _ _ _ _ _ : Value,
  cond (decide ((x18 : Int) < x15.len)) (
  IX x15 x18 2 fun (px21 : Addr) =>
  LD [.int .i64, .int .i64] px21 w3 fun (x22_0 : Int) (x22_1 : Int) =>
  NEW T.t_i_End #[.int .i64 0, .int .i64 0] w3 fun (p_e : Addr) w4 =>
  ST p_e 0 [.int .i64 x22_0, .int .i64 x22_1] w4 fun w5 =>
  LD [.int .i64] (p_e.add 0) w5 fun (x25 : Int) =>
  cond (decide ((x11 : Int) < x25)) (
  LD [.int .i64] (p_e.add 0) w5 fun (x43 : Int) =>
  LD [.int .i64] (p_e.add 1) w5 fun (x45 : Int) =>
  RUN Try.prog (.at .sl) (Instr.buildSlice T.t_sl_i_edge 1 #[(0, .agg #[.int .i64 x11, .int .i64 x18, .int .i64 x43, .int .i64 x45])]) w5 fun (x47 : Sl) w6 =>
  RUN Try.prog (.at .sl) (bsem .append #[T.t_sl_i_edge, T.t_sl_i_edge] T.t_sl_i_edge #[out_2.v, x47.v]) w6 fun (x48 : Sl) w7 =>
  V_i_Network_edges_k5 I6 m6 out_2 x18 w3 x48 w7) (
  LD [.int .i64] (p_e.add 0) w5 fun (x30 : Int) =>
  cond ((x11 : Int) == x30) (
  LD [.int .i64] (p_e.add 1) w5 fun (x35 : Int) =>
  cond (decide ((x18 : Int) ≤ x35)) (
  LD [.int .i64] (p_e.add 0) w5 fun (x43_2 : Int) =>
  LD [.int .i64] (p_e.add 1) w5 fun (x45_2 : Int) =>
  RUN Try.prog (.at .sl) (Instr.buildSlice T.t_sl_i_edge 1 #[(0, .agg #[.int .i64 x11, .int .i64 x18, .int .i64 x43_2, .int .i64 x45_2])]) w5 fun (x47_2 : Sl) w8 =>
  RUN Try.prog (.at .sl) (bsem .append #[T.t_sl_i_edge, T.t_sl_i_edge] T.t_sl_i_edge #[out_2.v, x47_2.v]) w8 fun (x48_2 : Sl) w9 =>
  V_i_Network_edges_k5 I6 m6 out_2 x18 w3 x48_2 w9) (
  V_i_Network_edges_k5 I6 m6 out_2 x18 w3 out_2 w5)) (
  V_i_Network_edges_k5 I6 m6 out_2 x18 w3 out_2 w5))) (
  I3 out_2 (IntKind.i64.wrap (x11 + 1)) w3 ∧ m3 out_2 (IntKind.i64.wrap (x11 + 1)) w3 < m3 out x11 w2)) (
  Q out w2)

theorem C_i_Network_edges {Q : Sl → World → Prop} {n_0 : Sl} {n_1 : Sl} {n_2 : Sl} {w : World} (h : V_i_Network_edges Q n_0 n_1 n_2 w) : Calls Try.prog F.i_Network_edges #[.agg #[n_0.v, n_1.v, n_2.v]] w (Ret [.at .sl] Q) :=
  mkC (hint := hint) (ann := annOf [(3, ⟨[(3, .sl), (11, .int .i64)], [4, 5, 6, 7, 12, 13, 14, 15, 16, 17, 18, 19, 20, 21, 22, 23, 24, 25, 26, 27, 28, 29, 30, 31, 32, 33, 34, 35, 36, 37, 38, 39, 40, 41, 42, 43, 44, 45, 46, 47, 48, 49, 50]⟩), (6, ⟨[(3, .sl), (18, .int .i64)], [6, 7, 19, 20, 21, 22, 23, 24, 25, 26, 27, 28, 29, 30, 31, 32, 33, 34, 35, 36, 37, 38, 39, 40, 41, 42, 43, 44, 45, 46, 47, 48, 49]⟩)]) (args := [.agg #[n_0.v, n_1.v, n_2.v]]) (rs := [.at .sl]) Try.func84 (by kernel_rfl) (by kernel_rfl) h

def V_s_clProper (Q : Bool → World → Prop) (n_0 : Sl) (n_1 : Sl) (n_2 : Sl) (l : Sl) (w : World) : Prop :=
  NEW T.t_i_Network #[n_0.v, n_1.v, n_2.v] w fun (p_n : Addr) w1 =>
  LD [.sl] (p_n.add 0) w1 fun (x11 : Sl) =>
  cond ((l.len : Int) != x11.len) (
  Q false w1) (
  Calls Try.prog F.s_l1All #[l.v, .int .i64 0, .int .i64 1000000000000] w1 (Ret [.at .bool] fun (x16 : Bool) w2 =>
  cond (!x16) (
  Q false w2) (
  LD [.sl, .sl, .sl] p_n w2 fun (x20_0_2 : Sl) (x20_1_2 : Sl) (x20_2_2 : Sl) =>
  Calls Try.prog F.s_imEdge #[.agg #[x20_0_2.v, x20_1_2.v, x20_2_2.v], l.v] w2 (Ret [.at (.int .i64), .at (.int .i64), .at .bool] fun (x22_0_2 : Int) (x22_1_2 : Int) (x22_2_2 : Bool) w4 =>
  Q (!x22_2_2) w4))))

theorem C_s_clProper {Q : Bool → World → Prop} {n_0 : Sl} {n_1 : Sl} {n_2 : Sl} {l : Sl} {w : World} (h : V_s_clProper Q n_0 n_1 n_2 l w) : Calls Try.prog F.s_clProper #[.agg #[n_0.v, n_1.v, n_2.v], l.v] w (Ret [.at .bool] Q) :=
  mkC (hint := hint) (ann := annOf []) (args := [.agg #[n_0.v, n_1.v, n_2.v], l.v]) (rs := [.at .bool]) Try.func85 (by kernel_rfl) (by kernel_rfl) h

def V_s_nuWhole (Q : Bool → World → Prop) (n : Int) (w : World) : Prop :=
  Calls Try.prog F.s_l1In #[.int .i64 n, .int .i64 0, .int .i64 1000000000000] w (Ret [.at .bool] fun (x4 : Bool) w1 =>
  Q x4 w1)

theorem C_s_nuWhole {Q : Bool → World → Prop} {n : Int} {w : World} (h : V_s_nuWhole Q n w) : Calls Try.prog F.s_nuWhole #[.int .i64 n] w (Ret [.at .bool] Q) :=
  mkC (hint := hint) (ann := annOf []) (args := [.int .i64 n]) (rs := [.at .bool]) Try.func86 (by kernel_rfl) (by kernel_rfl) h

def V_s_clDrop (Q : Sl → World → Prop) (n_0 : Sl) (n_1 : Sl) (n_2 : Sl) (l : Sl) (c : Int) (w : World) : Prop :=
  NEW T.t_i_Network #[n_0.v, n_1.v, n_2.v] w fun (p_n : Addr) w1 =>
  Calls Try.prog F.s_l1Own #[l.v] w1 (Ret [.at .sl] fun (x11 : Sl) w2 =>
  ∃ (I3 : Int → World → Prop) (m3 : Int → World → Nat), I3 0 w2 ∧ ∀ (x14 : Int) w3, I3 x14 w3 → ∀ _ _ _ _ _ _ _ _ _ _ _ _ _ _ _ _ _ _ _ : Value,
  cond (decide ((x14 : Int) < l.len)) (
  IX l x14 1 fun (px17 : Addr) =>
  LD [.int .i64] px17 w3 fun (x18 : Int) =>
  cond ((x18 : Int) == c) (
  LD [.sl, .sl, .sl] p_n w3 fun (x25_0 : Sl) (x25_1 : Sl) (x25_2 : Sl) =>
  Calls Try.prog F.s_neNear #[.agg #[x25_0.v, x25_1.v, x25_2.v], .int .i64 x14] w3 (Ret [.at .sl] fun (x27 : Sl) w4 =>
  Calls Try.prog F.s_coThrough #[l.v, x27.v] w4 (Ret [.at .sl] fun (x28 : Sl) w5 =>
  Calls Try.prog F.s_clLeast #[x28.v] w5 (Ret [.at (.int .i64)] fun (x29 : Int) w6 =>
  IX x11 x14 1 fun (px30 : Addr) =>
  ST px30 0 [.int .i64 x29] w6 fun w7 =>
  I3 (IntKind.i64.wrap (x14 + 1)) w7 ∧ m3 (IntKind.i64.wrap (x14 + 1)) w7 < m3 x14 w3)))) (
  I3 (IntKind.i64.wrap (x14 + 1)) w3 ∧ m3 (IntKind.i64.wrap (x14 + 1)) w3 < m3 x14 w3)) (
  Q x11 w3))

theorem C_s_clDrop {Q : Sl → World → Prop} {n_0 : Sl} {n_1 : Sl} {n_2 : Sl} {l : Sl} {c : Int} {w : World} (h : V_s_clDrop Q n_0 n_1 n_2 l c w) : Calls Try.prog F.s_clDrop #[.agg #[n_0.v, n_1.v, n_2.v], l.v, .int .i64 c] w (Ret [.at .sl] Q) :=
  mkC (hint := hint) (ann := annOf [(3, ⟨[(14, .int .i64)], [8, 9, 15, 16, 17, 18, 19, 20, 21, 22, 23, 24, 25, 26, 27, 28, 29, 30, 31]⟩)]) (args := [.agg #[n_0.v, n_1.v, n_2.v], l.v, .int .i64 c]) (rs := [.at .sl]) Try.func87 (by kernel_rfl) (by kernel_rfl) h

def V_i_isColouring (Q : Bool → World → Prop) (n_0 : Sl) (n_1 : Sl) (n_2 : Sl) (colours : Sl) (w : World) : Prop :=
  NEW T.t_i_Network #[n_0.v, n_1.v, n_2.v] w fun (p_n : Addr) w1 =>
  NEW T.t_sl_int #[colours.v] w1 fun (p_colours : Addr) w2 =>
  LD [.sl] p_colours w2 fun (x5 : Sl) =>
  LD [.sl] (p_n.add 0) w2 fun (x8 : Sl) =>
  cond ((x5.len : Int) == x8.len) (
  LD [.sl] p_colours w2 fun (x12 : Sl) =>
  Calls Try.prog F.i_allWithin #[x12.v, .int .i64 0, .int .i64 1000000000000] w2 (Ret [.at .bool] fun (x13 : Bool) w3 =>
  cond x13 (
  LD [.sl, .sl, .sl] p_n w3 fun (x16_0 : Sl) (x16_1 : Sl) (x16_2 : Sl) =>
  Calls Try.prog F.i_Network_edges #[.agg #[x16_0.v, x16_1.v, x16_2.v]] w3 (Ret [.at .sl] fun (x17 : Sl) w4 =>
  Calls Try.prog F.slices_ContainsFunc_sl_i_edge_i_edge #[x17.v, .func (.func F.i_isColouring_1) #[] #[.pointer (some p_colours)]] w4 (Ret [.at .bool] fun (x19 : Bool) w5 =>
  Q (!x19) w5))) (
  Q false w3))) (
  Q false w2)

theorem C_i_isColouring {Q : Bool → World → Prop} {n_0 : Sl} {n_1 : Sl} {n_2 : Sl} {colours : Sl} {w : World} (h : V_i_isColouring Q n_0 n_1 n_2 colours w) : Calls Try.prog F.i_isColouring #[.agg #[n_0.v, n_1.v, n_2.v], colours.v] w (Ret [.at .bool] Q) :=
  mkC (hint := hint) (ann := annOf []) (args := [.agg #[n_0.v, n_1.v, n_2.v], colours.v]) (rs := [.at .bool]) Try.func88 (by kernel_rfl) (by kernel_rfl) h

def V_i_isWhole (Q : Bool → World → Prop) (n : Int) (w : World) : Prop :=
  Calls Try.prog F.i_within #[.int .i64 n, .int .i64 0, .int .i64 1000000000000] w (Ret [.at .bool] fun (x4 : Bool) w1 =>
  Q x4 w1)

theorem C_i_isWhole {Q : Bool → World → Prop} {n : Int} {w : World} (h : V_i_isWhole Q n w) : Calls Try.prog F.i_isWhole #[.int .i64 n] w (Ret [.at .bool] Q) :=
  mkC (hint := hint) (ann := annOf []) (args := [.int .i64 n]) (rs := [.at .bool]) Try.func89 (by kernel_rfl) (by kernel_rfl) h

def V_i_dropColour (Q : Sl → World → Prop) (n_0 : Sl) (n_1 : Sl) (n_2 : Sl) (colours : Sl) (c : Int) (w : World) : Prop :=
  NEW T.t_i_Network #[n_0.v, n_1.v, n_2.v] w fun (p_n : Addr) w1 =>
  Calls Try.prog F.slices_Clone_sl_int_int #[colours.v] w1 (Ret [.at .sl] fun (x10 : Sl) w2 =>
  ∃ (I3 : Int → World → Prop) (m3 : Int → World → Nat), I3 0 w2 ∧ ∀ (x13 : Int) w3, I3 x13 w3 → ∀ _ _ _ _ _ _ _ _ _ _ _ _ _ _ _ _ _ _ : Value,
  cond (decide ((x13 : Int) < x10.len)) (
  IX colours x13 1 fun (px18 : Addr) =>
  LD [.int .i64] px18 w3 fun (x19 : Int) =>
  cond ((x19 : Int) == c) (
  LD [.sl, .sl, .sl] p_n w3 fun (x24_0 : Sl) (x24_1 : Sl) (x24_2 : Sl) =>
  Calls Try.prog F.i_near #[.agg #[x24_0.v, x24_1.v, x24_2.v], .int .i64 x13, colours.v] w3 (Ret [.at .sl] fun (x27 : Sl) w4 =>
  Calls Try.prog F.i_leastFree #[x27.v] w4 (Ret [.at (.int .i64)] fun (x28 : Int) w5 =>
  IX x10 x13 1 fun (px29 : Addr) =>
  ST px29 0 [.int .i64 x28] w5 fun w6 =>
  I3 (IntKind.i64.wrap (x13 + 1)) w6 ∧ m3 (IntKind.i64.wrap (x13 + 1)) w6 < m3 x13 w3))) (
  I3 (IntKind.i64.wrap (x13 + 1)) w3 ∧ m3 (IntKind.i64.wrap (x13 + 1)) w3 < m3 x13 w3)) (
  Q x10 w3))

theorem C_i_dropColour {Q : Sl → World → Prop} {n_0 : Sl} {n_1 : Sl} {n_2 : Sl} {colours : Sl} {c : Int} {w : World} (h : V_i_dropColour Q n_0 n_1 n_2 colours c w) : Calls Try.prog F.i_dropColour #[.agg #[n_0.v, n_1.v, n_2.v], colours.v, .int .i64 c] w (Ret [.at .sl] Q) :=
  mkC (hint := hint) (ann := annOf [(3, ⟨[(13, .int .i64)], [8, 14, 15, 16, 17, 18, 19, 20, 21, 22, 23, 24, 25, 26, 27, 28, 29, 30]⟩)]) (args := [.agg #[n_0.v, n_1.v, n_2.v], colours.v, .int .i64 c]) (rs := [.at .sl]) Try.func90 (by kernel_rfl) (by kernel_rfl) h

def V_s_mtChosen (Q : Sl → World → Prop) (nodes : Int) (bits : Int) (w : World) : Prop :=
  ∃ (I3 : Sl → Int → World → Prop) (m3 : Sl → Int → World → Nat), I3 (⟨none, 0, 0⟩) 0 w ∧ ∀ (out : Sl) (v : Int) w1, I3 out v w1 → ∀ _ _ _ _ _ _ _ _ _ _ _ _ _ _ _ : Value,
  cond (decide ((v : Int) < nodes)) (
  Calls Try.prog F.s_elHas #[.int .i64 bits, .int .i64 (IntKind.i64.wrap ((IntKind.i64.wrap (nodes - 1)) - v))] w1 (Ret [.at .bool] fun (x17 : Bool) w2 =>
  cond x17 (
  RUN Try.prog (.at .sl) (Instr.buildSlice T.t_sl_int 1 #[(0, .int .i64 v)]) w2 fun (x20 : Sl) w3 =>
  RUN Try.prog (.at .sl) (bsem .append #[T.t_sl_int, T.t_sl_int] T.t_sl_int #[out.v, x20.v]) w3 fun (x21 : Sl) w4 =>
  I3 x21 (IntKind.i64.wrap (v + 1)) w4 ∧ m3 x21 (IntKind.i64.wrap (v + 1)) w4 < m3 out v w1) (
  I3 out (IntKind.i64.wrap (v + 1)) w2 ∧ m3 out (IntKind.i64.wrap (v + 1)) w2 < m3 out v w1))) (
  Q out w1)

theorem C_s_mtChosen {Q : Sl → World → Prop} {nodes : Int} {bits : Int} {w : World} (h : V_s_mtChosen Q nodes bits w) : Calls Try.prog F.s_mtChosen #[.int .i64 nodes, .int .i64 bits] w (Ret [.at .sl] Q) :=
  mkC (hint := hint) (ann := annOf [(3, ⟨[(5, .sl), (6, .int .i64)], [7, 8, 9, 10, 11, 12, 13, 14, 15, 16, 17, 18, 19, 20, 21]⟩)]) (args := [.int .i64 nodes, .int .i64 bits]) (rs := [.at .sl]) Try.func91 (by kernel_rfl) (by kernel_rfl) h

def V_s_mtCovers (Q : Bool → World → Prop) (n_0 : Sl) (n_1 : Sl) (n_2 : Sl) (set1 : Sl) (w : World) : Prop :=
  NEW T.t_i_Network #[n_0.v, n_1.v, n_2.v] w fun (p_n : Addr) w1 =>
  LD [.sl, .sl, .sl] p_n w1 fun (x7_0 : Sl) (x7_1 : Sl) (x7_2 : Sl) =>
  Calls Try.prog F.s_neEdges #[.agg #[x7_0.v, x7_1.v, x7_2.v]] w1 (Ret [.at .sl] fun (x8 : Sl) w2 =>
  ∃ (I2 : Int → World → Prop) (m2 : Int → World → Nat), I2 0 w2 ∧ ∀ (x10 : Int) w3, I2 x10 w3 → ∀ _ _ _ _ _ _ _ _ _ _ _ _ _ _ _ _ _ _ _ _ : Value,
  cond (decide ((x10 : Int) < x8.len)) (
  IX x8 x10 1 fun (px12 : Addr) =>
  LD [.sl] px12 w3 fun (x13 : Sl) =>
  IX x13 0 1 fun (px16 : Addr) =>
  LD [.int .i64] px16 w3 fun (x17 : Int) =>
  Calls Try.prog F.s_l1Has #[set1.v, .int .i64 x17] w3 (Ret [.at .bool] fun (x18 : Bool) w4 =>
  cond (!x18) (
  IX x13 2 1 fun (px23 : Addr) =>
  LD [.int .i64] px23 w4 fun (x24 : Int) =>
  Calls Try.prog F.s_l1Has #[set1.v, .int .i64 x24] w4 (Ret [.at .bool] fun (x25 : Bool) w5 =>
  cond (!x25) (
  Q false w5) (
  I2 (IntKind.i64.wrap (x10 + 1)) w5 ∧ m2 (IntKind.i64.wrap (x10 + 1)) w5 < m2 x10 w3))) (
  I2 (IntKind.i64.wrap (x10 + 1)) w4 ∧ m2 (IntKind.i64.wrap (x10 + 1)) w4 < m2 x10 w3))) (
  Q true w3))

theorem C_s_mtCovers {Q : Bool → World → Prop} {n_0 : Sl} {n_1 : Sl} {n_2 : Sl} {set1 : Sl} {w : World} (h : V_s_mtCovers Q n_0 n_1 n_2 set1 w) : Calls Try.prog F.s_mtCovers #[.agg #[n_0.v, n_1.v, n_2.v], set1.v] w (Ret [.at .bool] Q) :=
  mkC (hint := hint) (ann := annOf [(2, ⟨[(10, .int .i64)], [4, 6, 11, 12, 13, 14, 15, 16, 17, 18, 19, 20, 21, 22, 23, 24, 25, 26, 27, 28]⟩)]) (args := [.agg #[n_0.v, n_1.v, n_2.v], set1.v]) (rs := [.at .bool]) Try.func92 (by kernel_rfl) (by kernel_rfl) h

def V_i_binomial_k1 (n : Int) (k : Int) (Q : Int → World → Prop) (w1 : World) : Prop :=
  RUN Try.prog (.at .sl) (Instr.makeSlice T.t_sl_int (.int .i64 (IntKind.i64.wrap (k + 1))) (.int .i64 (IntKind.i64.wrap (k + 1)))) w1 fun (x16 : Sl) w2 =>
  IX x16 0 1 fun (px18 : Addr) =>
  ST px18 0 [.int .i64 1] w2 fun w3 =>
  ∃ (I6 : Int → World → Prop) (m6 : Int → World → Nat), I6 0 w3 ∧ ∀ (x20 : Int) w4, I6 x20 w4 → ∀ _ _ _ _ _ _ _ _ _ _ _ _ _ _ _ _ _ _ _ : Value,
  cond (decide ((x20 : Int) < n)) (
  ∃ (I8 : Int → World → Prop) (m8 : Int → World → Nat), I8 k w4 ∧ ∀ (i : Int) w5, I8 i w5 → ∀ _ _ _ _ _ _ _ _ _ _ _ _ _ _ _ : Value,
  cond (decide ((i : Int) > 0)) (
  ∀ w6, Ext w5 w6 → w6.heap = w5.heap → ∃ (D6 : Nat → Prop),
  IX x16 i 1 fun (px29 : Addr) =>
  ¬ D6 px29.block ∧ (
  LD [.int .i64] px29 w6 fun (x30 : Int) =>
  Chg w6 w6 D6 ∧ (
  Chg w6 w6 D6 ∧ (
  IX x16 (IntKind.i64.wrap (i - 1)) 1 fun (px34 : Addr) =>
  Chg w6 w6 D6 ∧ (
  LD [.int .i64] px34 w6 fun (x35 : Int) =>
  Chg w6 w6 D6 ∧ (
  Chg w6 w6 D6 ∧ (
  IX x16 i 1 fun (px37 : Addr) =>
  ST px37 0 [.int .i64 (IntKind.i64.wrap (x30 + x35))] w6 fun w7 =>
  I8 (IntKind.i64.wrap (i - 1)) w7 ∧ m8 (IntKind.i64.wrap (i - 1)) w7 < m8 i w5))))))) (
  I6 (IntKind.i64.wrap (x20 + 1)) w5 ∧ m6 (IntKind.i64.wrap (x20 + 1)) w5 < m6 x20 w4)) (
  IX x16 k 1 fun (px41 : Addr) =>
  LD [.int .i64] px41 w4 fun (x42 : Int) =>
  Q x42 w4)

def V_i_binomial (Q : Int → World → Prop) (n : Int) (k : Int) (w : World) : Prop :=
  cond (decide ((k : Int) < 0)) (
  Q 0 w) (
  cond (decide ((k : Int) > n)) (
  Q 0 w) (
  V_i_binomial_k1 n k Q w))

theorem C_i_binomial {Q : Int → World → Prop} {n : Int} {k : Int} {w : World} (h : V_i_binomial Q n k w) : Calls Try.prog F.i_binomial #[.int .i64 n, .int .i64 k] w (Ret [.at (.int .i64)] Q) :=
  mkC (hint := hint) (ann := annOf [(6, ⟨[(20, .int .i64)], [6, 21, 22, 23, 24, 25, 26, 27, 28, 29, 30, 31, 32, 33, 34, 35, 36, 37, 38]⟩), (8, ⟨[(6, .int .i64)], [23, 24, 25, 26, 27, 28, 29, 30, 31, 32, 33, 34, 35, 36, 37]⟩)]) (args := [.int .i64 n, .int .i64 k]) (rs := [.at (.int .i64)]) Try.func93 (by kernel_rfl) (by kernel_rfl) h

def V_i_subsetAt (Q : Sl → World → Prop) (n : Int) (k : Int) (r : Int) (w : World) : Prop :=
  ∃ (I3 : Int → Sl → Int → World → Prop) (m3 : Int → Sl → Int → World → Nat), I3 r (⟨none, 0, 0⟩) 0 w ∧ ∀ (r_2 : Int) (out : Sl) (x : Int) w1, I3 r_2 out x w1 → ∀ _ _ _ _ _ _ _ _ _ _ _ _ _ _ _ _ _ _ _ _ _ _ _ _ _ _ _ : Value,
  cond (decide ((out.len : Int) < k)) (
  Calls Try.prog F.i_binomial #[.int .i64 (IntKind.i64.wrap ((IntKind.i64.wrap (n - x)) - 1)), .int .i64 (IntKind.i64.wrap ((IntKind.i64.wrap (k - out.len)) - 1))] w1 (Ret [.at (.int .i64)] fun (x25 : Int) w2 =>
  cond (decide ((r_2 : Int) < x25)) (
  RUN Try.prog (.at .sl) (Instr.buildSlice T.t_sl_int 1 #[(0, .int .i64 x)]) w2 fun (x31 : Sl) w3 =>
  RUN Try.prog (.at .sl) (bsem .append #[T.t_sl_int, T.t_sl_int] T.t_sl_int #[out.v, x31.v]) w3 fun (x32 : Sl) w4 =>
  I3 r_2 x32 (IntKind.i64.wrap (x + 1)) w4 ∧ m3 r_2 x32 (IntKind.i64.wrap (x + 1)) w4 < m3 r_2 out x w1) (
  I3 (IntKind.i64.wrap (r_2 - x25)) out (IntKind.i64.wrap (x + 1)) w2 ∧ m3 (IntKind.i64.wrap (r_2 - x25)) out (IntKind.i64.wrap (x + 1)) w2 < m3 r_2 out x w1))) (
  Q out w1)

theorem C_i_subsetAt {Q : Sl → World → Prop} {n : Int} {k : Int} {r : Int} {w : World} (h : V_i_subsetAt Q n k r w) : Calls Try.prog F.i_subsetAt #[.int .i64 n, .int .i64 k, .int .i64 r] w (Ret [.at .sl] Q) :=
  mkC (hint := hint) (ann := annOf [(3, ⟨[(2, .int .i64), (7, .sl), (8, .int .i64)], [9, 10, 11, 12, 13, 14, 15, 16, 17, 18, 19, 20, 21, 22, 23, 24, 25, 26, 27, 28, 29, 30, 31, 32, 33, 34, 35]⟩)]) (args := [.int .i64 n, .int .i64 k, .int .i64 r]) (rs := [.at .sl]) Try.func94 (by kernel_rfl) (by kernel_rfl) h

def V_i_isCover (Q : Bool → World → Prop) (n_0 : Sl) (n_1 : Sl) (n_2 : Sl) (set1 : Sl) (w : World) : Prop :=
  NEW T.t_i_Network #[n_0.v, n_1.v, n_2.v] w fun (p_n : Addr) w1 =>
  NEW T.t_sl_int #[set1.v] w1 fun (p_set : Addr) w2 =>
  LD [.sl, .sl, .sl] p_n w2 fun (x5_0 : Sl) (x5_1 : Sl) (x5_2 : Sl) =>
  Calls Try.prog F.i_Network_edges #[.agg #[x5_0.v, x5_1.v, x5_2.v]] w2 (Ret [.at .sl] fun (x6 : Sl) w3 =>
  Calls Try.prog F.slices_ContainsFunc_sl_i_edge_i_edge #[x6.v, .func (.func F.i_isCover_1) #[] #[.pointer (some p_set)]] w3 (Ret [.at .bool] fun (x8 : Bool) w4 =>
  Q (!x8) w4))

theorem C_i_isCover {Q : Bool → World → Prop} {n_0 : Sl} {n_1 : Sl} {n_2 : Sl} {set1 : Sl} {w : World} (h : V_i_isCover Q n_0 n_1 n_2 set1 w) : Calls Try.prog F.i_isCover #[.agg #[n_0.v, n_1.v, n_2.v], set1.v] w (Ret [.at .bool] Q) :=
  mkC (hint := hint) (ann := annOf []) (args := [.agg #[n_0.v, n_1.v, n_2.v], set1.v]) (rs := [.at .bool]) Try.func95 (by kernel_rfl) (by kernel_rfl) h

def V_s_mtOwn (Q : Bool → World → Prop) (n_0 : Sl) (n_1 : Sl) (n_2 : Sl) (v : Int) (w : World) : Prop :=
  NEW T.t_i_Network #[n_0.v, n_1.v, n_2.v] w fun (p_n : Addr) w1 =>
  LD [.sl, .sl, .sl] p_n w1 fun (x5_0 : Sl) (x5_1 : Sl) (x5_2 : Sl) =>
  Calls Try.prog F.s_neNear #[.agg #[x5_0.v, x5_1.v, x5_2.v], .int .i64 v] w1 (Ret [.at .sl] fun (x7 : Sl) w2 =>
  Calls Try.prog F.s_l1Has #[x7.v, .int .i64 v] w2 (Ret [.at .bool] fun (x9 : Bool) w3 =>
  Q x9 w3))

theorem C_s_mtOwn {Q : Bool → World → Prop} {n_0 : Sl} {n_1 : Sl} {n_2 : Sl} {v : Int} {w : World} (h : V_s_mtOwn Q n_0 n_1 n_2 v w) : Calls Try.prog F.s_mtOwn #[.agg #[n_0.v, n_1.v, n_2.v], .int .i64 v] w (Ret [.at .bool] Q) :=
  mkC (hint := hint) (ann := annOf []) (args := [.agg #[n_0.v, n_1.v, n_2.v], .int .i64 v]) (rs := [.at .bool]) Try.func96 (by kernel_rfl) (by kernel_rfl) h

def V_s_neNear (Q : Sl → World → Prop) (n_0 : Sl) (n_1 : Sl) (n_2 : Sl) (v : Int) (w : World) : Prop :=
  NEW T.t_i_Network #[n_0.v, n_1.v, n_2.v] w fun (p_n : Addr) w1 =>
  LD [.sl] (p_n.add 0) w1 fun (x9 : Sl) =>
  IX x9 v 1 fun (px11 : Addr) =>
  LD [.sl] px11 w1 fun (x12 : Sl) =>
  ∃ (I3 : Sl → Int → World → Prop) (m3 : Sl → Int → World → Nat), I3 (⟨none, 0, 0⟩) 0 w1 ∧ ∀ (out : Sl) (x14 : Int) w2, I3 out x14 w2 → ∀ _ _ _ _ _ _ _ _ _ _ : Value,
  cond (decide ((x14 : Int) < x12.len)) (
  IX x12 x14 2 fun (px16 : Addr) =>
  LD [.int .i64, .int .i64] px16 w2 fun (x17_0 : Int) (x17_1 : Int) =>
  NEW T.t_i_End #[.int .i64 0, .int .i64 0] w2 fun (p_e : Addr) w3 =>
  ST p_e 0 [.int .i64 x17_0, .int .i64 x17_1] w3 fun w4 =>
  LD [.int .i64] (p_e.add 0) w4 fun (x20 : Int) =>
  RUN Try.prog (.at .sl) (Instr.buildSlice T.t_sl_int 1 #[(0, .int .i64 x20)]) w4 fun (x21 : Sl) w5 =>
  RUN Try.prog (.at .sl) (bsem .append #[T.t_sl_int, T.t_sl_int] T.t_sl_int #[out.v, x21.v]) w5 fun (x22 : Sl) w6 =>
  I3 x22 (IntKind.i64.wrap (x14 + 1)) w6 ∧ m3 x22 (IntKind.i64.wrap (x14 + 1)) w6 < m3 out x14 w2) (
  Q out w2)

theorem C_s_neNear {Q : Sl → World → Prop} {n_0 : Sl} {n_1 : Sl} {n_2 : Sl} {v : Int} {w : World} (h : V_s_neNear Q n_0 n_1 n_2 v w) : Calls Try.prog F.s_neNear #[.agg #[n_0.v, n_1.v, n_2.v], .int .i64 v] w (Ret [.at .sl] Q) :=
  mkC (hint := hint) (ann := annOf [(3, ⟨[(5, .sl), (14, .int .i64)], [7, 15, 16, 17, 18, 19, 20, 21, 22, 23]⟩)]) (args := [.agg #[n_0.v, n_1.v, n_2.v], .int .i64 v]) (rs := [.at .sl]) Try.func97 (by kernel_rfl) (by kernel_rfl) h

def V_s_l1Has (Q : Bool → World → Prop) (l : Sl) (n : Int) (w : World) : Prop :=
  ∃ (I2 : Int → World → Prop) (m2 : Int → World → Nat), I2 0 w ∧ ∀ (x9 : Int) w1, I2 x9 w1 → ∀ _ _ _ _ _ _ _ _ _ : Value,
  cond (decide ((x9 : Int) < l.len)) (
  IX l x9 1 fun (px11 : Addr) =>
  LD [.int .i64] px11 w1 fun (x12 : Int) =>
  cond ((x12 : Int) == n) (
  Q true w1) (
  I2 (IntKind.i64.wrap (x9 + 1)) w1 ∧ m2 (IntKind.i64.wrap (x9 + 1)) w1 < m2 x9 w1)) (
  Q false w1)

theorem C_s_l1Has {Q : Bool → World → Prop} {l : Sl} {n : Int} {w : World} (h : V_s_l1Has Q l n w) : Calls Try.prog F.s_l1Has #[l.v, .int .i64 n] w (Ret [.at .bool] Q) :=
  mkC (hint := hint) (ann := annOf [(2, ⟨[(9, .int .i64)], [4, 6, 10, 11, 12, 13, 14, 15, 16]⟩)]) (args := [l.v, .int .i64 n]) (rs := [.at .bool]) Try.func98 (by kernel_rfl) (by kernel_rfl) h

def V_s_l1Put_k4 (l : Sl) (n : Int) (Q : Sl → World → Prop) (k : Int) (w3 : World) : Prop :=
  RUN Try.prog (.at .sl) (Instr.buildSlice T.t_sl_int 0 #[]) w3 fun (x34 : Sl) w4 =>
  SLC l none (some k) 1 fun (x37 : Sl) =>
  RUN Try.prog (.at .sl) (bsem .append #[T.t_sl_int, T.t_sl_int] T.t_sl_int #[x34.v, x37.v]) w4 fun (x38 : Sl) w5 =>
  RUN Try.prog (.at .sl) (Instr.buildSlice T.t_sl_int 1 #[(0, .int .i64 n)]) w5 fun (x41 : Sl) w6 =>
  RUN Try.prog (.at .sl) (bsem .append #[T.t_sl_int, T.t_sl_int] T.t_sl_int #[x38.v, x41.v]) w6 fun (x42 : Sl) w7 =>
  SLC l (some k) none 1 fun (x46 : Sl) =>
  RUN Try.prog (.at .sl) (bsem .append #[T.t_sl_int, T.t_sl_int] T.t_sl_int #[x42.v, x46.v]) w7 fun (x47 : Sl) w8 =>
  Q x47 w8

def V_s_l1Put_k1 (l : Sl) (n : Int) (Q : Sl → World → Prop) (k : Int) (w2 : World) : Prop :=
  cond (decide ((k : Int) < l.len)) (
  IX l k 1 fun (px28 : Addr) =>
  LD [.int .i64] px28 w2 fun (x29 : Int) =>
  cond ((x29 : Int) == n) (
  Q l w2) (
  V_s_l1Put_k4 l n Q k w2)) (
  V_s_l1Put_k4 l n Q k w2)

def V_s_l1Put (Q : Sl → World → Prop) (l : Sl) (n : Int) (w : World) : Prop :=
  ∃ (I2 : Int → World → Prop) (m2 : Int → World → Nat), I2 0 w ∧ ∀ (k : Int) w1, I2 k w1 → ∀ _ _ _ _ _ _ _ _ _ _ _ _ _ _ : Value,
  cond (decide ((k : Int) < l.len)) (
  IX l k 1 fun (px14 : Addr) =>
  LD [.int .i64] px14 w1 fun (x15 : Int) =>
  cond (decide ((x15 : Int) < n)) (
  I2 (IntKind.i64.wrap (k + 1)) w1 ∧ m2 (IntKind.i64.wrap (k + 1)) w1 < m2 k w1) (
  V_s_l1Put_k1 l n Q k w1)) (
  V_s_l1Put_k1 l n Q k w1)

theorem C_s_l1Put {Q : Sl → World → Prop} {l : Sl} {n : Int} {w : World} (h : V_s_l1Put Q l n w) : Calls Try.prog F.s_l1Put #[l.v, .int .i64 n] w (Ret [.at .sl] Q) :=
  mkC (hint := hint) (ann := annOf [(2, ⟨[(5, .int .i64)], [7, 8, 9, 10, 11, 12, 13, 14, 15, 16, 17, 18, 19, 20]⟩)]) (args := [l.v, .int .i64 n]) (rs := [.at .sl]) Try.func99 (by kernel_rfl) (by kernel_rfl) h

def V_s_mtApart (Q : Bool → World → Prop) (n_0 : Sl) (n_1 : Sl) (n_2 : Sl) (v : Int) (set1 : Sl) (w : World) : Prop :=
  NEW T.t_i_Network #[n_0.v, n_1.v, n_2.v] w fun (p_n : Addr) w1 =>
  LD [.sl, .sl, .sl] p_n w1 fun (x9_0 : Sl) (x9_1 : Sl) (x9_2 : Sl) =>
  Calls Try.prog F.s_neNear #[.agg #[x9_0.v, x9_1.v, x9_2.v], .int .i64 v] w1 (Ret [.at .sl] fun (x11 : Sl) w2 =>
  ∃ (I2 : Int → World → Prop) (m2 : Int → World → Nat), I2 0 w2 ∧ ∀ (x13 : Int) w3, I2 x13 w3 → ∀ _ _ _ _ _ _ _ _ _ : Value,
  cond (decide ((x13 : Int) < x11.len)) (
  IX x11 x13 1 fun (px15 : Addr) =>
  LD [.int .i64] px15 w3 fun (x16 : Int) =>
  Calls Try.prog F.s_l1Has #[set1.v, .int .i64 x16] w3 (Ret [.at .bool] fun (x19 : Bool) w4 =>
  cond x19 (
  Q false w4) (
  I2 (IntKind.i64.wrap (x13 + 1)) w4 ∧ m2 (IntKind.i64.wrap (x13 + 1)) w4 < m2 x13 w3))) (
  Q true w3))

theorem C_s_mtApart {Q : Bool → World → Prop} {n_0 : Sl} {n_1 : Sl} {n_2 : Sl} {v : Int} {set1 : Sl} {w : World} (h : V_s_mtApart Q n_0 n_1 n_2 v set1 w) : Calls Try.prog F.s_mtApart #[.agg #[n_0.v, n_1.v, n_2.v], .int .i64 v, set1.v] w (Ret [.at .bool] Q) :=
  mkC (hint := hint) (ann := annOf [(2, ⟨[(13, .int .i64)], [6, 8, 14, 15, 16, 17, 18, 19, 20]⟩)]) (args := [.agg #[n_0.v, n_1.v, n_2.v], .int .i64 v, set1.v]) (rs := [.at .bool]) Try.func100 (by kernel_rfl) (by kernel_rfl) h

def V_i_independentByIds (Q : Sl → Int → World → Prop) (n_0 : Sl) (n_1 : Sl) (n_2 : Sl) (w : World) : Prop :=
  NEW T.t_i_Network #[n_0.v, n_1.v, n_2.v] w fun (p_n : Addr) w1 =>
  NEW T.t_sl_int #[.slice none 0 0] w1 fun (p_open : Addr) w2 =>
  LD [.sl] (p_n.add 0) w2 fun (x13 : Sl) =>
  ∃ (I3 : Int → World → Prop) (m3 : Int → World → Nat), I3 0 w2 ∧ ∀ (x15 : Int) w3, I3 x15 w3 → ∀ _ _ _ _ _ _ _ _ _ _ _ _ _ : Value,
  cond (decide ((x15 : Int) < x13.len)) (
  LD [.sl, .sl, .sl] p_n w3 fun (x18_0 : Sl) (x18_1 : Sl) (x18_2 : Sl) =>
  Calls Try.prog F.i_areJoined #[.agg #[x18_0.v, x18_1.v, x18_2.v], .int .i64 x15, .int .i64 x15] w3 (Ret [.at .bool] fun (x21 : Bool) w4 =>
  cond (!x21) (
  LD [.sl] p_open w4 fun (x23 : Sl) =>
  RUN Try.prog (.at .sl) (Instr.buildSlice T.t_sl_int 1 #[(0, .int .i64 x15)]) w4 fun (x25 : Sl) w5 =>
  RUN Try.prog (.at .sl) (bsem .append #[T.t_sl_int, T.t_sl_int] T.t_sl_int #[x23.v, x25.v]) w5 fun (x26 : Sl) w6 =>
  ST p_open 0 [x26.v] w6 fun w7 =>
  I3 (IntKind.i64.wrap (x15 + 1)) w7 ∧ m3 (IntKind.i64.wrap (x15 + 1)) w7 < m3 x15 w3) (
  I3 (IntKind.i64.wrap (x15 + 1)) w4 ∧ m3 (IntKind.i64.wrap (x15 + 1)) w4 < m3 x15 w3))) (
  ∃ (I9 : Sl → Int → World → Prop) (m9 : Sl → Int → World → Nat), I9 (⟨none, 0, 0⟩) 0 w3 ∧ ∀ (set1 : Sl) (rounds : Int) w8, I9 set1 rounds w8 → ∀ _ _ _ _ _ _ _ _ _ _ _ _ _ _ _ _ _ _ _ _ _ _ _ _ _ _ _ _ _ _ _ _ _ _ : Value,
  LD [.sl] p_open w8 fun (x28 : Sl) =>
  cond (decide ((x28.len : Int) > 0)) (
  NEW T.t_sl_int #[.slice none 0 0] w8 fun (p_joining : Addr) w9 =>
  LD [.sl] p_open w9 fun (x33 : Sl) =>
  ∃ (I13 : Int → World → Prop) (m13 : Int → World → Nat), I13 0 w9 ∧ ∀ (x35 : Int) w10, I13 x35 w10 → ∀ _ _ _ _ _ _ _ _ _ _ _ _ _ _ _ _ _ _ _ : Value,
  cond (decide ((x35 : Int) < x33.len)) (
  IX x33 x35 1 fun (px37 : Addr) =>
  LD [.int .i64] px37 w10 fun (x38 : Int) =>
  NEW T.t_int #[.int .i64 0] w10 fun (p_v : Addr) w11 =>
  ST p_v 0 [.int .i64 x38] w11 fun w12 =>
  LD [.sl] (p_n.add 0) w12 fun (x40 : Sl) =>
  LD [.int .i64] p_v w12 fun (x41 : Int) =>
  IX x40 x41 1 fun (px42 : Addr) =>
  LD [.sl] px42 w12 fun (x43 : Sl) =>
  Calls Try.prog F.slices_ContainsFunc_sl_i_End_i_End #[x43.v, .func (.func F.i_independentByIds_1) #[] #[.pointer (some p_open), .pointer (some p_n), .pointer (some p_v)]] w12 (Ret [.at .bool] fun (x45 : Bool) w13 =>
  cond (!x45) (
  LD [.sl] p_joining w13 fun (x48 : Sl) =>
  LD [.int .i64] p_v w13 fun (x49 : Int) =>
  RUN Try.prog (.at .sl) (Instr.buildSlice T.t_sl_int 1 #[(0, .int .i64 x49)]) w13 fun (x50 : Sl) w14 =>
  RUN Try.prog (.at .sl) (bsem .append #[T.t_sl_int, T.t_sl_int] T.t_sl_int #[x48.v, x50.v]) w14 fun (x51 : Sl) w15 =>
  ST p_joining 0 [x51.v] w15 fun w16 =>
  I13 (IntKind.i64.wrap (x35 + 1)) w16 ∧ m13 (IntKind.i64.wrap (x35 + 1)) w16 < m13 x35 w10) (
  I13 (IntKind.i64.wrap (x35 + 1)) w13 ∧ m13 (IntKind.i64.wrap (x35 + 1)) w13 < m13 x35 w10))) (
  LD [.sl] p_joining w10 fun (x54 : Sl) =>
  RUN Try.prog (.at .sl) (bsem .append #[T.t_sl_int, T.t_sl_int] T.t_sl_int #[set1.v, x54.v]) w10 fun (x55 : Sl) w17 =>
  LD [.sl] p_open w17 fun (x56 : Sl) =>
  Calls Try.prog F.slices_DeleteFunc_sl_int_int #[x56.v, .func (.func F.i_independentByIds_2) #[] #[.pointer (some p_joining), .pointer (some p_n)]] w17 (Ret [.at .sl] fun (x58 : Sl) w18 =>
  ST p_open 0 [x58.v] w18 fun w19 =>
  I9 x55 (IntKind.i64.wrap (rounds + 1)) w19 ∧ m9 x55 (IntKind.i64.wrap (rounds + 1)) w19 < m9 set1 rounds w8))) (
  Calls Try.prog F.slices_Sort_sl_int_int #[set1.v] w8 (Ret [] fun w20 =>
  Q set1 rounds w20)))

theorem C_i_independentByIds {Q : Sl → Int → World → Prop} {n_0 : Sl} {n_1 : Sl} {n_2 : Sl} {w : World} (h : V_i_independentByIds Q n_0 n_1 n_2 w) : Calls Try.prog F.i_independentByIds #[.agg #[n_0.v, n_1.v, n_2.v]] w (Ret [.at .sl, .at (.int .i64)] Q) :=
  mkC (hint := hint) (ann := annOf [(3, ⟨[(15, .int .i64)], [6, 16, 17, 18, 19, 20, 21, 22, 23, 24, 25, 26, 27]⟩), (9, ⟨[(5, .sl), (7, .int .i64)], [8, 10, 11, 28, 29, 30, 31, 32, 33, 34, 35, 36, 37, 38, 39, 40, 41, 42, 43, 44, 45, 46, 47, 48, 49, 50, 51, 52, 53, 54, 55, 56, 57, 58]⟩), (13, ⟨[(35, .int .i64)], [10, 11, 36, 37, 38, 39, 40, 41, 42, 43, 44, 45, 46, 47, 48, 49, 50, 51, 52]⟩)]) (args := [.agg #[n_0.v, n_1.v, n_2.v]]) (rs := [.at .sl, .at (.int .i64)]) Try.func101 (by kernel_rfl) (by kernel_rfl) h

def V_s_mtSides_k1 (sides : Sl) (Q : Bool → World → Prop) (p_n : Addr) (w3 : World) : Prop :=
  LD [.sl, .sl, .sl] p_n w3 fun (x18_0 : Sl) (x18_1 : Sl) (x18_2 : Sl) =>
  Calls Try.prog F.s_neEdges #[.agg #[x18_0.v, x18_1.v, x18_2.v]] w3 (Ret [.at .sl] fun (x19 : Sl) w4 =>
  ∃ (I4 : Int → World → Prop) (m4 : Int → World → Nat), I4 0 w4 ∧ ∀ (x21 : Int) w5, I4 x21 w5 → ∀ _ _ _ _ _ _ _ _ _ _ _ _ _ _ _ _ _ _ _ : Value,
  cond (decide ((x21 : Int) < x19.len)) (
  IX x19 x21 1 fun (px23 : Addr) =>
  LD [.sl] px23 w5 fun (x24 : Sl) =>
  IX x24 0 1 fun (px27 : Addr) =>
  LD [.int .i64] px27 w5 fun (x28 : Int) =>
  IX sides x28 1 fun (px29 : Addr) =>
  LD [.int .i64] px29 w5 fun (x30 : Int) =>
  IX x24 2 1 fun (px33 : Addr) =>
  LD [.int .i64] px33 w5 fun (x34 : Int) =>
  IX sides x34 1 fun (px35 : Addr) =>
  LD [.int .i64] px35 w5 fun (x36 : Int) =>
  ∀ w6, Ext w5 w6 →
  cond ((x30 : Int) == x36) (
  Q false w6) (
  I4 (IntKind.i64.wrap (x21 + 1)) w6 ∧ m4 (IntKind.i64.wrap (x21 + 1)) w6 < m4 x21 w5)) (
  Q true w5))

def V_s_mtSides (Q : Bool → World → Prop) (n_0 : Sl) (n_1 : Sl) (n_2 : Sl) (sides : Sl) (w : World) : Prop :=
  NEW T.t_i_Network #[n_0.v, n_1.v, n_2.v] w fun (p_n : Addr) w1 =>
  LD [.sl] (p_n.add 0) w1 fun (x10 : Sl) =>
  cond ((sides.len : Int) != x10.len) (
  Q false w1) (
  Calls Try.prog F.s_l1All #[sides.v, .int .i64 0, .int .i64 1] w1 (Ret [.at .bool] fun (x15 : Bool) w2 =>
  cond (!x15) (
  Q false w2) (
  V_s_mtSides_k1 sides Q p_n w2)))

theorem C_s_mtSides {Q : Bool → World → Prop} {n_0 : Sl} {n_1 : Sl} {n_2 : Sl} {sides : Sl} {w : World} (h : V_s_mtSides Q n_0 n_1 n_2 sides w) : Calls Try.prog F.s_mtSides #[.agg #[n_0.v, n_1.v, n_2.v], sides.v] w (Ret [.at .bool] Q) :=
  mkC (hint := hint) (ann := annOf [(4, ⟨[(21, .int .i64)], [4, 6, 22, 23, 24, 25, 26, 27, 28, 29, 30, 31, 32, 33, 34, 35, 36, 37, 38]⟩)]) (args := [.agg #[n_0.v, n_1.v, n_2.v], sides.v]) (rs := [.at .bool]) Try.func102 (by kernel_rfl) (by kernel_rfl) h

def V_s_mtProposals_k12 (I18 : Sl → Int → World → Prop) (m18 : Sl → Int → World → Nat) (x9_3 : Sl) (x65 : Int) (w9 : World) (x9_4 : Sl) (w13 : World) : Prop :=
  I18 x9_4 (IntKind.i64.wrap (x65 + 1)) w13 ∧ m18 x9_4 (IntKind.i64.wrap (x65 + 1)) w13 < m18 x9_3 x65 w9

def V_s_mtProposals_k8 (I14 : Sl → Int → World → Prop) (m14 : Sl → Int → World → Nat) (x9_2 : Sl) (x46 : Int) (w7 : World) (x9_5 : Sl) (w14 : World) : Prop :=
  I14 x9_5 (IntKind.i64.wrap (x46 + 1)) w14 ∧ m14 x9_5 (IntKind.i64.wrap (x46 + 1)) w14 < m14 x9_2 x46 w7

def V_s_mtProposals_k9 (I14 : Sl → Int → World → Prop) (m14 : Sl → Int → World → Nat) (w7 : World) (px2 : Addr) (x10 : Int) (x42 : Sl) (x9_2 : Sl) (x46 : Int) (x50 : Sl) (w8 : World) : Prop :=
  ∃ (I18 : Sl → Int → World → Prop) (m18 : Sl → Int → World → Nat), I18 x9_2 0 w8 ∧ ∀ (x9_3 : Sl) (x65 : Int) w9, I18 x9_3 x65 w9 → ∀ _ _ _ _ _ _ _ _ _ _ _ _ _ _ _ _ _ _ _ _ _ _ _ _ _ _ _ _ _ _ _ : Value,
  cond (decide ((x65 : Int) < x50.len)) (
  IX x50 x65 2 fun (px68 : Addr) =>
  LD [.int .i64, .int .i64] px68 w9 fun (x69_0 : Int) (x69_1 : Int) =>
  NEW T.t_i_End #[.int .i64 0, .int .i64 0] w9 fun (px15 : Addr) w10 =>
  ST px15 0 [.int .i64 x69_0, .int .i64 x69_1] w10 fun w11 =>
  IX x9_3 x46 1 fun (px72 : Addr) =>
  LD [.int .i64] px72 w11 fun (x73 : Int) =>
  cond (decide ((x73 : Int) < 0)) (
  LD [.int .i64] (px15.add 0) w11 fun (x78 : Int) =>
  IX x42 x78 1 fun (px79 : Addr) =>
  LD [.int .i64] px79 w11 fun (x80 : Int) =>
  cond (decide ((x80 : Int) < 0)) (
  LD [.int .i64] (px15.add 1) w11 fun (x85 : Int) =>
  cond ((x85 : Int) == x10) (
  LD [.sl, .sl, .sl] px2 w11 fun (x89_0 : Sl) (x89_1 : Sl) (x89_2 : Sl) =>
  Calls Try.prog F.s_mtTake #[.agg #[x89_0.v, x89_1.v, x89_2.v], x9_3.v, .int .i64 x46, .int .i64 x65] w11 (Ret [.at .sl] fun (x93 : Sl) w12 =>
  V_s_mtProposals_k12 I18 m18 x9_3 x65 w9 x93 w12)) (
  V_s_mtProposals_k12 I18 m18 x9_3 x65 w9 x9_3 w11)) (
  V_s_mtProposals_k12 I18 m18 x9_3 x65 w9 x9_3 w11)) (
  V_s_mtProposals_k12 I18 m18 x9_3 x65 w9 x9_3 w11)) (
  V_s_mtProposals_k8 I14 m14 x9_2 x46 w7 x9_3 w9)

def V_s_mtProposals (Q : Sl → Int → World → Prop) (x0_0 : Sl) (x0_1 : Sl) (x0_2 : Sl) (x1 : Sl) (w : World) : Prop :=
  NEW T.t_i_Network #[x0_0.v, x0_1.v, x0_2.v] w fun (px2 : Addr) w1 =>
  LD [.sl] (px2.add 0) w1 fun (x17 : Sl) =>
  ∃ (I3 : Int → Int → World → Prop) (m3 : Int → Int → World → Nat), I3 0 0 w1 ∧ ∀ (x6 : Int) (x19 : Int) w2, I3 x6 x19 w2 → ∀ _ _ _ _ _ _ _ _ _ _ _ _ _ _ _ _ : Value,
  cond (decide ((x19 : Int) < x17.len)) (
  IX x17 x19 1 fun (px22 : Addr) =>
  LD [.sl] px22 w2 fun (x23 : Sl) =>
  IX x1 x19 1 fun (px26 : Addr) =>
  LD [.int .i64] px26 w2 fun (x27 : Int) =>
  cond ((x27 : Int) == 0) (
  Calls Try.prog F.s_l1Most #[.int .i64 x6, .int .i64 x23.len] w2 (Ret [.at (.int .i64)] fun (x32 : Int) w3 =>
  I3 x32 (IntKind.i64.wrap (x19 + 1)) w3 ∧ m3 x32 (IntKind.i64.wrap (x19 + 1)) w3 < m3 x6 x19 w2)) (
  I3 x6 (IntKind.i64.wrap (x19 + 1)) w2 ∧ m3 x6 (IntKind.i64.wrap (x19 + 1)) w2 < m3 x6 x19 w2)) (
  LD [.sl, .sl, .sl] px2 w2 fun (x34_0 : Sl) (x34_1 : Sl) (x34_2 : Sl) =>
  Calls Try.prog F.s_mtFree #[.agg #[x34_0.v, x34_1.v, x34_2.v]] w2 (Ret [.at .sl] fun (x35 : Sl) w4 =>
  ∃ (I10 : Sl → Int → World → Prop) (m10 : Sl → Int → World → Nat), I10 x35 0 w4 ∧ ∀ (x9 : Sl) (x10 : Int) w5, I10 x9 x10 w5 → ∀ _ _ _ _ _ _ _ _ _ _ _ _ _ _ _ _ _ _ _ _ _ _ _ _ _ _ _ _ _ _ _ _ _ _ _ _ _ _ _ _ _ _ _ _ _ _ _ _ _ _ _ _ _ _ _ _ _ _ _ _ _ _ _ _ _ : Value,
  cond (decide ((x10 : Int) < x6)) (
  Calls Try.prog F.s_l1Own #[x9.v] w5 (Ret [.at .sl] fun (x42 : Sl) w6 =>
  LD [.sl] (px2.add 0) w6 fun (x44 : Sl) =>
  ∃ (I14 : Sl → Int → World → Prop) (m14 : Sl → Int → World → Nat), I14 x9 0 w6 ∧ ∀ (x9_2 : Sl) (x46 : Int) w7, I14 x9_2 x46 w7 → ∀ _ _ _ _ _ _ _ _ _ _ _ _ _ _ _ _ _ _ _ _ _ _ _ _ _ _ _ _ _ _ _ _ _ _ _ _ _ _ _ _ _ _ _ _ _ _ _ _ _ _ _ _ _ : Value,
  cond (decide ((x46 : Int) < x44.len)) (
  IX x44 x46 1 fun (px49 : Addr) =>
  LD [.sl] px49 w7 fun (x50 : Sl) =>
  IX x1 x46 1 fun (px53 : Addr) =>
  LD [.int .i64] px53 w7 fun (x54 : Int) =>
  cond ((x54 : Int) == 0) (
  V_s_mtProposals_k8 I14 m14 x9_2 x46 w7 x9_2 w7) (
  IX x42 x46 1 fun (px59 : Addr) =>
  LD [.int .i64] px59 w7 fun (x60 : Int) =>
  cond (decide ((x60 : Int) ≥ 0)) (
  V_s_mtProposals_k8 I14 m14 x9_2 x46 w7 x9_2 w7) (
  V_s_mtProposals_k9 I14 m14 w7 px2 x10 x42 x9_2 x46 x50 w7))) (
  I10 x9_2 (IntKind.i64.wrap (x10 + 1)) w7 ∧ m10 x9_2 (IntKind.i64.wrap (x10 + 1)) w7 < m10 x9 x10 w5))) (
  Q x9 x6 w5)))

theorem C_s_mtProposals {Q : Sl → Int → World → Prop} {x0_0 : Sl} {x0_1 : Sl} {x0_2 : Sl} {x1 : Sl} {w : World} (h : V_s_mtProposals Q x0_0 x0_1 x0_2 x1 w) : Calls Try.prog F.s_mtProposals #[.agg #[x0_0.v, x0_1.v, x0_2.v], x1.v] w (Ret [.at .sl, .at (.int .i64)] Q) :=
  mkC (hint := hint) (ann := annOf [(3, ⟨[(6, .int .i64), (19, .int .i64)], [7, 8, 20, 21, 22, 23, 24, 25, 26, 27, 28, 29, 30, 31, 32, 33]⟩), (10, ⟨[(9, .sl), (10, .int .i64)], [11, 12, 13, 14, 15, 36, 37, 38, 39, 40, 41, 42, 43, 44, 45, 46, 47, 48, 49, 50, 51, 52, 53, 54, 55, 56, 57, 58, 59, 60, 61, 62, 63, 64, 65, 66, 67, 68, 69, 70, 71, 72, 73, 74, 75, 76, 77, 78, 79, 80, 81, 82, 83, 84, 85, 86, 87, 88, 89, 90, 91, 92, 93, 94, 95]⟩), (14, ⟨[(9, .sl), (46, .int .i64)], [12, 13, 14, 15, 47, 48, 49, 50, 51, 52, 53, 54, 55, 56, 57, 58, 59, 60, 61, 62, 63, 64, 65, 66, 67, 68, 69, 70, 71, 72, 73, 74, 75, 76, 77, 78, 79, 80, 81, 82, 83, 84, 85, 86, 87, 88, 89, 90, 91, 92, 93, 94, 95]⟩), (18, ⟨[(9, .sl), (65, .int .i64)], [14, 15, 66, 67, 68, 69, 70, 71, 72, 73, 74, 75, 76, 77, 78, 79, 80, 81, 82, 83, 84, 85, 86, 87, 88, 89, 90, 91, 92, 93, 94]⟩)]) (args := [.agg #[x0_0.v, x0_1.v, x0_2.v], x1.v]) (rs := [.at .sl, .at (.int .i64)]) Try.func103 (by kernel_rfl) (by kernel_rfl) h

def V_i_allWithin (Q : Bool → World → Prop) (list : Sl) (low : Int) (high : Int) (w : World) : Prop :=
  NEW T.t_int #[.int .i64 low] w fun (p_low : Addr) w1 =>
  NEW T.t_int #[.int .i64 high] w1 fun (p_high : Addr) w2 =>
  Calls Try.prog F.slices_ContainsFunc_sl_int_int #[list.v, .func (.func F.i_allWithin_1) #[] #[.pointer (some p_low), .pointer (some p_high)]] w2 (Ret [.at .bool] fun (x9 : Bool) w3 =>
  Q (!x9) w3)

theorem C_i_allWithin {Q : Bool → World → Prop} {list : Sl} {low : Int} {high : Int} {w : World} (h : V_i_allWithin Q list low high w) : Calls Try.prog F.i_allWithin #[list.v, .int .i64 low, .int .i64 high] w (Ret [.at .bool] Q) :=
  mkC (hint := hint) (ann := annOf []) (args := [list.v, .int .i64 low, .int .i64 high]) (rs := [.at .bool]) Try.func104 (by kernel_rfl) (by kernel_rfl) h

def V_slices_ContainsFunc_sl_i_edge_i_edge (Q : Bool → World → Prop) (s : Sl) (f : Value) (w : World) : Prop :=
  Calls Try.prog F.slices_IndexFunc_sl_i_edge_i_edge #[s.v, f] w (Ret [.at (.int .i64)] fun (x7 : Int) w1 =>
  Q (decide ((x7 : Int) ≥ 0)) w1)

theorem C_slices_ContainsFunc_sl_i_edge_i_edge {Q : Bool → World → Prop} {s : Sl} {f : Value} {w : World} (h : V_slices_ContainsFunc_sl_i_edge_i_edge Q s f w) : Calls Try.prog F.slices_ContainsFunc_sl_i_edge_i_edge #[s.v, f] w (Ret [.at .bool] Q) :=
  mkC (hint := hint) (ann := annOf []) (args := [s.v, f]) (rs := [.at .bool]) Try.func105 (by kernel_rfl) (by kernel_rfl) h

def V_i_ProposalMatching_1 (Q : Bool → World → Prop) (e_0 : Int) (e_1 : Int) (e_2 : Int) (e_3 : Int) (cap0 : Addr) (w : World) : Prop :=
  NEW T.t_i_edge #[.int .i64 e_0, .int .i64 e_1, .int .i64 e_2, .int .i64 e_3] w fun (p_e : Addr) w1 =>
  LD [.sl] cap0 w1 fun (x4 : Sl) =>
  LD [.int .i64] (p_e.add 0) w1 fun (x6 : Int) =>
  IX x4 x6 1 fun (px7 : Addr) =>
  LD [.int .i64] px7 w1 fun (x8 : Int) =>
  LD [.sl] cap0 w1 fun (x9 : Sl) =>
  LD [.int .i64] (p_e.add 2) w1 fun (x11 : Int) =>
  IX x9 x11 1 fun (px12 : Addr) =>
  LD [.int .i64] px12 w1 fun (x13 : Int) =>
  ∀ w2, Ext w1 w2 →
  Q ((x8 : Int) == x13) w2

theorem C_i_ProposalMatching_1 {Q : Bool → World → Prop} {e_0 : Int} {e_1 : Int} {e_2 : Int} {e_3 : Int} {cap0 : Addr} {w : World} (h : V_i_ProposalMatching_1 Q e_0 e_1 e_2 e_3 cap0 w) : Calls Try.prog F.i_ProposalMatching_1 #[.agg #[.int .i64 e_0, .int .i64 e_1, .int .i64 e_2, .int .i64 e_3], .pointer (some cap0)] w (Ret [.at .bool] Q) :=
  mkC (hint := hint) (ann := annOf []) (args := [.agg #[.int .i64 e_0, .int .i64 e_1, .int .i64 e_2, .int .i64 e_3], .pointer (some cap0)]) (rs := [.at .bool]) Try.func106 (by kernel_rfl) (by kernel_rfl) h

def V_i_proposalMatching_k9 (I14 : Int → World → Prop) (m14 : Int → World → Nat) (x46 : Int) (w7 : World) (w16 : World) : Prop :=
  I14 (IntKind.i64.wrap (x46 + 1)) w16 ∧ m14 (IntKind.i64.wrap (x46 + 1)) w16 < m14 x46 w7

def V_i_proposalMatching_k10 (I14 : Int → World → Prop) (m14 : Int → World → Nat) (x46 : Int) (w7 : World) (x18 : Sl) (x38 : Int) (x42 : Sl) (x50 : Sl) (w8 : World) : Prop :=
  IX x50 x38 2 fun (px71 : Addr) =>
  LD [.int .i64, .int .i64] px71 w8 fun (x72_0 : Int) (x72_1 : Int) =>
  NEW T.t_i_End #[.int .i64 0, .int .i64 0] w8 fun (px14 : Addr) w9 =>
  ST px14 0 [.int .i64 x72_0, .int .i64 x72_1] w9 fun w10 =>
  LD [.int .i64] (px14.add 0) w10 fun (x75 : Int) =>
  IX x18 x75 1 fun (px76 : Addr) =>
  LD [.int .i64] px76 w10 fun (x77 : Int) =>
  cond (decide ((x77 : Int) < 0)) (
  LD [.int .i64] (px14.add 0) w10 fun (x82 : Int) =>
  IX x42 x82 1 fun (px83 : Addr) =>
  LD [.int .i64] px83 w10 fun (x84 : Int) =>
  cond (decide ((x84 : Int) < 0)) (
  ∀ w11, Ext w10 w11 →
  LD [.int .i64] (px14.add 0) w11 fun (x99 : Int) =>
  LD [.int .i64] (px14.add 1) w11 fun (x101 : Int) =>
  IX x42 x99 1 fun (px102 : Addr) =>
  ST px102 0 [.int .i64 x101] w11 fun w14 =>
  V_i_proposalMatching_k9 I14 m14 x46 w7 w14) (
  LD [.int .i64] (px14.add 1) w10 fun (x88 : Int) =>
  LD [.int .i64] (px14.add 0) w10 fun (x91 : Int) =>
  IX x42 x91 1 fun (px92 : Addr) =>
  LD [.int .i64] px92 w10 fun (x93 : Int) =>
  ∀ w12, Ext w10 w12 →
  cond (decide ((x88 : Int) < x93)) (
  LD [.int .i64] (px14.add 0) w12 fun (x99_2 : Int) =>
  LD [.int .i64] (px14.add 1) w12 fun (x101_2 : Int) =>
  IX x42 x99_2 1 fun (px102_2 : Addr) =>
  ST px102_2 0 [.int .i64 x101_2] w12 fun w15 =>
  V_i_proposalMatching_k9 I14 m14 x46 w7 w15) (
  V_i_proposalMatching_k9 I14 m14 x46 w7 w12))) (
  ∀ w13, Ext w10 w13 →
  V_i_proposalMatching_k9 I14 m14 x46 w7 w13)

def V_i_proposalMatching (Q : Sl → Int → World → Prop) (x0_0 : Sl) (x0_1 : Sl) (x0_2 : Sl) (x1 : Sl) (w : World) : Prop :=
  NEW T.t_i_Network #[x0_0.v, x0_1.v, x0_2.v] w fun (px2 : Addr) w1 =>
  LD [.sl, .sl, .sl] px2 w1 fun (x17_0 : Sl) (x17_1 : Sl) (x17_2 : Sl) =>
  Calls Try.prog F.i_noMatching #[.agg #[x17_0.v, x17_1.v, x17_2.v]] w1 (Ret [.at .sl] fun (x18 : Sl) w2 =>
  LD [.sl] (px2.add 0) w2 fun (x20 : Sl) =>
  ∃ (I4 : Int → Int → World → Prop) (m4 : Int → Int → World → Nat), I4 0 0 w2 ∧ ∀ (x7 : Int) (x22 : Int) w3, I4 x7 x22 w3 → ∀ _ _ _ _ _ _ _ _ _ _ _ _ _ _ _ _ : Value,
  cond (decide ((x22 : Int) < x20.len)) (
  IX x20 x22 1 fun (px25 : Addr) =>
  LD [.sl] px25 w3 fun (x26 : Sl) =>
  IX x1 x22 1 fun (px29 : Addr) =>
  LD [.int .i64] px29 w3 fun (x30 : Int) =>
  cond ((x30 : Int) == 0) (
  RUN Try.prog (.at (.int .i64)) (bsem .max #[T.t_int, T.t_int] T.t_int #[.int .i64 x7, .int .i64 x26.len]) w3 fun (x35 : Int) w4 =>
  I4 x35 (IntKind.i64.wrap (x22 + 1)) w4 ∧ m4 x35 (IntKind.i64.wrap (x22 + 1)) w4 < m4 x7 x22 w3) (
  I4 x7 (IntKind.i64.wrap (x22 + 1)) w3 ∧ m4 x7 (IntKind.i64.wrap (x22 + 1)) w3 < m4 x7 x22 w3)) (
  ∃ (I10 : Int → World → Prop) (m10 : Int → World → Nat), I10 0 w3 ∧ ∀ (x38 : Int) w5, I10 x38 w5 → ∀ _ _ _ _ _ _ _ _ _ _ _ _ _ _ _ _ _ _ _ _ _ _ _ _ _ _ _ _ _ _ _ _ _ _ _ _ _ _ _ _ _ _ _ _ _ _ _ _ _ _ _ _ _ _ _ _ _ _ _ _ _ _ _ _ _ _ _ _ _ _ _ _ _ _ _ _ _ _ _ _ _ _ _ _ _ _ _ _ _ _ _ _ _ _ _ _ _ _ _ : Value,
  cond (decide ((x38 : Int) < x7)) (
  LD [.sl, .sl, .sl] px2 w5 fun (x41_0 : Sl) (x41_1 : Sl) (x41_2 : Sl) =>
  Calls Try.prog F.i_noMatching #[.agg #[x41_0.v, x41_1.v, x41_2.v]] w5 (Ret [.at .sl] fun (x42 : Sl) w6 =>
  LD [.sl] (px2.add 0) w6 fun (x44 : Sl) =>
  ∃ (I14 : Int → World → Prop) (m14 : Int → World → Nat), I14 0 w6 ∧ ∀ (x46 : Int) w7, I14 x46 w7 → ∀ _ _ _ _ _ _ _ _ _ _ _ _ _ _ _ _ _ _ _ _ _ _ _ _ _ _ _ _ _ _ _ _ _ _ _ _ _ _ _ _ _ _ _ _ _ _ _ _ _ _ _ _ _ _ _ _ _ _ _ _ : Value,
  cond (decide ((x46 : Int) < x44.len)) (
  IX x44 x46 1 fun (px49 : Addr) =>
  LD [.sl] px49 w7 fun (x50 : Sl) =>
  IX x1 x46 1 fun (px53 : Addr) =>
  LD [.int .i64] px53 w7 fun (x54 : Int) =>
  cond ((x54 : Int) != 0) (
  V_i_proposalMatching_k9 I14 m14 x46 w7 w7) (
  IX x18 x46 1 fun (px59 : Addr) =>
  LD [.int .i64] px59 w7 fun (x60 : Int) =>
  cond (decide ((x60 : Int) ≥ 0)) (
  V_i_proposalMatching_k9 I14 m14 x46 w7 w7) (
  cond (decide ((x38 : Int) ≥ x50.len)) (
  V_i_proposalMatching_k9 I14 m14 x46 w7 w7) (
  V_i_proposalMatching_k10 I14 m14 x46 w7 x18 x38 x42 x50 w7)))) (
  ∃ (I22 : Int → World → Prop) (m22 : Int → World → Nat), I22 0 w7 ∧ ∀ (x106 : Int) w17, I22 x106 w17 → ∀ _ _ _ _ _ _ _ _ _ _ _ _ _ _ _ _ _ _ _ _ _ _ _ _ _ : Value,
  cond (decide ((x106 : Int) < x42.len)) (
  IX x42 x106 1 fun (px109 : Addr) =>
  LD [.int .i64] px109 w17 fun (x110 : Int) =>
  cond (decide ((x110 : Int) ≥ 0)) (
  LD [.sl] (px2.add 0) w17 fun (x117 : Sl) =>
  IX x117 x106 1 fun (px119 : Addr) =>
  LD [.sl] px119 w17 fun (x120 : Sl) =>
  IX x120 x110 2 fun (px122 : Addr) =>
  LD [.int .i64] (px122.add 0) w17 fun (x124 : Int) =>
  IX x18 x106 1 fun (px127 : Addr) =>
  ST px127 0 [.int .i64 x110] w17 fun w18 =>
  IX x18 x124 1 fun (px128 : Addr) =>
  ST px128 0 [.int .i64 x38] w18 fun w19 =>
  I22 (IntKind.i64.wrap (x106 + 1)) w19 ∧ m22 (IntKind.i64.wrap (x106 + 1)) w19 < m22 x106 w17) (
  I22 (IntKind.i64.wrap (x106 + 1)) w17 ∧ m22 (IntKind.i64.wrap (x106 + 1)) w17 < m22 x106 w17)) (
  I10 (IntKind.i64.wrap (x38 + 1)) w17 ∧ m10 (IntKind.i64.wrap (x38 + 1)) w17 < m10 x38 w5)))) (
  Q x18 x7 w5)))

theorem C_i_proposalMatching {Q : Sl → Int → World → Prop} {x0_0 : Sl} {x0_1 : Sl} {x0_2 : Sl} {x1 : Sl} {w : World} (h : V_i_proposalMatching Q x0_0 x0_1 x0_2 x1 w) : Calls Try.prog F.i_proposalMatching #[.agg #[x0_0.v, x0_1.v, x0_2.v], x1.v] w (Ret [.at .sl, .at (.int .i64)] Q) :=
  mkC (hint := hint) (ann := annOf [(4, ⟨[(7, .int .i64), (22, .int .i64)], [8, 9, 23, 24, 25, 26, 27, 28, 29, 30, 31, 32, 33, 34, 35, 36]⟩), (10, ⟨[(38, .int .i64)], [10, 11, 12, 13, 14, 15, 16, 39, 40, 41, 42, 43, 44, 45, 46, 47, 48, 49, 50, 51, 52, 53, 54, 55, 56, 57, 58, 59, 60, 61, 62, 63, 64, 65, 66, 67, 68, 69, 70, 71, 72, 73, 74, 75, 76, 77, 78, 79, 80, 81, 82, 83, 84, 85, 86, 87, 88, 89, 90, 91, 92, 93, 94, 95, 96, 97, 98, 99, 100, 101, 102, 103, 104, 105, 106, 107, 108, 109, 110, 111, 112, 113, 114, 115, 116, 117, 118, 119, 120, 121, 122, 123, 124, 125, 126, 127, 128, 129, 130]⟩), (14, ⟨[(46, .int .i64)], [12, 13, 14, 47, 48, 49, 50, 51, 52, 53, 54, 55, 56, 57, 58, 59, 60, 61, 62, 63, 64, 65, 66, 67, 68, 69, 70, 71, 72, 73, 74, 75, 76, 77, 78, 79, 80, 81, 82, 83, 84, 85, 86, 87, 88, 89, 90, 91, 92, 93, 94, 95, 96, 97, 98, 99, 100, 101, 102, 103]⟩), (22, ⟨[(106, .int .i64)], [15, 16, 107, 108, 109, 110, 111, 112, 113, 114, 115, 116, 117, 118, 119, 120, 121, 122, 123, 124, 125, 126, 127, 128, 129]⟩)]) (args := [.agg #[x0_0.v, x0_1.v, x0_2.v], x1.v]) (rs := [.at .sl, .at (.int .i64)]) Try.func107 (by kernel_rfl) (by kernel_rfl) h

def V_l_szEndS (Q : Int → World → Prop) (a : Sl) (left : Int) (w : World) : Prop :=
  cond (decide (((IntKind.i64.wrap (left - a.len)) : Int) < 0)) (
  Q (-1) w) (
  Q (IntKind.i64.wrap (left - a.len)) w)

theorem C_l_szEndS {Q : Int → World → Prop} {a : Sl} {left : Int} {w : World} (h : V_l_szEndS Q a left w) : Calls Try.prog F.l_szEndS #[a.v, .int .i64 left] w (Ret [.at (.int .i64)] Q) :=
  mkC (hint := hint) (ann := annOf []) (args := [a.v, .int .i64 left]) (rs := [.at (.int .i64)]) Try.func108 (by kernel_rfl) (by kernel_rfl) h

end Go.Proofs.Ytcilbmkieclelaa
