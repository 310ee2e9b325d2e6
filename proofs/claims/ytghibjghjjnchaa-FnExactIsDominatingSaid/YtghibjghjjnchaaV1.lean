/- What each function's code computes to. Printed by a program. -/
import Derived.Test.YtghibjghjjnchaaNames
namespace Go.Proofs.Ytghibjghjjnchaa
open Go.GX Go.RowKit
set_option linter.unusedVariables false
set_option maxRecDepth 100000

def V_s_IsIndependent (Q : Bool → Bool → World → Prop) (n_0 : Sl) (n_1 : Sl) (n_2 : Sl) (set1 : Sl) (w : World) : Prop :=
  NEW T.t_i_Network #[n_0.v, n_1.v, n_2.v] w fun (p_n : Addr) w1 =>
  LD [.sl, .sl, .sl] p_n w1 fun (x6_0 : Sl) (x6_1 : Sl) (x6_2 : Sl) =>
  Calls Try.prog F.s_mtSet #[.agg #[x6_0.v, x6_1.v, x6_2.v], set1.v] w1 (Ret [.at .bool] fun (x8 : Bool) w2 =>
  cond (!x8) (
  Q false false w2) (
  LD [.sl, .sl, .sl] p_n w2 fun (x10_0 : Sl) (x10_1 : Sl) (x10_2 : Sl) =>
  Calls Try.prog F.s_mtIndependent #[.agg #[x10_0.v, x10_1.v, x10_2.v], set1.v] w2 (Ret [.at .bool] fun (x12 : Bool) w3 =>
  Q x12 true w3)))

theorem C_s_IsIndependent {Q : Bool → Bool → World → Prop} {n_0 : Sl} {n_1 : Sl} {n_2 : Sl} {set1 : Sl} {w : World} (h : V_s_IsIndependent Q n_0 n_1 n_2 set1 w) : Calls Try.prog F.s_IsIndependent #[.agg #[n_0.v, n_1.v, n_2.v], set1.v] w (Ret [.at .bool, .at .bool] Q) :=
  mkC (hint := hint) (ann := annOf []) (args := [.agg #[n_0.v, n_1.v, n_2.v], set1.v]) (rs := [.at .bool, .at .bool]) Try.func34 (by kernel_rfl) (by kernel_rfl) h

def V_i_IsIndependent (Q : Bool → Bool → World → Prop) (n_0 : Sl) (n_1 : Sl) (n_2 : Sl) (set1 : Sl) (w : World) : Prop :=
  NEW T.t_i_Network #[n_0.v, n_1.v, n_2.v] w fun (p_n : Addr) w1 =>
  LD [.sl, .sl, .sl] p_n w1 fun (x6_0 : Sl) (x6_1 : Sl) (x6_2 : Sl) =>
  Calls Try.prog F.i_isNodeSet #[.agg #[x6_0.v, x6_1.v, x6_2.v], set1.v] w1 (Ret [.at .bool] fun (x8 : Bool) w2 =>
  cond (!x8) (
  Q false false w2) (
  LD [.sl, .sl, .sl] p_n w2 fun (x10_0 : Sl) (x10_1 : Sl) (x10_2 : Sl) =>
  Calls Try.prog F.i_isIndependent #[.agg #[x10_0.v, x10_1.v, x10_2.v], set1.v] w2 (Ret [.at .bool] fun (x12 : Bool) w3 =>
  Q x12 true w3)))

theorem C_i_IsIndependent {Q : Bool → Bool → World → Prop} {n_0 : Sl} {n_1 : Sl} {n_2 : Sl} {set1 : Sl} {w : World} (h : V_i_IsIndependent Q n_0 n_1 n_2 set1 w) : Calls Try.prog F.i_IsIndependent #[.agg #[n_0.v, n_1.v, n_2.v], set1.v] w (Ret [.at .bool, .at .bool] Q) :=
  mkC (hint := hint) (ann := annOf []) (args := [.agg #[n_0.v, n_1.v, n_2.v], set1.v]) (rs := [.at .bool, .at .bool]) Try.func35 (by kernel_rfl) (by kernel_rfl) h

def V_s_IsVertexCover (Q : Bool → Bool → World → Prop) (n_0 : Sl) (n_1 : Sl) (n_2 : Sl) (set1 : Sl) (w : World) : Prop :=
  NEW T.t_i_Network #[n_0.v, n_1.v, n_2.v] w fun (p_n : Addr) w1 =>
  LD [.sl, .sl, .sl] p_n w1 fun (x6_0 : Sl) (x6_1 : Sl) (x6_2 : Sl) =>
  Calls Try.prog F.s_mtSet #[.agg #[x6_0.v, x6_1.v, x6_2.v], set1.v] w1 (Ret [.at .bool] fun (x8 : Bool) w2 =>
  cond (!x8) (
  Q false false w2) (
  LD [.sl, .sl, .sl] p_n w2 fun (x10_0 : Sl) (x10_1 : Sl) (x10_2 : Sl) =>
  Calls Try.prog F.s_mtCovers #[.agg #[x10_0.v, x10_1.v, x10_2.v], set1.v] w2 (Ret [.at .bool] fun (x12 : Bool) w3 =>
  Q x12 true w3)))

theorem C_s_IsVertexCover {Q : Bool → Bool → World → Prop} {n_0 : Sl} {n_1 : Sl} {n_2 : Sl} {set1 : Sl} {w : World} (h : V_s_IsVertexCover Q n_0 n_1 n_2 set1 w) : Calls Try.prog F.s_IsVertexCover #[.agg #[n_0.v, n_1.v, n_2.v], set1.v] w (Ret [.at .bool, .at .bool] Q) :=
  mkC (hint := hint) (ann := annOf []) (args := [.agg #[n_0.v, n_1.v, n_2.v], set1.v]) (rs := [.at .bool, .at .bool]) Try.func36 (by kernel_rfl) (by kernel_rfl) h

def V_i_IsVertexCover (Q : Bool → Bool → World → Prop) (n_0 : Sl) (n_1 : Sl) (n_2 : Sl) (set1 : Sl) (w : World) : Prop :=
  NEW T.t_i_Network #[n_0.v, n_1.v, n_2.v] w fun (p_n : Addr) w1 =>
  LD [.sl, .sl, .sl] p_n w1 fun (x6_0 : Sl) (x6_1 : Sl) (x6_2 : Sl) =>
  Calls Try.prog F.i_isNodeSet #[.agg #[x6_0.v, x6_1.v, x6_2.v], set1.v] w1 (Ret [.at .bool] fun (x8 : Bool) w2 =>
  cond (!x8) (
  Q false false w2) (
  LD [.sl, .sl, .sl] p_n w2 fun (x10_0 : Sl) (x10_1 : Sl) (x10_2 : Sl) =>
  Calls Try.prog F.i_isCover #[.agg #[x10_0.v, x10_1.v, x10_2.v], set1.v] w2 (Ret [.at .bool] fun (x12 : Bool) w3 =>
  Q x12 true w3)))

theorem C_i_IsVertexCover {Q : Bool → Bool → World → Prop} {n_0 : Sl} {n_1 : Sl} {n_2 : Sl} {set1 : Sl} {w : World} (h : V_i_IsVertexCover Q n_0 n_1 n_2 set1 w) : Calls Try.prog F.i_IsVertexCover #[.agg #[n_0.v, n_1.v, n_2.v], set1.v] w (Ret [.at .bool, .at .bool] Q) :=
  mkC (hint := hint) (ann := annOf []) (args := [.agg #[n_0.v, n_1.v, n_2.v], set1.v]) (rs := [.at .bool, .at .bool]) Try.func37 (by kernel_rfl) (by kernel_rfl) h

def V_s_IsMaximalMatching (Q : Bool → Bool → World → Prop) (n_0 : Sl) (n_1 : Sl) (n_2 : Sl) (m : Sl) (w : World) : Prop :=
  NEW T.t_i_Network #[n_0.v, n_1.v, n_2.v] w fun (p_n : Addr) w1 =>
  LD [.sl, .sl, .sl] p_n w1 fun (x6_0 : Sl) (x6_1 : Sl) (x6_2 : Sl) =>
  Calls Try.prog F.s_mtAsked #[.agg #[x6_0.v, x6_1.v, x6_2.v], m.v] w1 (Ret [.at .bool] fun (x8 : Bool) w2 =>
  cond (!x8) (
  Q false false w2) (
  LD [.sl, .sl, .sl] p_n w2 fun (x10_0 : Sl) (x10_1 : Sl) (x10_2 : Sl) =>
  Calls Try.prog F.s_mtMaximal #[.agg #[x10_0.v, x10_1.v, x10_2.v], m.v] w2 (Ret [.at .bool] fun (x12 : Bool) w3 =>
  Q x12 true w3)))

theorem C_s_IsMaximalMatching {Q : Bool → Bool → World → Prop} {n_0 : Sl} {n_1 : Sl} {n_2 : Sl} {m : Sl} {w : World} (h : V_s_IsMaximalMatching Q n_0 n_1 n_2 m w) : Calls Try.prog F.s_IsMaximalMatching #[.agg #[n_0.v, n_1.v, n_2.v], m.v] w (Ret [.at .bool, .at .bool] Q) :=
  mkC (hint := hint) (ann := annOf []) (args := [.agg #[n_0.v, n_1.v, n_2.v], m.v]) (rs := [.at .bool, .at .bool]) Try.func38 (by kernel_rfl) (by kernel_rfl) h

def V_i_IsMaximalMatching (Q : Bool → Bool → World → Prop) (n_0 : Sl) (n_1 : Sl) (n_2 : Sl) (m : Sl) (w : World) : Prop :=
  NEW T.t_i_Network #[n_0.v, n_1.v, n_2.v] w fun (p_n : Addr) w1 =>
  NEW T.t_sl_int #[m.v] w1 fun (p_m : Addr) w2 =>
  LD [.sl, .sl, .sl] p_n w2 fun (x6_0 : Sl) (x6_1 : Sl) (x6_2 : Sl) =>
  LD [.sl] p_m w2 fun (x7 : Sl) =>
  Calls Try.prog F.i_matchingOk #[.agg #[x6_0.v, x6_1.v, x6_2.v], x7.v] w2 (Ret [.at .bool] fun (x8 : Bool) w3 =>
  cond (!x8) (
  Q false false w3) (
  LD [.sl, .sl, .sl] p_n w3 fun (x10_0 : Sl) (x10_1 : Sl) (x10_2 : Sl) =>
  Calls Try.prog F.i_Network_edges #[.agg #[x10_0.v, x10_1.v, x10_2.v]] w3 (Ret [.at .sl] fun (x11 : Sl) w4 =>
  Calls Try.prog F.slices_ContainsFunc_sl_i_edge_i_edge #[x11.v, .func (.func F.i_IsMaximalMatching_1) #[] #[.pointer (some p_m)]] w4 (Ret [.at .bool] fun (x13 : Bool) w5 =>
  Q (!x13) true w5))))

theorem C_i_IsMaximalMatching {Q : Bool → Bool → World → Prop} {n_0 : Sl} {n_1 : Sl} {n_2 : Sl} {m : Sl} {w : World} (h : V_i_IsMaximalMatching Q n_0 n_1 n_2 m w) : Calls Try.prog F.i_IsMaximalMatching #[.agg #[n_0.v, n_1.v, n_2.v], m.v] w (Ret [.at .bool, .at .bool] Q) :=
  mkC (hint := hint) (ann := annOf []) (args := [.agg #[n_0.v, n_1.v, n_2.v], m.v]) (rs := [.at .bool, .at .bool]) Try.func39 (by kernel_rfl) (by kernel_rfl) h

def V_s_IsMaximalIndependent (Q : Bool → Bool → World → Prop) (n_0 : Sl) (n_1 : Sl) (n_2 : Sl) (set1 : Sl) (w : World) : Prop :=
  NEW T.t_i_Network #[n_0.v, n_1.v, n_2.v] w fun (p_n : Addr) w1 =>
  LD [.sl, .sl, .sl] p_n w1 fun (x7_0 : Sl) (x7_1 : Sl) (x7_2 : Sl) =>
  Calls Try.prog F.s_mtSet #[.agg #[x7_0.v, x7_1.v, x7_2.v], set1.v] w1 (Ret [.at .bool] fun (x9 : Bool) w2 =>
  cond (!x9) (
  Q false false w2) (
  LD [.sl] (p_n.add 0) w2 fun (x12 : Sl) =>
  ∃ (I4 : Int → World → Prop) (m4 : Int → World → Nat), I4 0 w2 ∧ ∀ (x14 : Int) w3, I4 x14 w3 → ∀ _ _ _ _ _ _ _ _ _ _ _ _ _ _ _ _ _ _ _ _ _ _ : Value,
  cond (decide ((x14 : Int) < x12.len)) (
  Calls Try.prog F.s_l1Has #[set1.v, .int .i64 x14] w3 (Ret [.at .bool] fun (x19 : Bool) w4 =>
  cond (!x19) (
  LD [.sl, .sl, .sl] p_n w4 fun (x22_0 : Sl) (x22_1 : Sl) (x22_2 : Sl) =>
  Calls Try.prog F.s_mtOwn #[.agg #[x22_0.v, x22_1.v, x22_2.v], .int .i64 x14] w4 (Ret [.at .bool] fun (x24 : Bool) w5 =>
  cond (!x24) (
  LD [.sl, .sl, .sl] p_n w5 fun (x28_0 : Sl) (x28_1 : Sl) (x28_2 : Sl) =>
  Calls Try.prog F.s_mtApart #[.agg #[x28_0.v, x28_1.v, x28_2.v], .int .i64 x14, set1.v] w5 (Ret [.at .bool] fun (x31 : Bool) w6 =>
  cond x31 (
  Q false true w6) (
  I4 (IntKind.i64.wrap (x14 + 1)) w6 ∧ m4 (IntKind.i64.wrap (x14 + 1)) w6 < m4 x14 w3))) (
  I4 (IntKind.i64.wrap (x14 + 1)) w5 ∧ m4 (IntKind.i64.wrap (x14 + 1)) w5 < m4 x14 w3))) (
  I4 (IntKind.i64.wrap (x14 + 1)) w4 ∧ m4 (IntKind.i64.wrap (x14 + 1)) w4 < m4 x14 w3))) (
  LD [.sl, .sl, .sl] p_n w3 fun (x34_0 : Sl) (x34_1 : Sl) (x34_2 : Sl) =>
  Calls Try.prog F.s_mtIndependent #[.agg #[x34_0.v, x34_1.v, x34_2.v], set1.v] w3 (Ret [.at .bool] fun (x36 : Bool) w7 =>
  Q x36 true w7))))

theorem C_s_IsMaximalIndependent {Q : Bool → Bool → World → Prop} {n_0 : Sl} {n_1 : Sl} {n_2 : Sl} {set1 : Sl} {w : World} (h : V_s_IsMaximalIndependent Q n_0 n_1 n_2 set1 w) : Calls Try.prog F.s_IsMaximalIndependent #[.agg #[n_0.v, n_1.v, n_2.v], set1.v] w (Ret [.at .bool, .at .bool] Q) :=
  mkC (hint := hint) (ann := annOf [(4, ⟨[(14, .int .i64)], [4, 5, 6, 15, 16, 17, 18, 19, 20, 21, 22, 23, 24, 25, 26, 27, 28, 29, 30, 31, 32, 33]⟩)]) (args := [.agg #[n_0.v, n_1.v, n_2.v], set1.v]) (rs := [.at .bool, .at .bool]) Try.func40 (by kernel_rfl) (by kernel_rfl) h

def V_i_IsMaximalIndependent (Q : Bool → Bool → World → Prop) (n_0 : Sl) (n_1 : Sl) (n_2 : Sl) (set1 : Sl) (w : World) : Prop :=
  NEW T.t_i_Network #[n_0.v, n_1.v, n_2.v] w fun (p_n : Addr) w1 =>
  LD [.sl, .sl, .sl] p_n w1 fun (x7_0 : Sl) (x7_1 : Sl) (x7_2 : Sl) =>
  Calls Try.prog F.i_isNodeSet #[.agg #[x7_0.v, x7_1.v, x7_2.v], set1.v] w1 (Ret [.at .bool] fun (x9 : Bool) w2 =>
  cond (!x9) (
  Q false false w2) (
  LD [.sl] (p_n.add 0) w2 fun (x12 : Sl) =>
  ∃ (I4 : Int → World → Prop) (m4 : Int → World → Nat), I4 0 w2 ∧ ∀ (x14 : Int) w3, I4 x14 w3 → ∀ _ _ _ _ _ _ _ _ _ _ _ _ _ _ _ _ _ _ _ _ _ _ _ _ : Value,
  cond (decide ((x14 : Int) < x12.len)) (
  Calls Try.prog F.slices_Contains_sl_int_int #[set1.v, .int .i64 x14] w3 (Ret [.at .bool] fun (x19 : Bool) w4 =>
  cond (!x19) (
  LD [.sl, .sl, .sl] p_n w4 fun (x22_0 : Sl) (x22_1 : Sl) (x22_2 : Sl) =>
  Calls Try.prog F.i_areJoined #[.agg #[x22_0.v, x22_1.v, x22_2.v], .int .i64 x14, .int .i64 x14] w4 (Ret [.at .bool] fun (x25 : Bool) w5 =>
  cond (!x25) (
  LD [.sl, .sl, .sl] p_n w5 fun (x29_0 : Sl) (x29_1 : Sl) (x29_2 : Sl) =>
  Calls Try.prog F.i_hasNear #[.agg #[x29_0.v, x29_1.v, x29_2.v], .int .i64 x14, set1.v] w5 (Ret [.at .bool] fun (x32 : Bool) w6 =>
  cond (!x32) (
  Q false true w6) (
  I4 (IntKind.i64.wrap (x14 + 1)) w6 ∧ m4 (IntKind.i64.wrap (x14 + 1)) w6 < m4 x14 w3))) (
  I4 (IntKind.i64.wrap (x14 + 1)) w5 ∧ m4 (IntKind.i64.wrap (x14 + 1)) w5 < m4 x14 w3))) (
  I4 (IntKind.i64.wrap (x14 + 1)) w4 ∧ m4 (IntKind.i64.wrap (x14 + 1)) w4 < m4 x14 w3))) (
  LD [.sl, .sl, .sl] p_n w3 fun (x36_0 : Sl) (x36_1 : Sl) (x36_2 : Sl) =>
  Calls Try.prog F.i_isIndependent #[.agg #[x36_0.v, x36_1.v, x36_2.v], set1.v] w3 (Ret [.at .bool] fun (x38 : Bool) w7 =>
  Q x38 true w7))))

theorem C_i_IsMaximalIndependent {Q : Bool → Bool → World → Prop} {n_0 : Sl} {n_1 : Sl} {n_2 : Sl} {set1 : Sl} {w : World} (h : V_i_IsMaximalIndependent Q n_0 n_1 n_2 set1 w) : Calls Try.prog F.i_IsMaximalIndependent #[.agg #[n_0.v, n_1.v, n_2.v], set1.v] w (Ret [.at .bool, .at .bool] Q) :=
  mkC (hint := hint) (ann := annOf [(4, ⟨[(14, .int .i64)], [4, 5, 6, 15, 16, 17, 18, 19, 20, 21, 22, 23, 24, 25, 26, 27, 28, 29, 30, 31, 32, 33, 34, 35]⟩)]) (args := [.agg #[n_0.v, n_1.v, n_2.v], set1.v]) (rs := [.at .bool, .at .bool]) Try.func41 (by kernel_rfl) (by kernel_rfl) h

def V_s_IsDominating (Q : Bool → Bool → World → Prop) (n_0 : Sl) (n_1 : Sl) (n_2 : Sl) (set1 : Sl) (w : World) : Prop :=
  NEW T.t_i_Network #[n_0.v, n_1.v, n_2.v] w fun (p_n : Addr) w1 =>
  LD [.sl, .sl, .sl] p_n w1 fun (x6_0 : Sl) (x6_1 : Sl) (x6_2 : Sl) =>
  Calls Try.prog F.s_ruSet #[.agg #[x6_0.v, x6_1.v, x6_2.v], set1.v] w1 (Ret [.at .bool] fun (x8 : Bool) w2 =>
  cond (!x8) (
  Q false false w2) (
  LD [.sl, .sl, .sl] p_n w2 fun (x10_0 : Sl) (x10_1 : Sl) (x10_2 : Sl) =>
  Calls Try.prog F.s_ruCovers #[.agg #[x10_0.v, x10_1.v, x10_2.v], set1.v, .int .i64 1] w2 (Ret [.at .bool] fun (x12 : Bool) w3 =>
  Q x12 true w3)))

theorem C_s_IsDominating {Q : Bool → Bool → World → Prop} {n_0 : Sl} {n_1 : Sl} {n_2 : Sl} {set1 : Sl} {w : World} (h : V_s_IsDominating Q n_0 n_1 n_2 set1 w) : Calls Try.prog F.s_IsDominating #[.agg #[n_0.v, n_1.v, n_2.v], set1.v] w (Ret [.at .bool, .at .bool] Q) :=
  mkC (hint := hint) (ann := annOf []) (args := [.agg #[n_0.v, n_1.v, n_2.v], set1.v]) (rs := [.at .bool, .at .bool]) Try.func42 (by kernel_rfl) (by kernel_rfl) h

def V_i_IsDominating (Q : Bool → Bool → World → Prop) (n_0 : Sl) (n_1 : Sl) (n_2 : Sl) (set1 : Sl) (w : World) : Prop :=
  NEW T.t_i_Network #[n_0.v, n_1.v, n_2.v] w fun (p_n : Addr) w1 =>
  LD [.sl, .sl, .sl] p_n w1 fun (x6_0 : Sl) (x6_1 : Sl) (x6_2 : Sl) =>
  Calls Try.prog F.i_isNodeSet #[.agg #[x6_0.v, x6_1.v, x6_2.v], set1.v] w1 (Ret [.at .bool] fun (x8 : Bool) w2 =>
  cond (!x8) (
  Q false false w2) (
  LD [.sl, .sl, .sl] p_n w2 fun (x10_0 : Sl) (x10_1 : Sl) (x10_2 : Sl) =>
  Calls Try.prog F.i_isDominating #[.agg #[x10_0.v, x10_1.v, x10_2.v], set1.v] w2 (Ret [.at .bool] fun (x12 : Bool) w3 =>
  Q x12 true w3)))

theorem C_i_IsDominating {Q : Bool → Bool → World → Prop} {n_0 : Sl} {n_1 : Sl} {n_2 : Sl} {set1 : Sl} {w : World} (h : V_i_IsDominating Q n_0 n_1 n_2 set1 w) : Calls Try.prog F.i_IsDominating #[.agg #[n_0.v, n_1.v, n_2.v], set1.v] w (Ret [.at .bool, .at .bool] Q) :=
  mkC (hint := hint) (ann := annOf []) (args := [.agg #[n_0.v, n_1.v, n_2.v], set1.v]) (rs := [.at .bool, .at .bool]) Try.func43 (by kernel_rfl) (by kernel_rfl) h

def V_s_clPalette (Q : Bool → World → Prop) (k : Int) (a : Int) (w : World) : Prop :=
  Calls Try.prog F.s_l1In #[.int .i64 k, .int .i64 1, .int .i64 1000000000000] w (Ret [.at .bool] fun (x6 : Bool) w1 =>
  cond x6 (
  Calls Try.prog F.s_l1In #[.int .i64 a, .int .i64 0, .int .i64 6] w1 (Ret [.at .bool] fun (x9 : Bool) w2 =>
  Q x9 w2)) (
  Q false w1))

theorem C_s_clPalette {Q : Bool → World → Prop} {k : Int} {a : Int} {w : World} (h : V_s_clPalette Q k a w) : Calls Try.prog F.s_clPalette #[.int .i64 k, .int .i64 a] w (Ret [.at .bool] Q) :=
  mkC (hint := hint) (ann := annOf []) (args := [.int .i64 k, .int .i64 a]) (rs := [.at .bool]) Try.func44 (by kernel_rfl) (by kernel_rfl) h

def V_s_clParameters (Q : Int → Int → World → Prop) (k : Int) (a : Int) (w : World) : Prop :=
  ∃ (I3 : Int → World → Prop) (m3 : Int → World → Nat), I3 2 w ∧ ∀ (q : Int) w1, I3 q w1 → ∀ _ _ _ _ _ _ _ _ _ _ _ _ _ _ _ _ _ _ _ _ _ _ _ : Value,
  ∃ (I4 : Int → World → Prop) (m4 : Int → World → Nat), I4 1 w1 ∧ ∀ (d : Int) w2, I4 d w2 → ∀ _ _ _ _ _ _ _ _ _ _ _ _ _ _ _ _ _ _ _ : Value,
  cond (decide (((IntKind.i64.wrap (a * d)) : Int) < q)) (
  cond (decide ((d : Int) ≤ 60)) (
  Calls Try.prog F.s_clPower #[.int .i64 q, .int .i64 d, .int .i64 k] w2 (Ret [.at .bool] fun (x25_2 : Bool) w4 =>
  cond x25_2 (
  Q q d w4) (
  I4 (IntKind.i64.wrap (d + 1)) w4 ∧ m4 (IntKind.i64.wrap (d + 1)) w4 < m4 d w2))) (
  Calls Try.prog F.s_nuNext #[.int .i64 (IntKind.i64.wrap (q + 1))] w2 (Ret [.at (.int .i64)] fun (x10_3 : Int) w7 =>
  I3 x10_3 w7 ∧ m3 x10_3 w7 < m3 q w1))) (
  Calls Try.prog F.s_nuNext #[.int .i64 (IntKind.i64.wrap (q + 1))] w2 (Ret [.at (.int .i64)] fun (x10_4 : Int) w8 =>
  I3 x10_4 w8 ∧ m3 x10_4 w8 < m3 q w1))

theorem C_s_clParameters {Q : Int → Int → World → Prop} {k : Int} {a : Int} {w : World} (h : V_s_clParameters Q k a w) : Calls Try.prog F.s_clParameters #[.int .i64 k, .int .i64 a] w (Ret [.at (.int .i64), .at (.int .i64)] Q) :=
  mkC (hint := hint) (ann := annOf [(3, ⟨[(6, .int .i64)], [4, 5, 7, 8, 9, 10, 11, 12, 13, 14, 15, 16, 17, 18, 19, 20, 21, 22, 23, 24, 25, 26, 27]⟩), (4, ⟨[(7, .int .i64)], [4, 5, 11, 12, 13, 14, 15, 16, 17, 18, 19, 20, 21, 22, 23, 24, 25, 26, 27]⟩)]) (args := [.int .i64 k, .int .i64 a]) (rs := [.at (.int .i64), .at (.int .i64)]) Try.func45 (by kernel_rfl) (by kernel_rfl) h

def V_i_within (Q : Bool → World → Prop) (n : Int) (low : Int) (high : Int) (w : World) : Prop :=
  cond (decide ((low : Int) ≤ n)) (
  Q (decide ((n : Int) ≤ high)) w) (
  Q false w)

theorem C_i_within {Q : Bool → World → Prop} {n : Int} {low : Int} {high : Int} {w : World} (h : V_i_within Q n low high w) : Calls Try.prog F.i_within #[.int .i64 n, .int .i64 low, .int .i64 high] w (Ret [.at .bool] Q) :=
  mkC (hint := hint) (ann := annOf []) (args := [.int .i64 n, .int .i64 low, .int .i64 high]) (rs := [.at .bool]) Try.func46 (by kernel_rfl) (by kernel_rfl) h

def V_i_polynomialParameters_k1 (I3 : Int → World → Prop) (m3 : Int → World → Nat) (q : Int) (w1 : World) (w6 : World) : Prop :=
  I3 (IntKind.i64.wrap (q + 1)) w6 ∧ m3 (IntKind.i64.wrap (q + 1)) w6 < m3 q w1

def V_i_polynomialParameters (Q : Int → Int → World → Prop) (k : Int) (a : Int) (w : World) : Prop :=
  ∃ (I3 : Int → World → Prop) (m3 : Int → World → Nat), I3 2 w ∧ ∀ (q : Int) w1, I3 q w1 → ∀ _ _ _ _ _ _ _ _ _ _ _ _ _ _ _ _ _ _ _ _ _ _ _ _ _ _ _ _ _ _ _ _ _ _ _ _ _ _ _ _ : Value,
  Calls Try.prog F.i_isPrime #[.int .i64 q] w1 (Ret [.at .bool] fun (x12 : Bool) w2 =>
  cond (!x12) (
  V_i_polynomialParameters_k1 I3 m3 q w1 w2) (
  ∃ (I6 : Int → Int → World → Prop) (m6 : Int → Int → World → Nat), I6 q 1 w2 ∧ ∀ (power : Int) (d : Int) w3, I6 power d w3 → ∀ _ _ _ _ _ _ _ _ _ _ _ _ _ _ _ _ _ _ _ _ _ _ _ : Value,
  cond (decide (((IntKind.i64.wrap (a * d)) : Int) < q)) (
  cond (decide ((power : Int) < k)) (
  RUN Try.prog (.at (.int .i64)) (bsem .min #[T.t_int, T.t_int] T.t_int #[.int .i64 (IntKind.i64.wrap (power * q)), .int .i64 1000000000000]) w3 fun (x30_2 : Int) w5 =>
  cond (decide ((x30_2 : Int) ≥ k)) (
  Q q d w5) (
  I6 x30_2 (IntKind.i64.wrap (d + 1)) w5 ∧ m6 x30_2 (IntKind.i64.wrap (d + 1)) w5 < m6 power d w3)) (
  cond (decide ((power : Int) ≥ k)) (
  cond (decide ((a : Int) < q)) (
  Q q 1 w3) (
  V_i_polynomialParameters_k1 I3 m3 q w1 w3)) (
  V_i_polynomialParameters_k1 I3 m3 q w1 w3))) (
  cond (decide ((power : Int) ≥ k)) (
  cond (decide ((a : Int) < q)) (
  Q q 1 w3) (
  V_i_polynomialParameters_k1 I3 m3 q w1 w3)) (
  V_i_polynomialParameters_k1 I3 m3 q w1 w3))))

theorem C_i_polynomialParameters {Q : Int → Int → World → Prop} {k : Int} {a : Int} {w : World} (h : V_i_polynomialParameters Q k a w) : Calls Try.prog F.i_polynomialParameters #[.int .i64 k, .int .i64 a] w (Ret [.at (.int .i64), .at (.int .i64)] Q) :=
  mkC (hint := hint) (ann := annOf [(3, ⟨[(6, .int .i64)], [4, 5, 7, 8, 9, 10, 11, 12, 13, 14, 15, 16, 17, 18, 19, 20, 21, 22, 23, 24, 25, 26, 27, 28, 29, 30, 31, 32, 33, 34, 35, 36, 37, 38, 39, 40, 41, 42, 43, 44]⟩), (6, ⟨[(7, .int .i64), (8, .int .i64)], [4, 5, 15, 16, 17, 18, 19, 20, 21, 22, 23, 24, 25, 26, 27, 28, 29, 30, 31, 32, 33, 34, 35]⟩)]) (args := [.int .i64 k, .int .i64 a]) (rs := [.at (.int .i64), .at (.int .i64)]) Try.func47 (by kernel_rfl) (by kernel_rfl) h

def V_s_l1Has (Q : Bool → World → Prop) (l : Sl) (n : Int) (w : World) : Prop :=
  ∃ (I2 : Int → World → Prop) (m2 : Int → World → Nat), I2 0 w ∧ ∀ (x9 : Int) w1, I2 x9 w1 → ∀ _ _ _ _ _ _ _ _ _ : Value,
  cond (decide ((x9 : Int) < l.len)) (
  IX l x9 1 fun (px11 : Addr) =>
  LD [.int .i64] px11 w1 fun (x12 : Int) =>
  cond ((x12 : Int) == n) (
  Q true w1) (
  I2 (IntKind.i64.wrap (x9 + 1)) w1 ∧ m2 (IntKind.i64.wrap (x9 + 1)) w1 < m2 x9 w1)) (
  Q false w1)

theorem C_s_l1Has {Q : Bool → World → Prop} {l : Sl} {n : Int} {w : World} (h : V_s_l1Has Q l n w) : Calls Try.prog F.s_l1Has #[l.v, .int .i64 n] w (Ret [.at .bool] Q) :=
  mkC (hint := hint) (ann := annOf [(2, ⟨[(9, .int .i64)], [4, 6, 10, 11, 12, 13, 14, 15, 16]⟩)]) (args := [l.v, .int .i64 n]) (rs := [.at .bool]) Try.func48 (by kernel_rfl) (by kernel_rfl) h

def V_slices_Compact_sl_int_int (Q : Sl → World → Prop) (s : Sl) (w : World) : Prop :=
  cond (decide ((s.len : Int) < 2)) (
  Q s w) (
  ∃ (I4 : Int → World → Prop) (m4 : Int → World → Nat), I4 1 w ∧ ∀ (k : Int) w1, I4 k w1 → ∀ _ _ _ _ _ _ _ _ _ _ _ _ _ _ _ _ _ _ _ _ _ _ _ _ _ _ _ _ _ _ _ _ _ _ _ _ _ _ _ _ _ _ _ _ _ _ _ _ _ _ _ _ _ : Value,
  cond (decide ((k : Int) < s.len)) (
  IX s k 1 fun (px18 : Addr) =>
  LD [.int .i64] px18 w1 fun (x19 : Int) =>
  IX s (IntKind.i64.wrap (k - 1)) 1 fun (px23 : Addr) =>
  LD [.int .i64] px23 w1 fun (x24 : Int) =>
  ∀ w2, Ext w1 w2 →
  cond ((x19 : Int) == x24) (
  SLC s (some k) none 1 fun (x28 : Sl) =>
  ∃ (I9 : Int → Int → World → Prop) (m9 : Int → Int → World → Nat), I9 k 1 w2 ∧ ∀ (k_2 : Int) (k2 : Int) w3, I9 k_2 k2 w3 → ∀ _ _ _ _ _ _ _ _ _ _ _ _ _ _ _ _ _ _ _ _ _ _ _ _ _ : Value,
  cond (decide ((k2 : Int) < x28.len)) (
  IX x28 k2 1 fun (px37 : Addr) =>
  LD [.int .i64] px37 w3 fun (x38 : Int) =>
  IX x28 (IntKind.i64.wrap (k2 - 1)) 1 fun (px42 : Addr) =>
  LD [.int .i64] px42 w3 fun (x43 : Int) =>
  ∀ w4, Ext w3 w4 →
  cond ((x38 : Int) != x43) (
  IX x28 k2 1 fun (px49 : Addr) =>
  LD [.int .i64] px49 w4 fun (x50 : Int) =>
  IX s k_2 1 fun (px51 : Addr) =>
  ST px51 0 [.int .i64 x50] w4 fun w5 =>
  I9 (IntKind.i64.wrap (k_2 + 1)) (IntKind.i64.wrap (k2 + 1)) w5 ∧ m9 (IntKind.i64.wrap (k_2 + 1)) (IntKind.i64.wrap (k2 + 1)) w5 < m9 k_2 k2 w3) (
  I9 k_2 (IntKind.i64.wrap (k2 + 1)) w4 ∧ m9 k_2 (IntKind.i64.wrap (k2 + 1)) w4 < m9 k_2 k2 w3)) (
  SLC s (some k_2) none 1 fun (x56 : Sl) =>
  RUN Try.prog (.at .val) (bsem .clear #[T.t_sl_int] T.t_unit #[x56.v]) w3 fun (x : Value) w6 =>
  SLC s none (some k_2) 1 fun (x59 : Sl) =>
  Q x59 w6)) (
  I4 (IntKind.i64.wrap (k + 1)) w2 ∧ m4 (IntKind.i64.wrap (k + 1)) w2 < m4 k w1)) (
  Q s w1))

theorem C_slices_Compact_sl_int_int {Q : Sl → World → Prop} {s : Sl} {w : World} (h : V_slices_Compact_sl_int_int Q s w) : Calls Try.prog F.slices_Compact_sl_int_int #[s.v] w (Ret [.at .sl] Q) :=
  mkC (hint := hint) (ann := annOf [(4, ⟨[(3, .int .i64)], [2, 4, 5, 10, 11, 12, 13, 14, 15, 16, 17, 18, 19, 20, 21, 22, 23, 24, 25, 26, 27, 28, 29, 30, 31, 32, 33, 34, 35, 36, 37, 38, 39, 40, 41, 42, 43, 44, 45, 46, 47, 48, 49, 50, 51, 52, 53, 54, 55, 56, 57, 58, 59]⟩), (9, ⟨[(3, .int .i64), (5, .int .i64)], [29, 30, 31, 32, 33, 34, 35, 36, 37, 38, 39, 40, 41, 42, 43, 44, 45, 46, 47, 48, 49, 50, 51, 52, 53]⟩)]) (args := [s.v]) (rs := [.at .sl]) Try.func49 (by kernel_rfl) (by kernel_rfl) h

def V_slices_Sorted_int (Q : Sl → World → Prop) (seq : Value) (w : World) : Prop :=
  Calls Try.prog F.slices_Collect_int #[seq] w (Ret [.at .sl] fun (x5 : Sl) w1 =>
  Calls Try.prog F.slices_Sort_sl_int_int #[x5.v] w1 (Ret [] fun  w2 =>
  Q x5 w2))

theorem C_slices_Sorted_int {Q : Sl → World → Prop} {seq : Value} {w : World} (h : V_slices_Sorted_int Q seq w) : Calls Try.prog F.slices_Sorted_int #[seq] w (Ret [.at .sl] Q) :=
  mkC (hint := hint) (ann := annOf []) (args := [seq]) (rs := [.at .sl]) Try.func50 (by kernel_rfl) (by kernel_rfl) h

def V_slices_Values_sl_int_int (Q : Value → World → Prop) (s : Sl) (w : World) : Prop :=
  NEW T.t_sl_int #[s.v] w fun (p_s : Addr) w1 =>
  Q (.func (.func F.slices_Values_sl_int_int_1) #[] #[.pointer (some p_s)]) w1

theorem C_slices_Values_sl_int_int {Q : Value → World → Prop} {s : Sl} {w : World} (h : V_slices_Values_sl_int_int Q s w) : Calls Try.prog F.slices_Values_sl_int_int #[s.v] w (Ret [.at .val] Q) :=
  mkC (hint := hint) (ann := annOf []) (args := [s.v]) (rs := [.at .val]) Try.func51 (by kernel_rfl) (by kernel_rfl) h

def V_l_szEndSS (Q : Int → World → Prop) (a : Sl) (left : Int) (w : World) : Prop :=
  cond (decide (((IntKind.i64.wrap (left - a.len)) : Int) < 0)) (
  Q (-1) w) (
  ∃ (I5 : Int → Int → World → Prop) (m5 : Int → Int → World → Nat), I5 (IntKind.i64.wrap (left - a.len)) 0 w ∧ ∀ (left_2 : Int) (i : Int) w1, I5 left_2 i w1 → ∀ _ _ _ _ _ _ _ _ _ _ _ _ _ _ _ : Value,
  cond (decide ((i : Int) < a.len)) (
  IX a i 1 fun (px20 : Addr) =>
  LD [.sl] px20 w1 fun (x21 : Sl) =>
  Calls Try.prog F.l_szEndS #[x21.v, .int .i64 left_2] w1 (Ret [.at (.int .i64)] fun (x23 : Int) w2 =>
  cond (decide ((x23 : Int) < 0)) (
  Q (-1) w2) (
  I5 x23 (IntKind.i64.wrap (i + 1)) w2 ∧ m5 x23 (IntKind.i64.wrap (i + 1)) w2 < m5 left_2 i w1))) (
  Q left_2 w1))

theorem C_l_szEndSS {Q : Int → World → Prop} {a : Sl} {left : Int} {w : World} (h : V_l_szEndSS Q a left w) : Calls Try.prog F.l_szEndSS #[a.v, .int .i64 left] w (Ret [.at (.int .i64)] Q) :=
  mkC (hint := hint) (ann := annOf [(5, ⟨[(1, .int .i64), (5, .int .i64)], [4, 12, 13, 14, 15, 16, 17, 18, 19, 20, 21, 22, 23, 24, 25]⟩)]) (args := [a.v, .int .i64 left]) (rs := [.at (.int .i64)]) Try.func52 (by kernel_rfl) (by kernel_rfl) h

def V_l_szIntS (Q : Int → World → Prop) (a : Sl) (left : Int) (w : World) : Prop :=
  cond (decide (((IntKind.i64.wrap (left - a.len)) : Int) < 0)) (
  Q (-1) w) (
  Q (IntKind.i64.wrap (left - a.len)) w)

theorem C_l_szIntS {Q : Int → World → Prop} {a : Sl} {left : Int} {w : World} (h : V_l_szIntS Q a left w) : Calls Try.prog F.l_szIntS #[a.v, .int .i64 left] w (Ret [.at (.int .i64)] Q) :=
  mkC (hint := hint) (ann := annOf []) (args := [a.v, .int .i64 left]) (rs := [.at (.int .i64)]) Try.func53 (by kernel_rfl) (by kernel_rfl) h

def V_s_neGood_k1 (Q : Bool → World → Prop) (px1 : Addr) (w5 : World) : Prop :=
  LD [.sl] (px1.add 0) w5 fun (x37 : Sl) =>
  ∃ (I4 : Int → World → Prop) (m4 : Int → World → Nat), I4 0 w5 ∧ ∀ (x39 : Int) w6, I4 x39 w6 → ∀ _ _ _ _ _ _ _ _ _ _ _ _ _ _ _ _ _ _ _ _ _ _ _ _ _ _ _ _ _ _ _ _ _ _ _ _ _ _ _ _ _ _ _ _ _ _ _ _ _ _ _ _ _ _ _ _ _ _ _ : Value,
  cond (decide ((x39 : Int) < x37.len)) (
  IX x37 x39 1 fun (px42 : Addr) =>
  LD [.sl] px42 w6 fun (x43 : Sl) =>
  cond (decide ((x43.len : Int) > 6)) (
  Q false w6) (
  ∃ (I9 : Int → World → Prop) (m9 : Int → World → Nat), I9 0 w6 ∧ ∀ (x49 : Int) w7, I9 x49 w7 → ∀ _ _ _ _ _ _ _ _ _ _ _ _ _ _ _ _ _ _ _ _ _ _ _ _ _ _ _ _ _ _ _ _ _ _ _ _ _ _ _ _ _ _ _ _ _ _ : Value,
  cond (decide ((x49 : Int) < x43.len)) (
  IX x43 x49 2 fun (px52 : Addr) =>
  LD [.int .i64, .int .i64] px52 w7 fun (x53_0 : Int) (x53_1 : Int) =>
  NEW T.t_i_End #[.int .i64 0, .int .i64 0] w7 fun (px6 : Addr) w8 =>
  ST px6 0 [.int .i64 x53_0, .int .i64 x53_1] w8 fun w9 =>
  LD [.int .i64] (px6.add 0) w9 fun (x55 : Int) =>
  LD [.sl] (px1.add 0) w9 fun (x57 : Sl) =>
  QCALL Try.prog F.s_l1In #[.int .i64 x55, .int .i64 0, .int .i64 (IntKind.i64.wrap (x57.len - 1))] w9 [.at .bool] fun (x60 : Bool) =>
  cond (!x60) (
  ∀ w10, Ext w9 w10 →
  Q false w10) (
  LD [.int .i64] (px6.add 1) w9 fun (x64 : Int) =>
  LD [.sl] (px1.add 0) w9 fun (x66 : Sl) =>
  LD [.int .i64] (px6.add 0) w9 fun (x68 : Int) =>
  IX x66 x68 1 fun (px69 : Addr) =>
  LD [.sl] px69 w9 fun (x70 : Sl) =>
  QCALL Try.prog F.s_l1In #[.int .i64 x64, .int .i64 0, .int .i64 (IntKind.i64.wrap (x70.len - 1))] w9 [.at .bool] fun (x73 : Bool) =>
  cond (!x73) (
  ∀ w11, Ext w9 w11 →
  Q false w11) (
  LD [.sl] (px1.add 0) w9 fun (x78 : Sl) =>
  LD [.int .i64] (px6.add 0) w9 fun (x80 : Int) =>
  IX x78 x80 1 fun (px81 : Addr) =>
  LD [.sl] px81 w9 fun (x82 : Sl) =>
  LD [.int .i64] (px6.add 1) w9 fun (x84 : Int) =>
  IX x82 x84 2 fun (px85 : Addr) =>
  LD [.int .i64, .int .i64] px85 w9 fun (x86_0 : Int) (x86_1 : Int) =>
  AEQ Try.prog (do eqGuard .neq T.t_i_End (.tmp 86) (.tmp 89) (.agg #[.int .i64 x86_0, .int .i64 x86_1]) (.agg #[.int .i64 x39, .int .i64 x49]); binOp .neq T.t_i_End (.agg #[.int .i64 x86_0, .int .i64 x86_1]) (.agg #[.int .i64 x39, .int .i64 x49])) fun (x90 : Bool) =>
  ∀ w12, Ext w9 w12 →
  cond x90 (
  Q false w12) (
  I9 (IntKind.i64.wrap (x49 + 1)) w12 ∧ m9 (IntKind.i64.wrap (x49 + 1)) w12 < m9 x49 w7)))) (
  I4 (IntKind.i64.wrap (x39 + 1)) w7 ∧ m4 (IntKind.i64.wrap (x39 + 1)) w7 < m4 x39 w6))) (
  Q true w6)

def V_s_neGood (Q : Bool → World → Prop) (x0_0 : Sl) (x0_1 : Sl) (x0_2 : Sl) (w : World) : Prop :=
  NEW T.t_i_Network #[x0_0.v, x0_1.v, x0_2.v] w fun (px1 : Addr) w1 =>
  LD [.sl] (px1.add 0) w1 fun (x8 : Sl) =>
  Calls Try.prog F.s_l1In #[.int .i64 x8.len, .int .i64 1, .int .i64 40] w1 (Ret [.at .bool] fun (x10 : Bool) w2 =>
  cond (!x10) (
  Q false w2) (
  LD [.sl] (px1.add 1) w2 fun (x14 : Sl) =>
  LD [.sl] (px1.add 0) w2 fun (x16 : Sl) =>
  Calls Try.prog F.s_neIds #[x14.v, .int .i64 x16.len] w2 (Ret [.at .bool] fun (x18 : Bool) w3 =>
  cond (!x18) (
  Q false w3) (
  LD [.sl] (px1.add 2) w3 fun (x23 : Sl) =>
  LD [.sl] (px1.add 0) w3 fun (x26 : Sl) =>
  cond ((x23.len : Int) != x26.len) (
  Q false w3) (
  LD [.sl] (px1.add 2) w3 fun (x32 : Sl) =>
  Calls Try.prog F.s_l1All #[x32.v, .int .i64 0, .int .i64 9] w3 (Ret [.at .bool] fun (x33 : Bool) w4 =>
  cond (!x33) (
  Q false w4) (
  V_s_neGood_k1 Q px1 w4)))))))

theorem C_s_neGood {Q : Bool → World → Prop} {x0_0 : Sl} {x0_1 : Sl} {x0_2 : Sl} {w : World} (h : V_s_neGood Q x0_0 x0_1 x0_2 w) : Calls Try.prog F.s_neGood #[.agg #[x0_0.v, x0_1.v, x0_2.v]] w (Ret [.at .bool] Q) :=
  mkC (hint := hint) (ann := annOf [(4, ⟨[(39, .int .i64)], [2, 3, 4, 5, 6, 40, 41, 42, 43, 44, 45, 46, 47, 48, 49, 50, 51, 52, 53, 54, 55, 56, 57, 58, 59, 60, 61, 62, 63, 64, 65, 66, 67, 68, 69, 70, 71, 72, 73, 74, 75, 76, 77, 78, 79, 80, 81, 82, 83, 84, 85, 86, 87, 88, 89, 90, 91, 92, 93]⟩), (9, ⟨[(49, .int .i64)], [2, 5, 6, 50, 51, 52, 53, 54, 55, 56, 57, 58, 59, 60, 61, 62, 63, 64, 65, 66, 67, 68, 69, 70, 71, 72, 73, 74, 75, 76, 77, 78, 79, 80, 81, 82, 83, 84, 85, 86, 87, 88, 89, 90, 91, 92]⟩)]) (args := [.agg #[x0_0.v, x0_1.v, x0_2.v]]) (rs := [.at .bool]) Try.func54 (by kernel_rfl) (by kernel_rfl) h

def V_s_mtIs (Q : Bool → World → Prop) (n_0 : Sl) (n_1 : Sl) (n_2 : Sl) (m : Sl) (w : World) : Prop :=
  NEW T.t_i_Network #[n_0.v, n_1.v, n_2.v] w fun (p_n : Addr) w1 =>
  LD [.sl] (p_n.add 0) w1 fun (x11 : Sl) =>
  cond ((m.len : Int) != x11.len) (
  Q false w1) (
  ∃ (I4 : Int → World → Prop) (m4 : Int → World → Nat), I4 0 w1 ∧ ∀ (x16 : Int) w2, I4 x16 w2 → ∀ _ _ _ _ _ _ _ _ _ _ _ _ _ _ _ _ _ _ _ _ _ _ _ _ _ _ _ _ _ _ _ _ _ _ _ _ _ _ _ _ _ _ _ : Value,
  cond (decide ((x16 : Int) < m.len)) (
  IX m x16 1 fun (px19 : Addr) =>
  LD [.int .i64] px19 w2 fun (x20 : Int) =>
  cond ((x20 : Int) == (-1)) (
  I4 (IntKind.i64.wrap (x16 + 1)) w2 ∧ m4 (IntKind.i64.wrap (x16 + 1)) w2 < m4 x16 w2) (
  LD [.sl] (p_n.add 0) w2 fun (x25 : Sl) =>
  IX x25 x16 1 fun (px27 : Addr) =>
  LD [.sl] px27 w2 fun (x28 : Sl) =>
  Calls Try.prog F.s_l1In #[.int .i64 x20, .int .i64 0, .int .i64 (IntKind.i64.wrap (x28.len - 1))] w2 (Ret [.at .bool] fun (x31 : Bool) w3 =>
  cond (!x31) (
  Q false w3) (
  LD [.sl] (p_n.add 0) w3 fun (x34 : Sl) =>
  IX x34 x16 1 fun (px36 : Addr) =>
  LD [.sl] px36 w3 fun (x37 : Sl) =>
  IX x37 x20 2 fun (px39 : Addr) =>
  LD [.int .i64, .int .i64] px39 w3 fun (x40_0 : Int) (x40_1 : Int) =>
  NEW T.t_i_End #[.int .i64 0, .int .i64 0] w3 fun (p_e : Addr) w4 =>
  ST p_e 0 [.int .i64 x40_0, .int .i64 x40_1] w4 fun w5 =>
  LD [.int .i64] (p_e.add 0) w5 fun (x42 : Int) =>
  cond ((x42 : Int) == x16) (
  ∀ w6, Ext w5 w6 →
  Q false w6) (
  LD [.int .i64] (p_e.add 0) w5 fun (x48 : Int) =>
  IX m x48 1 fun (px49 : Addr) =>
  LD [.int .i64] px49 w5 fun (x50 : Int) =>
  LD [.int .i64] (p_e.add 1) w5 fun (x52 : Int) =>
  ∀ w7, Ext w5 w7 →
  cond ((x50 : Int) != x52) (
  Q false w7) (
  I4 (IntKind.i64.wrap (x16 + 1)) w7 ∧ m4 (IntKind.i64.wrap (x16 + 1)) w7 < m4 x16 w2)))))) (
  Q true w2))

theorem C_s_mtIs {Q : Bool → World → Prop} {n_0 : Sl} {n_1 : Sl} {n_2 : Sl} {m : Sl} {w : World} (h : V_s_mtIs Q n_0 n_1 n_2 m w) : Calls Try.prog F.s_mtIs #[.agg #[n_0.v, n_1.v, n_2.v], m.v] w (Ret [.at .bool] Q) :=
  mkC (hint := hint) (ann := annOf [(4, ⟨[(16, .int .i64)], [4, 5, 6, 7, 17, 18, 19, 20, 21, 22, 23, 24, 25, 26, 27, 28, 29, 30, 31, 32, 33, 34, 35, 36, 37, 38, 39, 40, 41, 42, 43, 44, 45, 46, 47, 48, 49, 50, 51, 52, 53, 54, 55]⟩)]) (args := [.agg #[n_0.v, n_1.v, n_2.v], m.v]) (rs := [.at .bool]) Try.func55 (by kernel_rfl) (by kernel_rfl) h

def V_l_toEndSS (Q : Sl → World → Prop) (a : Sl) (w : World) : Prop :=
  RUN Try.prog (.at .sl) (Instr.makeSlice T.t_sl_sl_i_End (.int .i64 a.len) (.int .i64 a.len)) w fun (x7 : Sl) w1 =>
  ∃ (I3 : Int → World → Prop) (m3 : Int → World → Nat), I3 0 w1 ∧ ∀ (i : Int) w2, I3 i w2 → ∀ _ _ _ _ _ _ _ _ _ _ _ _ _ _ : Value,
  cond (decide ((i : Int) < a.len)) (
  IX a i 1 fun (px18 : Addr) =>
  LD [.sl] px18 w2 fun (x19 : Sl) =>
  Calls Try.prog F.l_toEndS #[x19.v] w2 (Ret [.at .sl] fun (x20 : Sl) w3 =>
  IX x7 i 1 fun (px21 : Addr) =>
  ST px21 0 [x20.v] w3 fun w4 =>
  I3 (IntKind.i64.wrap (i + 1)) w4 ∧ m3 (IntKind.i64.wrap (i + 1)) w4 < m3 i w2)) (
  Q x7 w2)

theorem C_l_toEndSS {Q : Sl → World → Prop} {a : Sl} {w : World} (h : V_l_toEndSS Q a w) : Calls Try.prog F.l_toEndSS #[a.v] w (Ret [.at .sl] Q) :=
  mkC (hint := hint) (ann := annOf [(3, ⟨[(4, .int .i64)], [8, 9, 10, 11, 12, 13, 14, 15, 16, 17, 18, 19, 20, 21]⟩)]) (args := [a.v]) (rs := [.at .sl]) Try.func56 (by kernel_rfl) (by kernel_rfl) h

def V_i_IsNetwork_k1 (Q : Bool → World → Prop) (px1 : Addr) (w5 : World) : Prop :=
  LD [.sl] (px1.add 0) w5 fun (x31 : Sl) =>
  ∃ (I4 : Int → World → Prop) (m4 : Int → World → Nat), I4 0 w5 ∧ ∀ (x33 : Int) w6, I4 x33 w6 → ∀ _ _ _ _ _ _ _ _ _ _ _ _ _ _ _ _ _ _ _ _ _ _ _ _ _ _ _ _ _ _ _ _ _ _ _ _ _ _ _ _ _ _ _ _ : Value,
  cond (decide ((x33 : Int) < x31.len)) (
  IX x31 x33 1 fun (px36 : Addr) =>
  LD [.sl] px36 w6 fun (x37 : Sl) =>
  cond (decide ((x37.len : Int) > 6)) (
  Q false w6) (
  ∃ (I9 : Int → World → Prop) (m9 : Int → World → Nat), I9 0 w6 ∧ ∀ (x43 : Int) w7, I9 x43 w7 → ∀ _ _ _ _ _ _ _ _ _ _ _ _ _ _ _ _ _ _ _ _ _ _ _ _ _ _ _ _ _ _ _ : Value,
  cond (decide ((x43 : Int) < x37.len)) (
  IX x37 x43 2 fun (px46 : Addr) =>
  LD [.int .i64, .int .i64] px46 w7 fun (x47_0 : Int) (x47_1 : Int) =>
  NEW T.t_i_End #[.int .i64 0, .int .i64 0] w7 fun (px6 : Addr) w8 =>
  ST px6 0 [.int .i64 x47_0, .int .i64 x47_1] w8 fun w9 =>
  LD [.sl, .sl, .sl] px1 w9 fun (x48_0 : Sl) (x48_1 : Sl) (x48_2 : Sl) =>
  LD [.int .i64] (px6.add 0) w9 fun (x50 : Int) =>
  LD [.int .i64] (px6.add 1) w9 fun (x52 : Int) =>
  QCALL Try.prog F.i_Network_hasPort #[.agg #[x48_0.v, x48_1.v, x48_2.v], .int .i64 x50, .int .i64 x52] w9 [.at .bool] fun (x53 : Bool) =>
  cond (!x53) (
  ∀ w10, Ext w9 w10 →
  Q false w10) (
  LD [.sl] (px1.add 0) w9 fun (x57 : Sl) =>
  LD [.int .i64] (px6.add 0) w9 fun (x59 : Int) =>
  IX x57 x59 1 fun (px60 : Addr) =>
  LD [.sl] px60 w9 fun (x61 : Sl) =>
  LD [.int .i64] (px6.add 1) w9 fun (x63 : Int) =>
  IX x61 x63 2 fun (px64 : Addr) =>
  LD [.int .i64, .int .i64] px64 w9 fun (x65_0 : Int) (x65_1 : Int) =>
  AEQ Try.prog (do eqGuard .neq T.t_i_End (.tmp 65) (.tmp 68) (.agg #[.int .i64 x65_0, .int .i64 x65_1]) (.agg #[.int .i64 x33, .int .i64 x43]); binOp .neq T.t_i_End (.agg #[.int .i64 x65_0, .int .i64 x65_1]) (.agg #[.int .i64 x33, .int .i64 x43])) fun (x69 : Bool) =>
  ∀ w11, Ext w9 w11 →
  cond x69 (
  Q false w11) (
  I9 (IntKind.i64.wrap (x43 + 1)) w11 ∧ m9 (IntKind.i64.wrap (x43 + 1)) w11 < m9 x43 w7))) (
  I4 (IntKind.i64.wrap (x33 + 1)) w7 ∧ m4 (IntKind.i64.wrap (x33 + 1)) w7 < m4 x33 w6))) (
  Q true w6)

def V_i_IsNetwork (Q : Bool → World → Prop) (x0_0 : Sl) (x0_1 : Sl) (x0_2 : Sl) (w : World) : Prop :=
  NEW T.t_i_Network #[x0_0.v, x0_1.v, x0_2.v] w fun (px1 : Addr) w1 =>
  LD [.sl] (px1.add 0) w1 fun (x8 : Sl) =>
  Calls Try.prog F.i_within #[.int .i64 x8.len, .int .i64 1, .int .i64 40] w1 (Ret [.at .bool] fun (x10 : Bool) w2 =>
  cond (!x10) (
  Q false w2) (
  LD [.sl] (px1.add 1) w2 fun (x14 : Sl) =>
  LD [.sl] (px1.add 0) w2 fun (x16 : Sl) =>
  Calls Try.prog F.i_idsOk #[x14.v, .int .i64 x16.len] w2 (Ret [.at .bool] fun (x18 : Bool) w3 =>
  cond (!x18) (
  Q false w3) (
  LD [.sl] (px1.add 2) w3 fun (x23 : Sl) =>
  LD [.sl] (px1.add 0) w3 fun (x25 : Sl) =>
  Calls Try.prog F.i_inputsOk #[x23.v, .int .i64 x25.len] w3 (Ret [.at .bool] fun (x27 : Bool) w4 =>
  cond (!x27) (
  Q false w4) (
  V_i_IsNetwork_k1 Q px1 w4))))))

theorem C_i_IsNetwork {Q : Bool → World → Prop} {x0_0 : Sl} {x0_1 : Sl} {x0_2 : Sl} {w : World} (h : V_i_IsNetwork Q x0_0 x0_1 x0_2 w) : Calls Try.prog F.i_IsNetwork #[.agg #[x0_0.v, x0_1.v, x0_2.v]] w (Ret [.at .bool] Q) :=
  mkC (hint := hint) (ann := annOf [(4, ⟨[(33, .int .i64)], [2, 3, 4, 5, 6, 34, 35, 36, 37, 38, 39, 40, 41, 42, 43, 44, 45, 46, 47, 48, 49, 50, 51, 52, 53, 54, 55, 56, 57, 58, 59, 60, 61, 62, 63, 64, 65, 66, 67, 68, 69, 70, 71, 72]⟩), (9, ⟨[(43, .int .i64)], [2, 5, 6, 44, 45, 46, 47, 48, 49, 50, 51, 52, 53, 54, 55, 56, 57, 58, 59, 60, 61, 62, 63, 64, 65, 66, 67, 68, 69, 70, 71]⟩)]) (args := [.agg #[x0_0.v, x0_1.v, x0_2.v]]) (rs := [.at .bool]) Try.func57 (by kernel_rfl) (by kernel_rfl) h

def V_i_isMatching (Q : Bool → World → Prop) (n_0 : Sl) (n_1 : Sl) (n_2 : Sl) (m : Sl) (w : World) : Prop :=
  NEW T.t_i_Network #[n_0.v, n_1.v, n_2.v] w fun (p_n : Addr) w1 =>
  LD [.sl] (p_n.add 0) w1 fun (x11 : Sl) =>
  cond ((m.len : Int) != x11.len) (
  Q false w1) (
  ∃ (I4 : Int → World → Prop) (m4 : Int → World → Nat), I4 0 w1 ∧ ∀ (x16 : Int) w2, I4 x16 w2 → ∀ _ _ _ _ _ _ _ _ _ _ _ _ _ _ _ _ _ _ _ _ _ _ _ _ _ _ _ _ _ _ _ _ _ _ _ _ _ _ : Value,
  cond (decide ((x16 : Int) < m.len)) (
  IX m x16 1 fun (px19 : Addr) =>
  LD [.int .i64] px19 w2 fun (x20 : Int) =>
  cond ((x20 : Int) == (-1)) (
  I4 (IntKind.i64.wrap (x16 + 1)) w2 ∧ m4 (IntKind.i64.wrap (x16 + 1)) w2 < m4 x16 w2) (
  LD [.sl, .sl, .sl] p_n w2 fun (x23_0 : Sl) (x23_1 : Sl) (x23_2 : Sl) =>
  Calls Try.prog F.i_Network_hasPort #[.agg #[x23_0.v, x23_1.v, x23_2.v], .int .i64 x16, .int .i64 x20] w2 (Ret [.at .bool] fun (x26 : Bool) w3 =>
  cond (!x26) (
  Q false w3) (
  LD [.sl] (p_n.add 0) w3 fun (x29 : Sl) =>
  IX x29 x16 1 fun (px31 : Addr) =>
  LD [.sl] px31 w3 fun (x32 : Sl) =>
  IX x32 x20 2 fun (px34 : Addr) =>
  LD [.int .i64, .int .i64] px34 w3 fun (x35_0 : Int) (x35_1 : Int) =>
  NEW T.t_i_End #[.int .i64 0, .int .i64 0] w3 fun (p_e : Addr) w4 =>
  ST p_e 0 [.int .i64 x35_0, .int .i64 x35_1] w4 fun w5 =>
  LD [.int .i64] (p_e.add 0) w5 fun (x37 : Int) =>
  cond ((x37 : Int) == x16) (
  ∀ w6, Ext w5 w6 →
  Q false w6) (
  LD [.int .i64] (p_e.add 0) w5 fun (x43 : Int) =>
  IX m x43 1 fun (px44 : Addr) =>
  LD [.int .i64] px44 w5 fun (x45 : Int) =>
  LD [.int .i64] (p_e.add 1) w5 fun (x47 : Int) =>
  ∀ w7, Ext w5 w7 →
  cond ((x45 : Int) != x47) (
  Q false w7) (
  I4 (IntKind.i64.wrap (x16 + 1)) w7 ∧ m4 (IntKind.i64.wrap (x16 + 1)) w7 < m4 x16 w2)))))) (
  Q true w2))

theorem C_i_isMatching {Q : Bool → World → Prop} {n_0 : Sl} {n_1 : Sl} {n_2 : Sl} {m : Sl} {w : World} (h : V_i_isMatching Q n_0 n_1 n_2 m w) : Calls Try.prog F.i_isMatching #[.agg #[n_0.v, n_1.v, n_2.v], m.v] w (Ret [.at .bool] Q) :=
  mkC (hint := hint) (ann := annOf [(4, ⟨[(16, .int .i64)], [4, 5, 6, 7, 17, 18, 19, 20, 21, 22, 23, 24, 25, 26, 27, 28, 29, 30, 31, 32, 33, 34, 35, 36, 37, 38, 39, 40, 41, 42, 43, 44, 45, 46, 47, 48, 49, 50]⟩)]) (args := [.agg #[n_0.v, n_1.v, n_2.v], m.v]) (rs := [.at .bool]) Try.func58 (by kernel_rfl) (by kernel_rfl) h

def V_l_eqEndSS (Q : Bool → World → Prop) (a : Sl) (b : Sl) (w : World) : Prop :=
  cond ((a.len : Int) != b.len) (
  Q false w) (
  ∃ (I4 : Int → World → Prop) (m4 : Int → World → Nat), I4 0 w ∧ ∀ (i : Int) w1, I4 i w1 → ∀ _ _ _ _ _ _ _ _ _ _ _ _ _ _ _ _ _ : Value,
  cond (decide ((i : Int) < a.len)) (
  IX a i 1 fun (px19 : Addr) =>
  LD [.sl] px19 w1 fun (x20 : Sl) =>
  IX b i 1 fun (px23 : Addr) =>
  LD [.sl] px23 w1 fun (x24 : Sl) =>
  QCALL Try.prog F.l_eqEndS #[x20.v, x24.v] w1 [.at .bool] fun (x25 : Bool) =>
  ∀ w2, Ext w1 w2 →
  cond (!x25) (
  Q false w2) (
  I4 (IntKind.i64.wrap (i + 1)) w2 ∧ m4 (IntKind.i64.wrap (i + 1)) w2 < m4 i w1)) (
  Q true w1))

theorem C_l_eqEndSS {Q : Bool → World → Prop} {a : Sl} {b : Sl} {w : World} (h : V_l_eqEndSS Q a b w) : Calls Try.prog F.l_eqEndSS #[a.v, b.v] w (Ret [.at .bool] Q) :=
  mkC (hint := hint) (ann := annOf [(4, ⟨[(5, .int .i64)], [4, 11, 12, 13, 14, 15, 16, 17, 18, 19, 20, 21, 22, 23, 24, 25, 26]⟩)]) (args := [a.v, b.v]) (rs := [.at .bool]) Try.func59 (by kernel_rfl) (by kernel_rfl) h

def V_s_clProper (Q : Bool → World → Prop) (n_0 : Sl) (n_1 : Sl) (n_2 : Sl) (l : Sl) (w : World) : Prop :=
  NEW T.t_i_Network #[n_0.v, n_1.v, n_2.v] w fun (p_n : Addr) w1 =>
  LD [.sl] (p_n.add 0) w1 fun (x11 : Sl) =>
  cond ((l.len : Int) != x11.len) (
  Q false w1) (
  Calls Try.prog F.s_l1All #[l.v, .int .i64 0, .int .i64 1000000000000] w1 (Ret [.at .bool] fun (x16 : Bool) w2 =>
  cond (!x16) (
  Q false w2) (
  LD [.sl, .sl, .sl] p_n w2 fun (x20_0_2 : Sl) (x20_1_2 : Sl) (x20_2_2 : Sl) =>
  Calls Try.prog F.s_imEdge #[.agg #[x20_0_2.v, x20_1_2.v, x20_2_2.v], l.v] w2 (Ret [.at (.int .i64), .at (.int .i64), .at .bool] fun (x22_0_2 : Int) (x22_1_2 : Int) (x22_2_2 : Bool) w4 =>
  Q (!x22_2_2) w4))))

theorem C_s_clProper {Q : Bool → World → Prop} {n_0 : Sl} {n_1 : Sl} {n_2 : Sl} {l : Sl} {w : World} (h : V_s_clProper Q n_0 n_1 n_2 l w) : Calls Try.prog F.s_clProper #[.agg #[n_0.v, n_1.v, n_2.v], l.v] w (Ret [.at .bool] Q) :=
  mkC (hint := hint) (ann := annOf []) (args := [.agg #[n_0.v, n_1.v, n_2.v], l.v]) (rs := [.at .bool]) Try.func60 (by kernel_rfl) (by kernel_rfl) h

def V_i_isColouring (Q : Bool → World → Prop) (n_0 : Sl) (n_1 : Sl) (n_2 : Sl) (colours : Sl) (w : World) : Prop :=
  NEW T.t_i_Network #[n_0.v, n_1.v, n_2.v] w fun (p_n : Addr) w1 =>
  NEW T.t_sl_int #[colours.v] w1 fun (p_colours : Addr) w2 =>
  LD [.sl] p_colours w2 fun (x5 : Sl) =>
  LD [.sl] (p_n.add 0) w2 fun (x8 : Sl) =>
  cond ((x5.len : Int) == x8.len) (
  LD [.sl] p_colours w2 fun (x12 : Sl) =>
  Calls Try.prog F.i_allWithin #[x12.v, .int .i64 0, .int .i64 1000000000000] w2 (Ret [.at .bool] fun (x13 : Bool) w3 =>
  cond x13 (
  LD [.sl, .sl, .sl] p_n w3 fun (x16_0 : Sl) (x16_1 : Sl) (x16_2 : Sl) =>
  Calls Try.prog F.i_Network_edges #[.agg #[x16_0.v, x16_1.v, x16_2.v]] w3 (Ret [.at .sl] fun (x17 : Sl) w4 =>
  Calls Try.prog F.slices_ContainsFunc_sl_i_edge_i_edge #[x17.v, .func (.func F.i_isColouring_1) #[] #[.pointer (some p_colours)]] w4 (Ret [.at .bool] fun (x19 : Bool) w5 =>
  Q (!x19) w5))) (
  Q false w3))) (
  Q false w2)

theorem C_i_isColouring {Q : Bool → World → Prop} {n_0 : Sl} {n_1 : Sl} {n_2 : Sl} {colours : Sl} {w : World} (h : V_i_isColouring Q n_0 n_1 n_2 colours w) : Calls Try.prog F.i_isColouring #[.agg #[n_0.v, n_1.v, n_2.v], colours.v] w (Ret [.at .bool] Q) :=
  mkC (hint := hint) (ann := annOf []) (args := [.agg #[n_0.v, n_1.v, n_2.v], colours.v]) (rs := [.at .bool]) Try.func61 (by kernel_rfl) (by kernel_rfl) h

def V_s_ruColours (Q : Bool → World → Prop) (n_0 : Sl) (n_1 : Sl) (n_2 : Sl) (l : Sl) (w : World) : Prop :=
  NEW T.t_i_Network #[n_0.v, n_1.v, n_2.v] w fun (p_n : Addr) w1 =>
  LD [.sl, .sl, .sl] p_n w1 fun (x5_0 : Sl) (x5_1 : Sl) (x5_2 : Sl) =>
  Calls Try.prog F.s_neGood #[.agg #[x5_0.v, x5_1.v, x5_2.v]] w1 (Ret [.at .bool] fun (x6 : Bool) w2 =>
  cond x6 (
  LD [.sl] (p_n.add 0) w2 fun (x11 : Sl) =>
  cond ((l.len : Int) == x11.len) (
  Calls Try.prog F.s_l1All #[l.v, .int .i64 0, .int .i64 1000000000000] w2 (Ret [.at .bool] fun (x17 : Bool) w3 =>
  Q x17 w3)) (
  Q false w2)) (
  Q false w2))

theorem C_s_ruColours {Q : Bool → World → Prop} {n_0 : Sl} {n_1 : Sl} {n_2 : Sl} {l : Sl} {w : World} (h : V_s_ruColours Q n_0 n_1 n_2 l w) : Calls Try.prog F.s_ruColours #[.agg #[n_0.v, n_1.v, n_2.v], l.v] w (Ret [.at .bool] Q) :=
  mkC (hint := hint) (ann := annOf []) (args := [.agg #[n_0.v, n_1.v, n_2.v], l.v]) (rs := [.at .bool]) Try.func62 (by kernel_rfl) (by kernel_rfl) h

def V_s_ruSame (Q : Int → World → Prop) (n_0 : Sl) (n_1 : Sl) (n_2 : Sl) (l : Sl) (v : Int) (colour : Int) (w : World) : Prop :=
  NEW T.t_i_Network #[n_0.v, n_1.v, n_2.v] w fun (p_n : Addr) w1 =>
  LD [.sl, .sl, .sl] p_n w1 fun (x12_0 : Sl) (x12_1 : Sl) (x12_2 : Sl) =>
  Calls Try.prog F.s_neNear #[.agg #[x12_0.v, x12_1.v, x12_2.v], .int .i64 v] w1 (Ret [.at .sl] fun (x14 : Sl) w2 =>
  ∃ (I3 : Int → Int → World → Prop) (m3 : Int → Int → World → Nat), I3 0 0 w2 ∧ ∀ (count : Int) (x16 : Int) w3, I3 count x16 w3 → ∀ _ _ _ _ _ _ _ _ _ _ _ _ _ : Value,
  cond (decide ((x16 : Int) < x14.len)) (
  IX x14 x16 1 fun (px18 : Addr) =>
  LD [.int .i64] px18 w3 fun (x19 : Int) =>
  IX l x19 1 fun (px22 : Addr) =>
  LD [.int .i64] px22 w3 fun (x23 : Int) =>
  cond ((x23 : Int) == colour) (
  I3 (IntKind.i64.wrap (count + 1)) (IntKind.i64.wrap (x16 + 1)) w3 ∧ m3 (IntKind.i64.wrap (count + 1)) (IntKind.i64.wrap (x16 + 1)) w3 < m3 count x16 w3) (
  I3 count (IntKind.i64.wrap (x16 + 1)) w3 ∧ m3 count (IntKind.i64.wrap (x16 + 1)) w3 < m3 count x16 w3)) (
  Q count w3))

theorem C_s_ruSame {Q : Int → World → Prop} {n_0 : Sl} {n_1 : Sl} {n_2 : Sl} {l : Sl} {v : Int} {colour : Int} {w : World} (h : V_s_ruSame Q n_0 n_1 n_2 l v colour w) : Calls Try.prog F.s_ruSame #[.agg #[n_0.v, n_1.v, n_2.v], l.v, .int .i64 v, .int .i64 colour] w (Ret [.at (.int .i64)] Q) :=
  mkC (hint := hint) (ann := annOf [(3, ⟨[(9, .int .i64), (16, .int .i64)], [11, 17, 18, 19, 20, 21, 22, 23, 24, 25, 26, 27, 28]⟩)]) (args := [.agg #[n_0.v, n_1.v, n_2.v], l.v, .int .i64 v, .int .i64 colour]) (rs := [.at (.int .i64)]) Try.func63 (by kernel_rfl) (by kernel_rfl) h

def V_i_areColours (Q : Bool → World → Prop) (n_0 : Sl) (n_1 : Sl) (n_2 : Sl) (colours : Sl) (w : World) : Prop :=
  NEW T.t_i_Network #[n_0.v, n_1.v, n_2.v] w fun (p_n : Addr) w1 =>
  LD [.sl, .sl, .sl] p_n w1 fun (x5_0 : Sl) (x5_1 : Sl) (x5_2 : Sl) =>
  Calls Try.prog F.i_IsNetwork #[.agg #[x5_0.v, x5_1.v, x5_2.v]] w1 (Ret [.at .bool] fun (x6 : Bool) w2 =>
  cond x6 (
  LD [.sl] (p_n.add 0) w2 fun (x11 : Sl) =>
  cond ((colours.len : Int) == x11.len) (
  Calls Try.prog F.i_allWithin #[colours.v, .int .i64 0, .int .i64 1000000000000] w2 (Ret [.at .bool] fun (x17 : Bool) w3 =>
  Q x17 w3)) (
  Q false w2)) (
  Q false w2))

theorem C_i_areColours {Q : Bool → World → Prop} {n_0 : Sl} {n_1 : Sl} {n_2 : Sl} {colours : Sl} {w : World} (h : V_i_areColours Q n_0 n_1 n_2 colours w) : Calls Try.prog F.i_areColours #[.agg #[n_0.v, n_1.v, n_2.v], colours.v] w (Ret [.at .bool] Q) :=
  mkC (hint := hint) (ann := annOf []) (args := [.agg #[n_0.v, n_1.v, n_2.v], colours.v]) (rs := [.at .bool]) Try.func64 (by kernel_rfl) (by kernel_rfl) h

def V_i_portsWith (Q : Int → World → Prop) (n_0 : Sl) (n_1 : Sl) (n_2 : Sl) (v : Int) (colours : Sl) (c : Int) (w : World) : Prop :=
  NEW T.t_i_Network #[n_0.v, n_1.v, n_2.v] w fun (p_n : Addr) w1 =>
  LD [.sl, .sl, .sl] p_n w1 fun (x12_0 : Sl) (x12_1 : Sl) (x12_2 : Sl) =>
  Calls Try.prog F.i_near #[.agg #[x12_0.v, x12_1.v, x12_2.v], .int .i64 v, colours.v] w1 (Ret [.at .sl] fun (x15 : Sl) w2 =>
  ∃ (I3 : Int → Int → World → Prop) (m3 : Int → Int → World → Nat), I3 0 0 w2 ∧ ∀ (count : Int) (x17 : Int) w3, I3 count x17 w3 → ∀ _ _ _ _ _ _ _ _ _ _ _ : Value,
  cond (decide ((x17 : Int) < x15.len)) (
  IX x15 x17 1 fun (px19 : Addr) =>
  LD [.int .i64] px19 w3 fun (x20 : Int) =>
  Calls Try.prog F.i_oneIf #[.bool ((x20 : Int) == c)] w3 (Ret [.at (.int .i64)] fun (x25 : Int) w4 =>
  I3 (IntKind.i64.wrap (count + x25)) (IntKind.i64.wrap (x17 + 1)) w4 ∧ m3 (IntKind.i64.wrap (count + x25)) (IntKind.i64.wrap (x17 + 1)) w4 < m3 count x17 w3)) (
  Q count w3))

theorem C_i_portsWith {Q : Int → World → Prop} {n_0 : Sl} {n_1 : Sl} {n_2 : Sl} {v : Int} {colours : Sl} {c : Int} {w : World} (h : V_i_portsWith Q n_0 n_1 n_2 v colours c w) : Calls Try.prog F.i_portsWith #[.agg #[n_0.v, n_1.v, n_2.v], .int .i64 v, colours.v, .int .i64 c] w (Ret [.at (.int .i64)] Q) :=
  mkC (hint := hint) (ann := annOf [(3, ⟨[(9, .int .i64), (17, .int .i64)], [11, 18, 19, 20, 21, 22, 23, 24, 25, 26, 27]⟩)]) (args := [.agg #[n_0.v, n_1.v, n_2.v], .int .i64 v, colours.v, .int .i64 c]) (rs := [.at (.int .i64)]) Try.func65 (by kernel_rfl) (by kernel_rfl) h

def V_s_mtAsked (Q : Bool → World → Prop) (n_0 : Sl) (n_1 : Sl) (n_2 : Sl) (m : Sl) (w : World) : Prop :=
  NEW T.t_i_Network #[n_0.v, n_1.v, n_2.v] w fun (p_n : Addr) w1 =>
  LD [.sl, .sl, .sl] p_n w1 fun (x5_0 : Sl) (x5_1 : Sl) (x5_2 : Sl) =>
  Calls Try.prog F.s_neGood #[.agg #[x5_0.v, x5_1.v, x5_2.v]] w1 (Ret [.at .bool] fun (x6 : Bool) w2 =>
  cond x6 (
  LD [.sl, .sl, .sl] p_n w2 fun (x8_0 : Sl) (x8_1 : Sl) (x8_2 : Sl) =>
  Calls Try.prog F.s_mtIs #[.agg #[x8_0.v, x8_1.v, x8_2.v], m.v] w2 (Ret [.at .bool] fun (x10 : Bool) w3 =>
  Q x10 w3)) (
  Q false w2))

theorem C_s_mtAsked {Q : Bool → World → Prop} {n_0 : Sl} {n_1 : Sl} {n_2 : Sl} {m : Sl} {w : World} (h : V_s_mtAsked Q n_0 n_1 n_2 m w) : Calls Try.prog F.s_mtAsked #[.agg #[n_0.v, n_1.v, n_2.v], m.v] w (Ret [.at .bool] Q) :=
  mkC (hint := hint) (ann := annOf []) (args := [.agg #[n_0.v, n_1.v, n_2.v], m.v]) (rs := [.at .bool]) Try.func66 (by kernel_rfl) (by kernel_rfl) h

def V_s_mtSize (Q : Int → World → Prop) (m : Sl) (w : World) : Prop :=
  ∃ (I3 : Int → Int → World → Prop) (m3 : Int → Int → World → Nat), I3 0 0 w ∧ ∀ (k : Int) (x8 : Int) w1, I3 k x8 w1 → ∀ _ _ _ _ _ _ _ _ _ : Value,
  cond (decide ((x8 : Int) < m.len)) (
  IX m x8 1 fun (px10 : Addr) =>
  LD [.int .i64] px10 w1 fun (x11 : Int) =>
  cond (decide ((x11 : Int) ≥ 0)) (
  I3 (IntKind.i64.wrap (k + 1)) (IntKind.i64.wrap (x8 + 1)) w1 ∧ m3 (IntKind.i64.wrap (k + 1)) (IntKind.i64.wrap (x8 + 1)) w1 < m3 k x8 w1) (
  I3 k (IntKind.i64.wrap (x8 + 1)) w1 ∧ m3 k (IntKind.i64.wrap (x8 + 1)) w1 < m3 k x8 w1)) (
  (2 : Int) ≠ 0 ∧ (
  Q (IntKind.i64.wrap (Int.tdiv k 2)) w1))

theorem C_s_mtSize {Q : Int → World → Prop} {m : Sl} {w : World} (h : V_s_mtSize Q m w) : Calls Try.prog F.s_mtSize #[m.v] w (Ret [.at (.int .i64)] Q) :=
  mkC (hint := hint) (ann := annOf [(3, ⟨[(3, .int .i64), (8, .int .i64)], [5, 9, 10, 11, 12, 13, 14, 15, 16]⟩)]) (args := [m.v]) (rs := [.at (.int .i64)]) Try.func67 (by kernel_rfl) (by kernel_rfl) h

def V_i_matchingOk (Q : Bool → World → Prop) (n_0 : Sl) (n_1 : Sl) (n_2 : Sl) (m : Sl) (w : World) : Prop :=
  NEW T.t_i_Network #[n_0.v, n_1.v, n_2.v] w fun (p_n : Addr) w1 =>
  LD [.sl, .sl, .sl] p_n w1 fun (x5_0 : Sl) (x5_1 : Sl) (x5_2 : Sl) =>
  Calls Try.prog F.i_IsNetwork #[.agg #[x5_0.v, x5_1.v, x5_2.v]] w1 (Ret [.at .bool] fun (x6 : Bool) w2 =>
  cond x6 (
  LD [.sl, .sl, .sl] p_n w2 fun (x8_0 : Sl) (x8_1 : Sl) (x8_2 : Sl) =>
  Calls Try.prog F.i_isMatching #[.agg #[x8_0.v, x8_1.v, x8_2.v], m.v] w2 (Ret [.at .bool] fun (x10 : Bool) w3 =>
  Q x10 w3)) (
  Q false w2))

theorem C_i_matchingOk {Q : Bool → World → Prop} {n_0 : Sl} {n_1 : Sl} {n_2 : Sl} {m : Sl} {w : World} (h : V_i_matchingOk Q n_0 n_1 n_2 m w) : Calls Try.prog F.i_matchingOk #[.agg #[n_0.v, n_1.v, n_2.v], m.v] w (Ret [.at .bool] Q) :=
  mkC (hint := hint) (ann := annOf []) (args := [.agg #[n_0.v, n_1.v, n_2.v], m.v]) (rs := [.at .bool]) Try.func68 (by kernel_rfl) (by kernel_rfl) h

def V_i_oneIf (Q : Int → World → Prop) (b : Bool) (w : World) : Prop :=
  cond b (
  Q 1 w) (
  Q 0 w)

theorem C_i_oneIf {Q : Int → World → Prop} {b : Bool} {w : World} (h : V_i_oneIf Q b w) : Calls Try.prog F.i_oneIf #[.bool b] w (Ret [.at (.int .i64)] Q) :=
  mkC (hint := hint) (ann := annOf []) (args := [.bool b]) (rs := [.at (.int .i64)]) Try.func69 (by kernel_rfl) (by kernel_rfl) h

def V_s_mtSet (Q : Bool → World → Prop) (n_0 : Sl) (n_1 : Sl) (n_2 : Sl) (set1 : Sl) (w : World) : Prop :=
  NEW T.t_i_Network #[n_0.v, n_1.v, n_2.v] w fun (p_n : Addr) w1 =>
  LD [.sl, .sl, .sl] p_n w1 fun (x5_0 : Sl) (x5_1 : Sl) (x5_2 : Sl) =>
  Calls Try.prog F.s_neGood #[.agg #[x5_0.v, x5_1.v, x5_2.v]] w1 (Ret [.at .bool] fun (x6 : Bool) w2 =>
  cond x6 (
  LD [.sl] (p_n.add 0) w2 fun (x10 : Sl) =>
  Calls Try.prog F.s_l1Rising #[set1.v, .int .i64 0, .int .i64 (IntKind.i64.wrap (x10.len - 1))] w2 (Ret [.at .bool] fun (x13 : Bool) w3 =>
  Q x13 w3)) (
  Q false w2))

theorem C_s_mtSet {Q : Bool → World → Prop} {n_0 : Sl} {n_1 : Sl} {n_2 : Sl} {set1 : Sl} {w : World} (h : V_s_mtSet Q n_0 n_1 n_2 set1 w) : Calls Try.prog F.s_mtSet #[.agg #[n_0.v, n_1.v, n_2.v], set1.v] w (Ret [.at .bool] Q) :=
  mkC (hint := hint) (ann := annOf []) (args := [.agg #[n_0.v, n_1.v, n_2.v], set1.v]) (rs := [.at .bool]) Try.func70 (by kernel_rfl) (by kernel_rfl) h

def V_s_mtIndependent (Q : Bool → World → Prop) (n_0 : Sl) (n_1 : Sl) (n_2 : Sl) (set1 : Sl) (w : World) : Prop :=
  NEW T.t_i_Network #[n_0.v, n_1.v, n_2.v] w fun (p_n : Addr) w1 =>
  ∃ (I2 : Int → World → Prop) (m2 : Int → World → Nat), I2 0 w1 ∧ ∀ (x9 : Int) w2, I2 x9 w2 → ∀ _ _ _ _ _ _ _ _ _ _ _ : Value,
  cond (decide ((x9 : Int) < set1.len)) (
  IX set1 x9 1 fun (px11 : Addr) =>
  LD [.int .i64] px11 w2 fun (x12 : Int) =>
  LD [.sl, .sl, .sl] p_n w2 fun (x13_0 : Sl) (x13_1 : Sl) (x13_2 : Sl) =>
  Calls Try.prog F.s_mtApart #[.agg #[x13_0.v, x13_1.v, x13_2.v], .int .i64 x12, set1.v] w2 (Ret [.at .bool] fun (x16 : Bool) w3 =>
  cond (!x16) (
  Q false w3) (
  I2 (IntKind.i64.wrap (x9 + 1)) w3 ∧ m2 (IntKind.i64.wrap (x9 + 1)) w3 < m2 x9 w2))) (
  Q true w2)

theorem C_s_mtIndependent {Q : Bool → World → Prop} {n_0 : Sl} {n_1 : Sl} {n_2 : Sl} {set1 : Sl} {w : World} (h : V_s_mtIndependent Q n_0 n_1 n_2 set1 w) : Calls Try.prog F.s_mtIndependent #[.agg #[n_0.v, n_1.v, n_2.v], set1.v] w (Ret [.at .bool] Q) :=
  mkC (hint := hint) (ann := annOf [(2, ⟨[(9, .int .i64)], [4, 6, 10, 11, 12, 13, 14, 15, 16, 17, 18]⟩)]) (args := [.agg #[n_0.v, n_1.v, n_2.v], set1.v]) (rs := [.at .bool]) Try.func71 (by kernel_rfl) (by kernel_rfl) h

def V_i_isNodeSet (Q : Bool → World → Prop) (n_0 : Sl) (n_1 : Sl) (n_2 : Sl) (set1 : Sl) (w : World) : Prop :=
  NEW T.t_i_Network #[n_0.v, n_1.v, n_2.v] w fun (p_n : Addr) w1 =>
  LD [.sl, .sl, .sl] p_n w1 fun (x5_0 : Sl) (x5_1 : Sl) (x5_2 : Sl) =>
  Calls Try.prog F.i_IsNetwork #[.agg #[x5_0.v, x5_1.v, x5_2.v]] w1 (Ret [.at .bool] fun (x6 : Bool) w2 =>
  cond x6 (
  LD [.sl] (p_n.add 0) w2 fun (x10 : Sl) =>
  Calls Try.prog F.i_increasing #[set1.v, .int .i64 0, .int .i64 (IntKind.i64.wrap (x10.len - 1))] w2 (Ret [.at .bool] fun (x13 : Bool) w3 =>
  Q x13 w3)) (
  Q false w2))

theorem C_i_isNodeSet {Q : Bool → World → Prop} {n_0 : Sl} {n_1 : Sl} {n_2 : Sl} {set1 : Sl} {w : World} (h : V_i_isNodeSet Q n_0 n_1 n_2 set1 w) : Calls Try.prog F.i_isNodeSet #[.agg #[n_0.v, n_1.v, n_2.v], set1.v] w (Ret [.at .bool] Q) :=
  mkC (hint := hint) (ann := annOf []) (args := [.agg #[n_0.v, n_1.v, n_2.v], set1.v]) (rs := [.at .bool]) Try.func72 (by kernel_rfl) (by kernel_rfl) h

def V_i_isIndependent (Q : Bool → World → Prop) (n_0 : Sl) (n_1 : Sl) (n_2 : Sl) (set1 : Sl) (w : World) : Prop :=
  NEW T.t_i_Network #[n_0.v, n_1.v, n_2.v] w fun (p_n : Addr) w1 =>
  NEW T.t_sl_int #[set1.v] w1 fun (p_set : Addr) w2 =>
  LD [.sl, .sl, .sl] p_n w2 fun (x5_0 : Sl) (x5_1 : Sl) (x5_2 : Sl) =>
  Calls Try.prog F.i_Network_edges #[.agg #[x5_0.v, x5_1.v, x5_2.v]] w2 (Ret [.at .sl] fun (x6 : Sl) w3 =>
  Calls Try.prog F.slices_ContainsFunc_sl_i_edge_i_edge #[x6.v, .func (.func F.i_isIndependent_1) #[] #[.pointer (some p_set)]] w3 (Ret [.at .bool] fun (x8 : Bool) w4 =>
  Q (!x8) w4))

theorem C_i_isIndependent {Q : Bool → World → Prop} {n_0 : Sl} {n_1 : Sl} {n_2 : Sl} {set1 : Sl} {w : World} (h : V_i_isIndependent Q n_0 n_1 n_2 set1 w) : Calls Try.prog F.i_isIndependent #[.agg #[n_0.v, n_1.v, n_2.v], set1.v] w (Ret [.at .bool] Q) :=
  mkC (hint := hint) (ann := annOf []) (args := [.agg #[n_0.v, n_1.v, n_2.v], set1.v]) (rs := [.at .bool]) Try.func73 (by kernel_rfl) (by kernel_rfl) h

def V_s_mtCovers (Q : Bool → World → Prop) (n_0 : Sl) (n_1 : Sl) (n_2 : Sl) (set1 : Sl) (w : World) : Prop :=
  NEW T.t_i_Network #[n_0.v, n_1.v, n_2.v] w fun (p_n : Addr) w1 =>
  LD [.sl, .sl, .sl] p_n w1 fun (x7_0 : Sl) (x7_1 : Sl) (x7_2 : Sl) =>
  Calls Try.prog F.s_neEdges #[.agg #[x7_0.v, x7_1.v, x7_2.v]] w1 (Ret [.at .sl] fun (x8 : Sl) w2 =>
  ∃ (I2 : Int → World → Prop) (m2 : Int → World → Nat), I2 0 w2 ∧ ∀ (x10 : Int) w3, I2 x10 w3 → ∀ _ _ _ _ _ _ _ _ _ _ _ _ _ _ _ _ _ _ _ _ : Value,
  cond (decide ((x10 : Int) < x8.len)) (
  IX x8 x10 1 fun (px12 : Addr) =>
  LD [.sl] px12 w3 fun (x13 : Sl) =>
  IX x13 0 1 fun (px16 : Addr) =>
  LD [.int .i64] px16 w3 fun (x17 : Int) =>
  Calls Try.prog F.s_l1Has #[set1.v, .int .i64 x17] w3 (Ret [.at .bool] fun (x18 : Bool) w4 =>
  cond (!x18) (
  IX x13 2 1 fun (px23 : Addr) =>
  LD [.int .i64] px23 w4 fun (x24 : Int) =>
  Calls Try.prog F.s_l1Has #[set1.v, .int .i64 x24] w4 (Ret [.at .bool] fun (x25 : Bool) w5 =>
  cond (!x25) (
  Q false w5) (
  I2 (IntKind.i64.wrap (x10 + 1)) w5 ∧ m2 (IntKind.i64.wrap (x10 + 1)) w5 < m2 x10 w3))) (
  I2 (IntKind.i64.wrap (x10 + 1)) w4 ∧ m2 (IntKind.i64.wrap (x10 + 1)) w4 < m2 x10 w3))) (
  Q true w3))

theorem C_s_mtCovers {Q : Bool → World → Prop} {n_0 : Sl} {n_1 : Sl} {n_2 : Sl} {set1 : Sl} {w : World} (h : V_s_mtCovers Q n_0 n_1 n_2 set1 w) : Calls Try.prog F.s_mtCovers #[.agg #[n_0.v, n_1.v, n_2.v], set1.v] w (Ret [.at .bool] Q) :=
  mkC (hint := hint) (ann := annOf [(2, ⟨[(10, .int .i64)], [4, 6, 11, 12, 13, 14, 15, 16, 17, 18, 19, 20, 21, 22, 23, 24, 25, 26, 27, 28]⟩)]) (args := [.agg #[n_0.v, n_1.v, n_2.v], set1.v]) (rs := [.at .bool]) Try.func74 (by kernel_rfl) (by kernel_rfl) h

def V_i_isCover (Q : Bool → World → Prop) (n_0 : Sl) (n_1 : Sl) (n_2 : Sl) (set1 : Sl) (w : World) : Prop :=
  NEW T.t_i_Network #[n_0.v, n_1.v, n_2.v] w fun (p_n : Addr) w1 =>
  NEW T.t_sl_int #[set1.v] w1 fun (p_set : Addr) w2 =>
  LD [.sl, .sl, .sl] p_n w2 fun (x5_0 : Sl) (x5_1 : Sl) (x5_2 : Sl) =>
  Calls Try.prog F.i_Network_edges #[.agg #[x5_0.v, x5_1.v, x5_2.v]] w2 (Ret [.at .sl] fun (x6 : Sl) w3 =>
  Calls Try.prog F.slices_ContainsFunc_sl_i_edge_i_edge #[x6.v, .func (.func F.i_isCover_1) #[] #[.pointer (some p_set)]] w3 (Ret [.at .bool] fun (x8 : Bool) w4 =>
  Q (!x8) w4))

theorem C_i_isCover {Q : Bool → World → Prop} {n_0 : Sl} {n_1 : Sl} {n_2 : Sl} {set1 : Sl} {w : World} (h : V_i_isCover Q n_0 n_1 n_2 set1 w) : Calls Try.prog F.i_isCover #[.agg #[n_0.v, n_1.v, n_2.v], set1.v] w (Ret [.at .bool] Q) :=
  mkC (hint := hint) (ann := annOf []) (args := [.agg #[n_0.v, n_1.v, n_2.v], set1.v]) (rs := [.at .bool]) Try.func75 (by kernel_rfl) (by kernel_rfl) h

end Go.Proofs.Ytghibjghjjnchaa
