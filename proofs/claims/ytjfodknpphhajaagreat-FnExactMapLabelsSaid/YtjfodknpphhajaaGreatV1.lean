/- What each function's code computes to. Printed by a program. -/
import Derived.Test.YtjfodknpphhajaaGreatNames
namespace Go.Proofs.YtjfodknpphhajaaGreat
open Go.GX Go.RowKit
set_option linter.unusedVariables false
set_option maxRecDepth 100000

def V_l_markEndSS (Q : Int → World → Prop) (a : Sl) (k : Int) (w : World) : Prop :=
  ∃ (I2 : Int → Int → World → Prop) (m2 : Int → Int → World → Nat), I2 k 0 w ∧ ∀ (k_2 : Int) (i : Int) w1, I2 k_2 i w1 → ∀ _ _ _ _ _ _ _ _ _ _ _ _ : Value,
  cond (decide ((i : Int) < a.len)) (
  IX a i 1 fun (px14 : Addr) =>
  LD [.sl] px14 w1 fun (x15 : Sl) =>
  Calls Tryz.prog F.l_markEndS #[x15.v, .int .i64 k_2] w1 (Ret [.at (.int .i64)] fun (x17 : Int) w2 =>
  I2 x17 (IntKind.i64.wrap (i + 1)) w2 ∧ m2 x17 (IntKind.i64.wrap (i + 1)) w2 < m2 k_2 i w1)) (
  Q k_2 w1)

theorem C_l_markEndSS {Q : Int → World → Prop} {a : Sl} {k : Int} {w : World} (h : V_l_markEndSS Q a k w) : Calls Tryz.prog F.l_markEndSS #[a.v, .int .i64 k] w (Ret [.at (.int .i64)] Q) :=
  mkC (hint := hint) (ann := annOf [(2, ⟨[(1, .int .i64), (5, .int .i64)], [6, 7, 8, 9, 10, 11, 12, 13, 14, 15, 16, 17]⟩)]) (args := [a.v, .int .i64 k]) (rs := [.at (.int .i64)]) Tryz.func35 (by kernel_rfl) (by kernel_rfl) h

def V_l_heldIntS (Q : Int → World → Prop) (a : Sl) (k : Int) (w : World) : Prop :=
  ∃ (I2 : Int → Int → World → Prop) (m2 : Int → Int → World → Nat), I2 k 0 w ∧ ∀ (k_2 : Int) (i : Int) w1, I2 k_2 i w1 → ∀ _ _ _ _ _ _ _ _ _ _ _ _ _ _ _ : Value,
  cond (decide ((i : Int) < a.len)) (
  IX a i 1 fun (px14 : Addr) =>
  LD [.int .i64] px14 w1 fun (x15 : Int) =>
  cond ((x15 : Int) != k_2) (
  Q (-1) w1) (
  I2 (IntKind.i64.wrap (k_2 + 1)) (IntKind.i64.wrap (i + 1)) w1 ∧ m2 (IntKind.i64.wrap (k_2 + 1)) (IntKind.i64.wrap (i + 1)) w1 < m2 k_2 i w1)) (
  Q k_2 w1)

theorem C_l_heldIntS {Q : Int → World → Prop} {a : Sl} {k : Int} {w : World} (h : V_l_heldIntS Q a k w) : Calls Tryz.prog F.l_heldIntS #[a.v, .int .i64 k] w (Ret [.at (.int .i64)] Q) :=
  mkC (hint := hint) (ann := annOf [(2, ⟨[(1, .int .i64), (5, .int .i64)], [4, 6, 7, 8, 9, 10, 11, 12, 13, 14, 15, 16, 17, 18, 19]⟩)]) (args := [a.v, .int .i64 k]) (rs := [.at (.int .i64)]) Tryz.func36 (by kernel_rfl) (by kernel_rfl) h

def V_l_szEndS (Q : Int → World → Prop) (a : Sl) (left : Int) (w : World) : Prop :=
  cond (decide (((IntKind.i64.wrap (left - a.len)) : Int) < 0)) (
  Q (-1) w) (
  Q (IntKind.i64.wrap (left - a.len)) w)

theorem C_l_szEndS {Q : Int → World → Prop} {a : Sl} {left : Int} {w : World} (h : V_l_szEndS Q a left w) : Calls Tryz.prog F.l_szEndS #[a.v, .int .i64 left] w (Ret [.at (.int .i64)] Q) :=
  mkC (hint := hint) (ann := annOf []) (args := [a.v, .int .i64 left]) (rs := [.at (.int .i64)]) Tryz.func37 (by kernel_rfl) (by kernel_rfl) h

def V_s_prGood (Q : Bool → World → Prop) (p_0 : Int) (p_1 : Int) (p_2 : Sl) (p_3 : Sl) (w : World) : Prop :=
  NEW T.t_i_Problem #[.int .i64 p_0, .int .i64 p_1, p_2.v, p_3.v] w fun (p_p : Addr) w1 =>
  LD [.int .i64] (p_p.add 0) w1 fun (x4 : Int) =>
  Calls Tryz.prog F.s_l1In #[.int .i64 x4, .int .i64 1, .int .i64 8] w1 (Ret [.at .bool] fun (x5 : Bool) w2 =>
  cond x5 (
  LD [.int .i64] (p_p.add 1) w2 fun (x8 : Int) =>
  Calls Tryz.prog F.s_l1In #[.int .i64 x8, .int .i64 1, .int .i64 4] w2 (Ret [.at .bool] fun (x9 : Bool) w3 =>
  cond x9 (
  LD [.sl] (p_p.add 2) w3 fun (x13 : Sl) =>
  LD [.int .i64] (p_p.add 1) w3 fun (x15 : Int) =>
  LD [.int .i64] (p_p.add 0) w3 fun (x17 : Int) =>
  Calls Tryz.prog F.s_prLists #[x13.v, .int .i64 x15, .int .i64 x17] w3 (Ret [.at .bool] fun (x18 : Bool) w4 =>
  cond x18 (
  LD [.sl] (p_p.add 3) w4 fun (x22 : Sl) =>
  LD [.int .i64] (p_p.add 0) w4 fun (x24 : Int) =>
  Calls Tryz.prog F.s_prLists #[x22.v, .int .i64 2, .int .i64 x24] w4 (Ret [.at .bool] fun (x25 : Bool) w5 =>
  Q x25 w5)) (
  Q false w4))) (
  Q false w3))) (
  Q false w2))

theorem C_s_prGood {Q : Bool → World → Prop} {p_0 : Int} {p_1 : Int} {p_2 : Sl} {p_3 : Sl} {w : World} (h : V_s_prGood Q p_0 p_1 p_2 p_3 w) : Calls Tryz.prog F.s_prGood #[.agg #[.int .i64 p_0, .int .i64 p_1, p_2.v, p_3.v]] w (Ret [.at .bool] Q) :=
  mkC (hint := hint) (ann := annOf []) (args := [.agg #[.int .i64 p_0, .int .i64 p_1, p_2.v, p_3.v]]) (rs := [.at .bool]) Tryz.func38 (by kernel_rfl) (by kernel_rfl) h

def V_s_l1All (Q : Bool → World → Prop) (l : Sl) (lo : Int) (hi : Int) (w : World) : Prop :=
  ∃ (I2 : Int → World → Prop) (m2 : Int → World → Nat), I2 0 w ∧ ∀ (x11 : Int) w1, I2 x11 w1 → ∀ _ _ _ _ _ _ _ _ _ _ _ : Value,
  cond (decide ((x11 : Int) < l.len)) (
  IX l x11 1 fun (px13 : Addr) =>
  LD [.int .i64] px13 w1 fun (x14 : Int) =>
  Calls Tryz.prog F.s_l1In #[.int .i64 x14, .int .i64 lo, .int .i64 hi] w1 (Ret [.at .bool] fun (x18 : Bool) w2 =>
  cond (!x18) (
  Q false w2) (
  I2 (IntKind.i64.wrap (x11 + 1)) w2 ∧ m2 (IntKind.i64.wrap (x11 + 1)) w2 < m2 x11 w1))) (
  Q true w1)

theorem C_s_l1All {Q : Bool → World → Prop} {l : Sl} {lo : Int} {hi : Int} {w : World} (h : V_s_l1All Q l lo hi w) : Calls Tryz.prog F.s_l1All #[l.v, .int .i64 lo, .int .i64 hi] w (Ret [.at .bool] Q) :=
  mkC (hint := hint) (ann := annOf [(2, ⟨[(11, .int .i64)], [6, 8, 12, 13, 14, 15, 16, 17, 18, 19, 20]⟩)]) (args := [l.v, .int .i64 lo, .int .i64 hi]) (rs := [.at .bool]) Tryz.func39 (by kernel_rfl) (by kernel_rfl) h

def V_s_reInto (Q : Bool → World → Prop) (l : Sl) (m : Sl) (f : Sl) (w : World) : Prop :=
  ∃ (I2 : Int → World → Prop) (m2 : Int → World → Nat), I2 0 w ∧ ∀ (x11 : Int) w1, I2 x11 w1 → ∀ _ _ _ _ _ _ _ _ _ _ _ _ _ : Value,
  cond (decide ((x11 : Int) < l.len)) (
  IX l x11 1 fun (px13 : Addr) =>
  LD [.sl] px13 w1 fun (x14 : Sl) =>
  Calls Tryz.prog F.s_coThrough #[f.v, x14.v] w1 (Ret [.at .sl] fun (x18 : Sl) w2 =>
  Calls Tryz.prog F.s_prSorted #[x18.v] w2 (Ret [.at .sl] fun (x19 : Sl) w3 =>
  Calls Tryz.prog F.s_prHas #[m.v, x19.v] w3 (Ret [.at .bool] fun (x20 : Bool) w4 =>
  cond (!x20) (
  Q false w4) (
  I2 (IntKind.i64.wrap (x11 + 1)) w4 ∧ m2 (IntKind.i64.wrap (x11 + 1)) w4 < m2 x11 w1))))) (
  Q true w1)

theorem C_s_reInto {Q : Bool → World → Prop} {l : Sl} {m : Sl} {f : Sl} {w : World} (h : V_s_reInto Q l m f w) : Calls Tryz.prog F.s_reInto #[l.v, m.v, f.v] w (Ret [.at .bool] Q) :=
  mkC (hint := hint) (ann := annOf [(2, ⟨[(11, .int .i64)], [6, 8, 12, 13, 14, 15, 16, 17, 18, 19, 20, 21, 22]⟩)]) (args := [l.v, m.v, f.v]) (rs := [.at .bool]) Tryz.func40 (by kernel_rfl) (by kernel_rfl) h

def V_s_neGood_k1 (Q : Bool → World → Prop) (px1 : Addr) (w5 : World) : Prop :=
  LD [.sl] (px1.add 0) w5 fun (x37 : Sl) =>
  ∃ (I4 : Int → World → Prop) (m4 : Int → World → Nat), I4 0 w5 ∧ ∀ (x39 : Int) w6, I4 x39 w6 → ∀ _ _ _ _ _ _ _ _ _ _ _ _ _ _ _ _ _ _ _ _ _ _ _ _ _ _ _ _ _ _ _ _ _ _ _ _ _ _ _ _ _ _ _ _ _ _ _ _ _ _ _ _ _ _ _ _ _ _ _ : Value,
  cond (decide ((x39 : Int) < x37.len)) (
  IX x37 x39 1 fun (px42 : Addr) =>
  LD [.sl] px42 w6 fun (x43 : Sl) =>
  cond (decide ((x43.len : Int) > 6)) (
  Q false w6) (
  ∃ (I9 : Int → World → Prop) (m9 : Int → World → Nat), I9 0 w6 ∧ ∀ (x49 : Int) w7, I9 x49 w7 → ∀ _ _ _ _ _ _ _ _ _ _ _ _ _ _ _ _ _ _ _ _ _ _ _ _ _ _ _ _ _ _ _ _ _ _ _ _ _ _ _ _ _ _ _ _ _ _ : Value,
  cond (decide ((x49 : Int) < x43.len)) (
  IX x43 x49 2 fun (px52 : Addr) =>
  LD [.int .i64, .int .i64] px52 w7 fun (x53_0 : Int) (x53_1 : Int) =>
  NEW T.t_i_End #[.int .i64 0, .int .i64 0] w7 fun (px6 : Addr) w8 =>
  ST px6 0 [.int .i64 x53_0, .int .i64 x53_1] w8 fun w9 =>
  LD [.int .i64] (px6.add 0) w9 fun (x55 : Int) =>
  LD [.sl] (px1.add 0) w9 fun (x57 : Sl) =>
  QCALL Tryz.prog F.s_l1In #[.int .i64 x55, .int .i64 0, .int .i64 (IntKind.i64.wrap (x57.len - 1))] w9 [.at .bool] fun (x60 : Bool) =>
  cond (!x60) (
  ∀ w10, Ext w9 w10 →
  Q false w10) (
  LD [.int .i64] (px6.add 1) w9 fun (x64 : Int) =>
  LD [.sl] (px1.add 0) w9 fun (x66 : Sl) =>
  LD [.int .i64] (px6.add 0) w9 fun (x68 : Int) =>
  IX x66 x68 1 fun (px69 : Addr) =>
  LD [.sl] px69 w9 fun (x70 : Sl) =>
  QCALL Tryz.prog F.s_l1In #[.int .i64 x64, .int .i64 0, .int .i64 (IntKind.i64.wrap (x70.len - 1))] w9 [.at .bool] fun (x73 : Bool) =>
  cond (!x73) (
  ∀ w11, Ext w9 w11 →
  Q false w11) (
  LD [.sl] (px1.add 0) w9 fun (x78 : Sl) =>
  LD [.int .i64] (px6.add 0) w9 fun (x80 : Int) =>
  IX x78 x80 1 fun (px81 : Addr) =>
  LD [.sl] px81 w9 fun (x82 : Sl) =>
  LD [.int .i64] (px6.add 1) w9 fun (x84 : Int) =>
  IX x82 x84 2 fun (px85 : Addr) =>
  LD [.int .i64, .int .i64] px85 w9 fun (x86_0 : Int) (x86_1 : Int) =>
  AEQ Tryz.prog (do eqGuard .neq T.t_i_End (.tmp 86) (.tmp 89) (.agg #[.int .i64 x86_0, .int .i64 x86_1]) (.agg #[.int .i64 x39, .int .i64 x49]); binOp .neq T.t_i_End (.agg #[.int .i64 x86_0, .int .i64 x86_1]) (.agg #[.int .i64 x39, .int .i64 x49])) fun (x90 : Bool) =>
  ∀ w12, Ext w9 w12 →
  cond x90 (
  Q false w12) (
  I9 (IntKind.i64.wrap (x49 + 1)) w12 ∧ m9 (IntKind.i64.wrap (x49 + 1)) w12 < m9 x49 w7)))) (
  I4 (IntKind.i64.wrap (x39 + 1)) w7 ∧ m4 (IntKind.i64.wrap (x39 + 1)) w7 < m4 x39 w6))) (
  Q true w6)

def V_s_neGood (Q : Bool → World → Prop) (x0_0 : Sl) (x0_1 : Sl) (x0_2 : Sl) (w : World) : Prop :=
  NEW T.t_i_Network #[x0_0.v, x0_1.v, x0_2.v] w fun (px1 : Addr) w1 =>
  LD [.sl] (px1.add 0) w1 fun (x8 : Sl) =>
  Calls Tryz.prog F.s_l1In #[.int .i64 x8.len, .int .i64 1, .int .i64 40] w1 (Ret [.at .bool] fun (x10 : Bool) w2 =>
  cond (!x10) (
  Q false w2) (
  LD [.sl] (px1.add 1) w2 fun (x14 : Sl) =>
  LD [.sl] (px1.add 0) w2 fun (x16 : Sl) =>
  Calls Tryz.prog F.s_neIds #[x14.v, .int .i64 x16.len] w2 (Ret [.at .bool] fun (x18 : Bool) w3 =>
  cond (!x18) (
  Q false w3) (
  LD [.sl] (px1.add 2) w3 fun (x23 : Sl) =>
  LD [.sl] (px1.add 0) w3 fun (x26 : Sl) =>
  cond ((x23.len : Int) != x26.len) (
  Q false w3) (
  LD [.sl] (px1.add 2) w3 fun (x32 : Sl) =>
  Calls Tryz.prog F.s_l1All #[x32.v, .int .i64 0, .int .i64 9] w3 (Ret [.at .bool] fun (x33 : Bool) w4 =>
  cond (!x33) (
  Q false w4) (
  V_s_neGood_k1 Q px1 w4)))))))

theorem C_s_neGood {Q : Bool → World → Prop} {x0_0 : Sl} {x0_1 : Sl} {x0_2 : Sl} {w : World} (h : V_s_neGood Q x0_0 x0_1 x0_2 w) : Calls Tryz.prog F.s_neGood #[.agg #[x0_0.v, x0_1.v, x0_2.v]] w (Ret [.at .bool] Q) :=
  mkC (hint := hint) (ann := annOf [(4, ⟨[(39, .int .i64)], [2, 3, 4, 5, 6, 40, 41, 42, 43, 44, 45, 46, 47, 48, 49, 50, 51, 52, 53, 54, 55, 56, 57, 58, 59, 60, 61, 62, 63, 64, 65, 66, 67, 68, 69, 70, 71, 72, 73, 74, 75, 76, 77, 78, 79, 80, 81, 82, 83, 84, 85, 86, 87, 88, 89, 90, 91, 92, 93]⟩), (9, ⟨[(49, .int .i64)], [2, 5, 6, 50, 51, 52, 53, 54, 55, 56, 57, 58, 59, 60, 61, 62, 63, 64, 65, 66, 67, 68, 69, 70, 71, 72, 73, 74, 75, 76, 77, 78, 79, 80, 81, 82, 83, 84, 85, 86, 87, 88, 89, 90, 91, 92]⟩)]) (args := [.agg #[x0_0.v, x0_1.v, x0_2.v]]) (rs := [.at .bool]) Tryz.func41 (by kernel_rfl) (by kernel_rfl) h

def V_s_prShape (Q : Bool → World → Prop) (p_0 : Int) (p_1 : Int) (p_2 : Sl) (p_3 : Sl) (n_0 : Sl) (n_1 : Sl) (n_2 : Sl) (l : Sl) (w : World) : Prop :=
  NEW T.t_i_Problem #[.int .i64 p_0, .int .i64 p_1, p_2.v, p_3.v] w fun (p_p : Addr) w1 =>
  NEW T.t_i_Network #[n_0.v, n_1.v, n_2.v] w1 fun (p_n : Addr) w2 =>
  LD [.sl] (p_n.add 0) w2 fun (x12 : Sl) =>
  cond ((l.len : Int) != x12.len) (
  Q false w2) (
  ∃ (I4 : Int → World → Prop) (m4 : Int → World → Nat), I4 0 w2 ∧ ∀ (x17 : Int) w3, I4 x17 w3 → ∀ _ _ _ _ _ _ _ _ _ _ _ _ _ _ _ _ _ _ _ _ _ _ _ _ _ : Value,
  cond (decide ((x17 : Int) < l.len)) (
  IX l x17 1 fun (px20 : Addr) =>
  LD [.sl] px20 w3 fun (x21 : Sl) =>
  LD [.sl] (p_n.add 0) w3 fun (x25 : Sl) =>
  IX x25 x17 1 fun (px27 : Addr) =>
  LD [.sl] px27 w3 fun (x28 : Sl) =>
  cond ((x21.len : Int) != x28.len) (
  Q false w3) (
  LD [.int .i64] (p_p.add 0) w3 fun (x34 : Int) =>
  Calls Tryz.prog F.s_l1All #[x21.v, .int .i64 0, .int .i64 (IntKind.i64.wrap (x34 - 1))] w3 (Ret [.at .bool] fun (x36 : Bool) w4 =>
  cond (!x36) (
  Q false w4) (
  I4 (IntKind.i64.wrap (x17 + 1)) w4 ∧ m4 (IntKind.i64.wrap (x17 + 1)) w4 < m4 x17 w3)))) (
  Q true w3))

theorem C_s_prShape {Q : Bool → World → Prop} {p_0 : Int} {p_1 : Int} {p_2 : Sl} {p_3 : Sl} {n_0 : Sl} {n_1 : Sl} {n_2 : Sl} {l : Sl} {w : World} (h : V_s_prShape Q p_0 p_1 p_2 p_3 n_0 n_1 n_2 l w) : Calls Tryz.prog F.s_prShape #[.agg #[.int .i64 p_0, .int .i64 p_1, p_2.v, p_3.v], .agg #[n_0.v, n_1.v, n_2.v], l.v] w (Ret [.at .bool] Q) :=
  mkC (hint := hint) (ann := annOf [(4, ⟨[(17, .int .i64)], [6, 7, 8, 18, 19, 20, 21, 22, 23, 24, 25, 26, 27, 28, 29, 30, 31, 32, 33, 34, 35, 36, 37, 38, 39]⟩)]) (args := [.agg #[.int .i64 p_0, .int .i64 p_1, p_2.v, p_3.v], .agg #[n_0.v, n_1.v, n_2.v], l.v]) (rs := [.at .bool]) Tryz.func42 (by kernel_rfl) (by kernel_rfl) h

def V_s_coThrough (Q : Sl → World → Prop) (l : Sl) (at1 : Sl) (w : World) : Prop :=
  ∃ (I3 : Sl → Int → World → Prop) (m3 : Sl → Int → World → Nat), I3 (⟨none, 0, 0⟩) 0 w ∧ ∀ (out : Sl) (x10 : Int) w1, I3 out x10 w1 → ∀ _ _ _ _ _ _ _ _ _ _ _ _ : Value,
  cond (decide ((x10 : Int) < at1.len)) (
  IX at1 x10 1 fun (px12 : Addr) =>
  LD [.int .i64] px12 w1 fun (x13 : Int) =>
  IX l x13 1 fun (px17 : Addr) =>
  LD [.int .i64] px17 w1 fun (x18 : Int) =>
  RUN Tryz.prog (.at .sl) (Instr.buildSlice T.t_sl_int 1 #[(0, .int .i64 x18)]) w1 fun (x19 : Sl) w2 =>
  RUN Tryz.prog (.at .sl) (bsem .append #[T.t_sl_int, T.t_sl_int] T.t_sl_int #[out.v, x19.v]) w2 fun (x20 : Sl) w3 =>
  I3 x20 (IntKind.i64.wrap (x10 + 1)) w3 ∧ m3 x20 (IntKind.i64.wrap (x10 + 1)) w3 < m3 out x10 w1) (
  Q out w1)

theorem C_s_coThrough {Q : Sl → World → Prop} {l : Sl} {at1 : Sl} {w : World} (h : V_s_coThrough Q l at1 w) : Calls Tryz.prog F.s_coThrough #[l.v, at1.v] w (Ret [.at .sl] Q) :=
  mkC (hint := hint) (ann := annOf [(3, ⟨[(5, .sl), (10, .int .i64)], [7, 11, 12, 13, 14, 15, 16, 17, 18, 19, 20, 21]⟩)]) (args := [l.v, at1.v]) (rs := [.at .sl]) Tryz.func43 (by kernel_rfl) (by kernel_rfl) h

def V_l_toEndS (Q : Sl → World → Prop) (a : Sl) (w : World) : Prop :=
  RUN Tryz.prog (.at .sl) (Instr.makeSlice T.t_sl_i_End (.int .i64 a.len) (.int .i64 a.len)) w fun (x7 : Sl) w1 =>
  ∃ (I3 : Int → World → Prop) (m3 : Int → World → Nat), I3 0 w1 ∧ ∀ (i : Int) w2, I3 i w2 → ∀ _ _ _ _ _ _ _ _ _ _ _ _ _ _ : Value,
  cond (decide ((i : Int) < a.len)) (
  IX a i 2 fun (px18 : Addr) =>
  LD [.int .i64, .int .i64] px18 w2 fun (x19_0 : Int) (x19_1 : Int) =>
  Calls Tryz.prog F.l_toEnd #[.agg #[.int .i64 x19_0, .int .i64 x19_1]] w2 (Ret [.agg [.int .i64, .int .i64]] fun (x20_0 : Int) (x20_1 : Int) w3 =>
  IX x7 i 2 fun (px21 : Addr) =>
  ST px21 0 [.int .i64 x20_0, .int .i64 x20_1] w3 fun w4 =>
  I3 (IntKind.i64.wrap (i + 1)) w4 ∧ m3 (IntKind.i64.wrap (i + 1)) w4 < m3 i w2)) (
  Q x7 w2)

theorem C_l_toEndS {Q : Sl → World → Prop} {a : Sl} {w : World} (h : V_l_toEndS Q a w) : Calls Tryz.prog F.l_toEndS #[a.v] w (Ret [.at .sl] Q) :=
  mkC (hint := hint) (ann := annOf [(3, ⟨[(4, .int .i64)], [8, 9, 10, 11, 12, 13, 14, 15, 16, 17, 18, 19, 20, 21]⟩)]) (args := [a.v]) (rs := [.at .sl]) Tryz.func44 (by kernel_rfl) (by kernel_rfl) h

def V_i_IsProblem (Q : Bool → World → Prop) (p_0 : Int) (p_1 : Int) (p_2 : Sl) (p_3 : Sl) (w : World) : Prop :=
  NEW T.t_i_Problem #[.int .i64 p_0, .int .i64 p_1, p_2.v, p_3.v] w fun (p_p : Addr) w1 =>
  LD [.int .i64] (p_p.add 0) w1 fun (x4 : Int) =>
  Calls Tryz.prog F.i_within #[.int .i64 x4, .int .i64 1, .int .i64 8] w1 (Ret [.at .bool] fun (x5 : Bool) w2 =>
  cond x5 (
  LD [.int .i64] (p_p.add 1) w2 fun (x8 : Int) =>
  Calls Tryz.prog F.i_within #[.int .i64 x8, .int .i64 1, .int .i64 4] w2 (Ret [.at .bool] fun (x9 : Bool) w3 =>
  cond x9 (
  LD [.sl] (p_p.add 2) w3 fun (x13 : Sl) =>
  LD [.int .i64] (p_p.add 1) w3 fun (x15 : Int) =>
  LD [.int .i64] (p_p.add 0) w3 fun (x17 : Int) =>
  Calls Tryz.prog F.i_configurationsOk #[x13.v, .int .i64 x15, .int .i64 x17] w3 (Ret [.at .bool] fun (x18 : Bool) w4 =>
  cond x18 (
  LD [.sl] (p_p.add 3) w4 fun (x22 : Sl) =>
  LD [.int .i64] (p_p.add 0) w4 fun (x24 : Int) =>
  Calls Tryz.prog F.i_configurationsOk #[x22.v, .int .i64 2, .int .i64 x24] w4 (Ret [.at .bool] fun (x25 : Bool) w5 =>
  Q x25 w5)) (
  Q false w4))) (
  Q false w3))) (
  Q false w2))

theorem C_i_IsProblem {Q : Bool → World → Prop} {p_0 : Int} {p_1 : Int} {p_2 : Sl} {p_3 : Sl} {w : World} (h : V_i_IsProblem Q p_0 p_1 p_2 p_3 w) : Calls Tryz.prog F.i_IsProblem #[.agg #[.int .i64 p_0, .int .i64 p_1, p_2.v, p_3.v]] w (Ret [.at .bool] Q) :=
  mkC (hint := hint) (ann := annOf []) (args := [.agg #[.int .i64 p_0, .int .i64 p_1, p_2.v, p_3.v]]) (rs := [.at .bool]) Tryz.func45 (by kernel_rfl) (by kernel_rfl) h

def V_i_Problem_hasLabels (Q : Bool → World → Prop) (p_0 : Int) (p_1 : Int) (p_2 : Sl) (p_3 : Sl) (labels : Sl) (w : World) : Prop :=
  NEW T.t_i_Problem #[.int .i64 p_0, .int .i64 p_1, p_2.v, p_3.v] w fun (p_p : Addr) w1 =>
  LD [.int .i64] (p_p.add 0) w1 fun (x7 : Int) =>
  Calls Tryz.prog F.i_allWithin #[labels.v, .int .i64 0, .int .i64 (IntKind.i64.wrap (x7 - 1))] w1 (Ret [.at .bool] fun (x9 : Bool) w2 =>
  Q x9 w2)

theorem C_i_Problem_hasLabels {Q : Bool → World → Prop} {p_0 : Int} {p_1 : Int} {p_2 : Sl} {p_3 : Sl} {labels : Sl} {w : World} (h : V_i_Problem_hasLabels Q p_0 p_1 p_2 p_3 labels w) : Calls Tryz.prog F.i_Problem_hasLabels #[.agg #[.int .i64 p_0, .int .i64 p_1, p_2.v, p_3.v], labels.v] w (Ret [.at .bool] Q) :=
  mkC (hint := hint) (ann := annOf []) (args := [.agg #[.int .i64 p_0, .int .i64 p_1, p_2.v, p_3.v], labels.v]) (rs := [.at .bool]) Tryz.func46 (by kernel_rfl) (by kernel_rfl) h

def V_i_Problem_node (Q : Bool → World → Prop) (p_0 : Int) (p_1 : Int) (p_2 : Sl) (p_3 : Sl) (labels : Sl) (w : World) : Prop :=
  NEW T.t_i_Problem #[.int .i64 p_0, .int .i64 p_1, p_2.v, p_3.v] w fun (p_p : Addr) w1 =>
  LD [.sl] (p_p.add 2) w1 fun (x6 : Sl) =>
  Calls Tryz.prog F.i_hasConfiguration #[x6.v, labels.v] w1 (Ret [.at .bool] fun (x8 : Bool) w2 =>
  Q x8 w2)

theorem C_i_Problem_node {Q : Bool → World → Prop} {p_0 : Int} {p_1 : Int} {p_2 : Sl} {p_3 : Sl} {labels : Sl} {w : World} (h : V_i_Problem_node Q p_0 p_1 p_2 p_3 labels w) : Calls Tryz.prog F.i_Problem_node #[.agg #[.int .i64 p_0, .int .i64 p_1, p_2.v, p_3.v], labels.v] w (Ret [.at .bool] Q) :=
  mkC (hint := hint) (ann := annOf []) (args := [.agg #[.int .i64 p_0, .int .i64 p_1, p_2.v, p_3.v], labels.v]) (rs := [.at .bool]) Tryz.func47 (by kernel_rfl) (by kernel_rfl) h

def V_slices_ContainsFunc_sl_sl_int_sl_int (Q : Bool → World → Prop) (s : Sl) (f : Value) (w : World) : Prop :=
  Calls Tryz.prog F.slices_IndexFunc_sl_sl_int_sl_int #[s.v, f] w (Ret [.at (.int .i64)] fun (x7 : Int) w1 =>
  Q (decide ((x7 : Int) ≥ 0)) w1)

theorem C_slices_ContainsFunc_sl_sl_int_sl_int {Q : Bool → World → Prop} {s : Sl} {f : Value} {w : World} (h : V_slices_ContainsFunc_sl_sl_int_sl_int Q s f w) : Calls Tryz.prog F.slices_ContainsFunc_sl_sl_int_sl_int #[s.v, f] w (Ret [.at .bool] Q) :=
  mkC (hint := hint) (ann := annOf []) (args := [s.v, f]) (rs := [.at .bool]) Tryz.func48 (by kernel_rfl) (by kernel_rfl) h

def V_i_isLabelMap_1 (Q : Bool → World → Prop) (c : Sl) (cap0 : Addr) (cap1 : Addr) (w : World) : Prop :=
  LD [.int .i64, .int .i64, .sl, .sl] cap0 w fun (x5_0 : Int) (x5_1 : Int) (x5_2 : Sl) (x5_3 : Sl) =>
  LD [.sl] cap1 w fun (x6 : Sl) =>
  IX c 0 1 fun (px8 : Addr) =>
  LD [.int .i64] px8 w fun (x9 : Int) =>
  IX x6 x9 1 fun (px10 : Addr) =>
  LD [.int .i64] px10 w fun (x11 : Int) =>
  LD [.sl] cap1 w fun (x12 : Sl) =>
  IX c 1 1 fun (px14 : Addr) =>
  LD [.int .i64] px14 w fun (x15 : Int) =>
  IX x12 x15 1 fun (px16 : Addr) =>
  LD [.int .i64] px16 w fun (x17 : Int) =>
  QCALL Tryz.prog F.i_Problem_edge #[.agg #[.int .i64 x5_0, .int .i64 x5_1, x5_2.v, x5_3.v], .int .i64 x11, .int .i64 x17] w [.at .bool] fun (x18 : Bool) =>
  ∀ w1, Ext w w1 →
  Q (!x18) w1

theorem C_i_isLabelMap_1 {Q : Bool → World → Prop} {c : Sl} {cap0 : Addr} {cap1 : Addr} {w : World} (h : V_i_isLabelMap_1 Q c cap0 cap1 w) : Calls Tryz.prog F.i_isLabelMap_1 #[c.v, .pointer (some cap0), .pointer (some cap1)] w (Ret [.at .bool] Q) :=
  mkC (hint := hint) (ann := annOf []) (args := [c.v, .pointer (some cap0), .pointer (some cap1)]) (rs := [.at .bool]) Tryz.func49 (by kernel_rfl) (by kernel_rfl) h

def V_i_Problem_edge (Q : Bool → World → Prop) (p_0 : Int) (p_1 : Int) (p_2 : Sl) (p_3 : Sl) (a : Int) (b : Int) (w : World) : Prop :=
  NEW T.t_i_Problem #[.int .i64 p_0, .int .i64 p_1, p_2.v, p_3.v] w fun (p_p : Addr) w1 =>
  LD [.sl] (p_p.add 3) w1 fun (x8 : Sl) =>
  RUN Tryz.prog (.at .sl) (Instr.buildSlice T.t_sl_int 2 #[(0, .int .i64 a), (1, .int .i64 b)]) w1 fun (x11 : Sl) w2 =>
  Calls Tryz.prog F.i_hasConfiguration #[x8.v, x11.v] w2 (Ret [.at .bool] fun (x12 : Bool) w3 =>
  Q x12 w3)

theorem C_i_Problem_edge {Q : Bool → World → Prop} {p_0 : Int} {p_1 : Int} {p_2 : Sl} {p_3 : Sl} {a : Int} {b : Int} {w : World} (h : V_i_Problem_edge Q p_0 p_1 p_2 p_3 a b w) : Calls Tryz.prog F.i_Problem_edge #[.agg #[.int .i64 p_0, .int .i64 p_1, p_2.v, p_3.v], .int .i64 a, .int .i64 b] w (Ret [.at .bool] Q) :=
  mkC (hint := hint) (ann := annOf []) (args := [.agg #[.int .i64 p_0, .int .i64 p_1, p_2.v, p_3.v], .int .i64 a, .int .i64 b]) (rs := [.at .bool]) Tryz.func50 (by kernel_rfl) (by kernel_rfl) h

def V_i_within (Q : Bool → World → Prop) (n : Int) (low : Int) (high : Int) (w : World) : Prop :=
  cond (decide ((low : Int) ≤ n)) (
  Q (decide ((n : Int) ≤ high)) w) (
  Q false w)

theorem C_i_within {Q : Bool → World → Prop} {n : Int} {low : Int} {high : Int} {w : World} (h : V_i_within Q n low high w) : Calls Tryz.prog F.i_within #[.int .i64 n, .int .i64 low, .int .i64 high] w (Ret [.at .bool] Q) :=
  mkC (hint := hint) (ann := annOf []) (args := [.int .i64 n, .int .i64 low, .int .i64 high]) (rs := [.at .bool]) Tryz.func51 (by kernel_rfl) (by kernel_rfl) h

def V_i_idsOk (Q : Bool → World → Prop) (ids : Sl) (nodes : Int) (w : World) : Prop :=
  cond ((ids.len : Int) == 0) (
  Q true w) (
  Calls Tryz.prog F.slices_Clone_sl_int_int #[ids.v] w (Ret [.at .sl] fun (x10 : Sl) w1 =>
  Calls Tryz.prog F.slices_Sort_sl_int_int #[x10.v] w1 (Ret [] fun w2 =>
  cond ((ids.len : Int) == nodes) (
  Calls Tryz.prog F.i_increasing #[x10.v, .int .i64 1, .int .i64 999999] w2 (Ret [.at .bool] fun (x19 : Bool) w3 =>
  Q x19 w3)) (
  Q false w2))))

theorem C_i_idsOk {Q : Bool → World → Prop} {ids : Sl} {nodes : Int} {w : World} (h : V_i_idsOk Q ids nodes w) : Calls Tryz.prog F.i_idsOk #[ids.v, .int .i64 nodes] w (Ret [.at .bool] Q) :=
  mkC (hint := hint) (ann := annOf []) (args := [ids.v, .int .i64 nodes]) (rs := [.at .bool]) Tryz.func52 (by kernel_rfl) (by kernel_rfl) h

def V_i_inputsOk (Q : Bool → World → Prop) (inputs : Sl) (nodes : Int) (w : World) : Prop :=
  cond ((inputs.len : Int) == nodes) (
  Calls Tryz.prog F.i_allWithin #[inputs.v, .int .i64 0, .int .i64 9] w (Ret [.at .bool] fun (x11 : Bool) w1 =>
  Q x11 w1)) (
  Q false w)

theorem C_i_inputsOk {Q : Bool → World → Prop} {inputs : Sl} {nodes : Int} {w : World} (h : V_i_inputsOk Q inputs nodes w) : Calls Tryz.prog F.i_inputsOk #[inputs.v, .int .i64 nodes] w (Ret [.at .bool] Q) :=
  mkC (hint := hint) (ann := annOf []) (args := [inputs.v, .int .i64 nodes]) (rs := [.at .bool]) Tryz.func53 (by kernel_rfl) (by kernel_rfl) h

def V_i_Network_hasPort (Q : Bool → World → Prop) (n_0 : Sl) (n_1 : Sl) (n_2 : Sl) (v : Int) (i : Int) (w : World) : Prop :=
  NEW T.t_i_Network #[n_0.v, n_1.v, n_2.v] w fun (p_n : Addr) w1 =>
  LD [.sl, .sl, .sl] p_n w1 fun (x7_0 : Sl) (x7_1 : Sl) (x7_2 : Sl) =>
  Calls Tryz.prog F.i_Network_hasNode #[.agg #[x7_0.v, x7_1.v, x7_2.v], .int .i64 v] w1 (Ret [.at .bool] fun (x9 : Bool) w2 =>
  cond x9 (
  LD [.sl] (p_n.add 0) w2 fun (x13 : Sl) =>
  IX x13 v 1 fun (px15 : Addr) =>
  LD [.sl] px15 w2 fun (x16 : Sl) =>
  Calls Tryz.prog F.i_within #[.int .i64 i, .int .i64 0, .int .i64 (IntKind.i64.wrap (x16.len - 1))] w2 (Ret [.at .bool] fun (x19 : Bool) w3 =>
  Q x19 w3)) (
  Q false w2))

theorem C_i_Network_hasPort {Q : Bool → World → Prop} {n_0 : Sl} {n_1 : Sl} {n_2 : Sl} {v : Int} {i : Int} {w : World} (h : V_i_Network_hasPort Q n_0 n_1 n_2 v i w) : Calls Tryz.prog F.i_Network_hasPort #[.agg #[n_0.v, n_1.v, n_2.v], .int .i64 v, .int .i64 i] w (Ret [.at .bool] Q) :=
  mkC (hint := hint) (ann := annOf []) (args := [.agg #[n_0.v, n_1.v, n_2.v], .int .i64 v, .int .i64 i]) (rs := [.at .bool]) Tryz.func54 (by kernel_rfl) (by kernel_rfl) h

def V_i_portsOk (Q : Bool → World → Prop) (n_0 : Sl) (n_1 : Sl) (n_2 : Sl) (l : Sl) (w : World) : Prop :=
  NEW T.t_i_Network #[n_0.v, n_1.v, n_2.v] w fun (p_n : Addr) w1 =>
  LD [.sl] (p_n.add 0) w1 fun (x10 : Sl) =>
  cond ((l.len : Int) != x10.len) (
  Q false w1) (
  ∃ (I4 : Int → World → Prop) (m4 : Int → World → Nat), I4 0 w1 ∧ ∀ (x15 : Int) w2, I4 x15 w2 → ∀ _ _ _ _ _ _ _ _ _ _ _ _ _ _ _ _ _ : Value,
  cond (decide ((x15 : Int) < l.len)) (
  IX l x15 1 fun (px18 : Addr) =>
  LD [.sl] px18 w2 fun (x19 : Sl) =>
  LD [.sl] (p_n.add 0) w2 fun (x23 : Sl) =>
  IX x23 x15 1 fun (px25 : Addr) =>
  LD [.sl] px25 w2 fun (x26 : Sl) =>
  cond ((x19.len : Int) != x26.len) (
  Q false w2) (
  I4 (IntKind.i64.wrap (x15 + 1)) w2 ∧ m4 (IntKind.i64.wrap (x15 + 1)) w2 < m4 x15 w2)) (
  Q true w2))

theorem C_i_portsOk {Q : Bool → World → Prop} {n_0 : Sl} {n_1 : Sl} {n_2 : Sl} {l : Sl} {w : World} (h : V_i_portsOk Q n_0 n_1 n_2 l w) : Calls Tryz.prog F.i_portsOk #[.agg #[n_0.v, n_1.v, n_2.v], l.v] w (Ret [.at .bool] Q) :=
  mkC (hint := hint) (ann := annOf [(4, ⟨[(15, .int .i64)], [4, 5, 6, 16, 17, 18, 19, 20, 21, 22, 23, 24, 25, 26, 27, 28, 29]⟩)]) (args := [.agg #[n_0.v, n_1.v, n_2.v], l.v]) (rs := [.at .bool]) Tryz.func55 (by kernel_rfl) (by kernel_rfl) h

def V_i_isLabeling_1 (Q : Bool → World → Prop) (labels : Sl) (cap0 : Addr) (w : World) : Prop :=
  LD [.int .i64, .int .i64, .sl, .sl] cap0 w fun (x4_0 : Int) (x4_1 : Int) (x4_2 : Sl) (x4_3 : Sl) =>
  Calls Tryz.prog F.i_Problem_hasLabels #[.agg #[.int .i64 x4_0, .int .i64 x4_1, x4_2.v, x4_3.v], labels.v] w (Ret [.at .bool] fun (x6 : Bool) w1 =>
  Q (!x6) w1)

theorem C_i_isLabeling_1 {Q : Bool → World → Prop} {labels : Sl} {cap0 : Addr} {w : World} (h : V_i_isLabeling_1 Q labels cap0 w) : Calls Tryz.prog F.i_isLabeling_1 #[labels.v, .pointer (some cap0)] w (Ret [.at .bool] Q) :=
  mkC (hint := hint) (ann := annOf []) (args := [labels.v, .pointer (some cap0)]) (rs := [.at .bool]) Tryz.func56 (by kernel_rfl) (by kernel_rfl) h

def V_l_eqEndS (Q : Bool → World → Prop) (a : Sl) (b : Sl) (w : World) : Prop :=
  cond ((a.len : Int) != b.len) (
  Q false w) (
  ∃ (I4 : Int → World → Prop) (m4 : Int → World → Nat), I4 0 w ∧ ∀ (i : Int) w1, I4 i w1 → ∀ _ _ _ _ _ _ _ _ _ _ _ _ _ _ _ _ _ : Value,
  cond (decide ((i : Int) < a.len)) (
  IX a i 2 fun (px19 : Addr) =>
  LD [.int .i64, .int .i64] px19 w1 fun (x20_0 : Int) (x20_1 : Int) =>
  IX b i 2 fun (px23 : Addr) =>
  LD [.int .i64, .int .i64] px23 w1 fun (x24_0 : Int) (x24_1 : Int) =>
  QCALL Tryz.prog F.l_eqEnd #[.agg #[.int .i64 x20_0, .int .i64 x20_1], .agg #[.int .i64 x24_0, .int .i64 x24_1]] w1 [.at .bool] fun (x25 : Bool) =>
  ∀ w2, Ext w1 w2 →
  cond (!x25) (
  Q false w2) (
  I4 (IntKind.i64.wrap (i + 1)) w2 ∧ m4 (IntKind.i64.wrap (i + 1)) w2 < m4 i w1)) (
  Q true w1))

theorem C_l_eqEndS {Q : Bool → World → Prop} {a : Sl} {b : Sl} {w : World} (h : V_l_eqEndS Q a b w) : Calls Tryz.prog F.l_eqEndS #[a.v, b.v] w (Ret [.at .bool] Q) :=
  mkC (hint := hint) (ann := annOf [(4, ⟨[(5, .int .i64)], [4, 11, 12, 13, 14, 15, 16, 17, 18, 19, 20, 21, 22, 23, 24, 25, 26]⟩)]) (args := [a.v, b.v]) (rs := [.at .bool]) Tryz.func57 (by kernel_rfl) (by kernel_rfl) h

def V_l_markEndS (Q : Int → World → Prop) (a : Sl) (k : Int) (w : World) : Prop :=
  ∃ (I2 : Int → Int → World → Prop) (m2 : Int → Int → World → Nat), I2 k 0 w ∧ ∀ (k_2 : Int) (i : Int) w1, I2 k_2 i w1 → ∀ _ _ _ _ _ _ _ _ _ _ _ _ _ _ _ _ _ _ _ _ : Value,
  cond (decide ((i : Int) < a.len)) (
  IX a i 2 fun (px15 : Addr) =>
  ST (px15.add 0) 0 [.int .i64 k_2] w1 fun w2 =>
  IX a i 2 fun (px22 : Addr) =>
  ST (px22.add 1) 0 [.int .i64 (IntKind.i64.wrap (k_2 + 1))] w2 fun w3 =>
  I2 (IntKind.i64.wrap ((IntKind.i64.wrap (k_2 + 1)) + 1)) (IntKind.i64.wrap (i + 1)) w3 ∧ m2 (IntKind.i64.wrap ((IntKind.i64.wrap (k_2 + 1)) + 1)) (IntKind.i64.wrap (i + 1)) w3 < m2 k_2 i w1) (
  Q k_2 w1)

theorem C_l_markEndS {Q : Int → World → Prop} {a : Sl} {k : Int} {w : World} (h : V_l_markEndS Q a k w) : Calls Tryz.prog F.l_markEndS #[a.v, .int .i64 k] w (Ret [.at (.int .i64)] Q) :=
  mkC (hint := hint) (ann := annOf [(2, ⟨[(1, .int .i64), (5, .int .i64)], [6, 7, 8, 9, 10, 11, 12, 13, 14, 15, 16, 17, 18, 19, 20, 21, 22, 23, 24, 25]⟩)]) (args := [a.v, .int .i64 k]) (rs := [.at (.int .i64)]) Tryz.func58 (by kernel_rfl) (by kernel_rfl) h

def V_s_l1In (Q : Bool → World → Prop) (n : Int) (lo : Int) (hi : Int) (w : World) : Prop :=
  cond (decide ((n : Int) ≥ lo)) (
  Q (decide ((n : Int) ≤ hi)) w) (
  Q false w)

theorem C_s_l1In {Q : Bool → World → Prop} {n : Int} {lo : Int} {hi : Int} {w : World} (h : V_s_l1In Q n lo hi w) : Calls Tryz.prog F.s_l1In #[.int .i64 n, .int .i64 lo, .int .i64 hi] w (Ret [.at .bool] Q) :=
  mkC (hint := hint) (ann := annOf []) (args := [.int .i64 n, .int .i64 lo, .int .i64 hi]) (rs := [.at .bool]) Tryz.func59 (by kernel_rfl) (by kernel_rfl) h

def V_s_prLists_k4 (I2 : Int → World → Prop) (m2 : Int → World → Nat) (x12 : Int) (w1 : World) (size1 : Int) (Q : Bool → World → Prop) (x16 : Sl) (w4 : World) : Prop :=
  ∃ (I7 : Int → World → Prop) (m7 : Int → World → Nat), I7 1 w4 ∧ ∀ (k : Int) w5, I7 k w5 → ∀ _ _ _ _ _ _ _ _ _ _ _ _ _ _ _ _ : Value,
  cond (decide ((k : Int) < size1)) (
  IX x16 (IntKind.i64.wrap (k - 1)) 1 fun (px50 : Addr) =>
  LD [.int .i64] px50 w5 fun (x51 : Int) =>
  IX x16 k 1 fun (px54 : Addr) =>
  LD [.int .i64] px54 w5 fun (x55 : Int) =>
  ∀ w6, Ext w5 w6 →
  cond (decide ((x51 : Int) > x55)) (
  Q false w6) (
  I7 (IntKind.i64.wrap (k + 1)) w6 ∧ m7 (IntKind.i64.wrap (k + 1)) w6 < m7 k w5)) (
  I2 (IntKind.i64.wrap (x12 + 1)) w5 ∧ m2 (IntKind.i64.wrap (x12 + 1)) w5 < m2 x12 w1)

def V_s_prLists (Q : Bool → World → Prop) (l : Sl) (size1 : Int) (labels : Int) (w : World) : Prop :=
  ∃ (I2 : Int → World → Prop) (m2 : Int → World → Nat), I2 0 w ∧ ∀ (x12 : Int) w1, I2 x12 w1 → ∀ _ _ _ _ _ _ _ _ _ _ _ _ _ _ _ _ _ _ _ _ _ _ _ _ _ _ _ _ _ _ _ _ _ _ _ _ _ _ _ _ _ _ _ _ _ _ _ _ _ : Value,
  cond (decide ((x12 : Int) < l.len)) (
  IX l x12 1 fun (px15 : Addr) =>
  LD [.sl] px15 w1 fun (x16 : Sl) =>
  cond ((x16.len : Int) != size1) (
  Q false w1) (
  Calls Tryz.prog F.s_l1All #[x16.v, .int .i64 0, .int .i64 (IntKind.i64.wrap (labels - 1))] w1 (Ret [.at .bool] fun (x25 : Bool) w2 =>
  cond (!x25) (
  Q false w2) (
  cond (decide ((x12 : Int) > 0)) (
  IX l (IntKind.i64.wrap (x12 - 1)) 1 fun (px35 : Addr) =>
  LD [.sl] px35 w2 fun (x36 : Sl) =>
  Calls Tryz.prog F.s_prOrder #[x36.v, x16.v] w2 (Ret [.at (.int .i64)] fun (x38 : Int) w3 =>
  cond (decide ((x38 : Int) ≥ 0)) (
  Q false w3) (
  V_s_prLists_k4 I2 m2 x12 w1 size1 Q x16 w3))) (
  V_s_prLists_k4 I2 m2 x12 w1 size1 Q x16 w2))))) (
  Q true w1)

theorem C_s_prLists {Q : Bool → World → Prop} {l : Sl} {size1 : Int} {labels : Int} {w : World} (h : V_s_prLists Q l size1 labels w) : Calls Tryz.prog F.s_prLists #[l.v, .int .i64 size1, .int .i64 labels] w (Ret [.at .bool] Q) :=
  mkC (hint := hint) (ann := annOf [(2, ⟨[(12, .int .i64)], [6, 7, 8, 9, 13, 14, 15, 16, 17, 18, 19, 20, 21, 22, 23, 24, 25, 26, 27, 28, 29, 30, 31, 32, 33, 34, 35, 36, 37, 38, 39, 40, 41, 42, 43, 44, 45, 46, 47, 48, 49, 50, 51, 52, 53, 54, 55, 56, 57]⟩), (7, ⟨[(9, .int .i64)], [6, 42, 43, 44, 45, 46, 47, 48, 49, 50, 51, 52, 53, 54, 55, 56]⟩)]) (args := [l.v, .int .i64 size1, .int .i64 labels]) (rs := [.at .bool]) Tryz.func60 (by kernel_rfl) (by kernel_rfl) h

def V_s_prHas (Q : Bool → World → Prop) (l : Sl) (x : Sl) (w : World) : Prop :=
  ∃ (I2 : Int → World → Prop) (m2 : Int → World → Nat), I2 0 w ∧ ∀ (x9 : Int) w1, I2 x9 w1 → ∀ _ _ _ _ _ _ _ _ _ : Value,
  cond (decide ((x9 : Int) < l.len)) (
  IX l x9 1 fun (px11 : Addr) =>
  LD [.sl] px11 w1 fun (x12 : Sl) =>
  Calls Tryz.prog F.s_l1Same #[x.v, x12.v] w1 (Ret [.at .bool] fun (x15 : Bool) w2 =>
  cond x15 (
  Q true w2) (
  I2 (IntKind.i64.wrap (x9 + 1)) w2 ∧ m2 (IntKind.i64.wrap (x9 + 1)) w2 < m2 x9 w1))) (
  Q false w1)

theorem C_s_prHas {Q : Bool → World → Prop} {l : Sl} {x : Sl} {w : World} (h : V_s_prHas Q l x w) : Calls Tryz.prog F.s_prHas #[l.v, x.v] w (Ret [.at .bool] Q) :=
  mkC (hint := hint) (ann := annOf [(2, ⟨[(9, .int .i64)], [4, 6, 10, 11, 12, 13, 14, 15, 16]⟩)]) (args := [l.v, x.v]) (rs := [.at .bool]) Tryz.func61 (by kernel_rfl) (by kernel_rfl) h

def V_s_prSorted (Q : Sl → World → Prop) (l : Sl) (w : World) : Prop :=
  Calls Tryz.prog F.s_l1Own #[l.v] w (Ret [.at .sl] fun (x8 : Sl) w1 =>
  ∃ (I3 : Int → World → Prop) (m3 : Int → World → Nat), I3 0 w1 ∧ ∀ (x11 : Int) w2, I3 x11 w2 → ∀ _ _ _ _ _ _ _ _ _ _ _ _ _ _ _ _ _ _ _ _ _ _ _ _ _ _ _ _ _ _ _ _ _ _ _ _ _ _ _ _ : Value,
  cond (decide ((x11 : Int) < x8.len)) (
  ∃ (I6 : Int → World → Prop) (m6 : Int → World → Nat), I6 x11 w2 ∧ ∀ (k : Int) w3, I6 k w3 → ∀ _ _ _ _ _ _ _ _ _ _ _ _ _ _ _ _ _ _ _ _ _ _ _ _ _ _ _ _ _ _ _ _ _ _ : Value,
  cond (decide ((k : Int) > 0)) (
  IX x8 (IntKind.i64.wrap (k - 1)) 1 fun (px21 : Addr) =>
  LD [.int .i64] px21 w3 fun (x22 : Int) =>
  IX x8 k 1 fun (px25 : Addr) =>
  LD [.int .i64] px25 w3 fun (x26 : Int) =>
  ∀ w4, Ext w3 w4 →
  cond (decide ((x22 : Int) > x26)) (
  IX x8 k 1 fun (px33_2 : Addr) =>
  LD [.int .i64] px33_2 w4 fun (x34_2 : Int) =>
  IX x8 (IntKind.i64.wrap (k - 1)) 1 fun (px40_2 : Addr) =>
  LD [.int .i64] px40_2 w4 fun (x41_2 : Int) =>
  IX x8 k 1 fun (px42_2 : Addr) =>
  ST px42_2 0 [.int .i64 x41_2] w4 fun w8 =>
  IX x8 (IntKind.i64.wrap (k - 1)) 1 fun (px47_2 : Addr) =>
  ST px47_2 0 [.int .i64 x34_2] w8 fun w9 =>
  I6 (IntKind.i64.wrap (k - 1)) w9 ∧ m6 (IntKind.i64.wrap (k - 1)) w9 < m6 k w3) (
  I3 (IntKind.i64.wrap (x11 + 1)) w4 ∧ m3 (IntKind.i64.wrap (x11 + 1)) w4 < m3 x11 w2)) (
  ∀ w5, Ext w3 w5 →
  I3 (IntKind.i64.wrap (x11 + 1)) w5 ∧ m3 (IntKind.i64.wrap (x11 + 1)) w5 < m3 x11 w2)) (
  Q x8 w2))

theorem C_s_prSorted {Q : Sl → World → Prop} {l : Sl} {w : World} (h : V_s_prSorted Q l w) : Calls Tryz.prog F.s_prSorted #[l.v] w (Ret [.at .sl] Q) :=
  mkC (hint := hint) (ann := annOf [(3, ⟨[(11, .int .i64)], [4, 5, 6, 12, 13, 14, 15, 16, 17, 18, 19, 20, 21, 22, 23, 24, 25, 26, 27, 28, 29, 30, 31, 32, 33, 34, 35, 36, 37, 38, 39, 40, 41, 42, 43, 44, 45, 46, 47, 48]⟩), (6, ⟨[(5, .int .i64)], [6, 15, 16, 17, 18, 19, 20, 21, 22, 23, 24, 25, 26, 27, 28, 29, 30, 31, 32, 33, 34, 35, 36, 37, 38, 39, 40, 41, 42, 43, 44, 45, 46, 47]⟩)]) (args := [l.v]) (rs := [.at .sl]) Tryz.func62 (by kernel_rfl) (by kernel_rfl) h

def V_s_neIds (Q : Bool → World → Prop) (ids : Sl) (nodes : Int) (w : World) : Prop :=
  ∃ (I2 : Int → World → Prop) (m2 : Int → World → Nat), I2 0 w ∧ ∀ (x9 : Int) w1, I2 x9 w1 → ∀ _ _ _ _ _ _ _ _ _ _ _ _ _ _ _ _ _ _ : Value,
  cond (decide ((x9 : Int) < ids.len)) (
  IX ids x9 1 fun (px12 : Addr) =>
  LD [.int .i64] px12 w1 fun (x13 : Int) =>
  Calls Tryz.prog F.s_l1In #[.int .i64 x13, .int .i64 1, .int .i64 999999] w1 (Ret [.at .bool] fun (x15 : Bool) w2 =>
  cond (!x15) (
  Q false w2) (
  SLC ids none (some x9) 1 fun (x20 : Sl) =>
  Calls Tryz.prog F.s_l1Has #[x20.v, .int .i64 x13] w2 (Ret [.at .bool] fun (x22 : Bool) w3 =>
  cond x22 (
  Q false w3) (
  I2 (IntKind.i64.wrap (x9 + 1)) w3 ∧ m2 (IntKind.i64.wrap (x9 + 1)) w3 < m2 x9 w1))))) (
  cond ((ids.len : Int) == 0) (
  Q true w1) (
  Q ((ids.len : Int) == nodes) w1))

theorem C_s_neIds {Q : Bool → World → Prop} {ids : Sl} {nodes : Int} {w : World} (h : V_s_neIds Q ids nodes w) : Calls Tryz.prog F.s_neIds #[ids.v, .int .i64 nodes] w (Ret [.at .bool] Q) :=
  mkC (hint := hint) (ann := annOf [(2, ⟨[(9, .int .i64)], [4, 5, 6, 10, 11, 12, 13, 14, 15, 16, 17, 18, 19, 20, 21, 22, 23, 24]⟩)]) (args := [ids.v, .int .i64 nodes]) (rs := [.at .bool]) Tryz.func63 (by kernel_rfl) (by kernel_rfl) h

def V_l_toEnd (Q : Int → Int → World → Prop) (a_0 : Int) (a_1 : Int) (w : World) : Prop :=
  NEW T.t_l_End #[.int .i64 a_0, .int .i64 a_1] w fun (p_a : Addr) w1 =>
  NEW T.t_i_End #[.int .i64 0, .int .i64 0] w1 fun (px2 : Addr) w2 =>
  NEW T.t_i_End #[.int .i64 0, .int .i64 0] w2 fun (p_out : Addr) w3 =>
  LD [.int .i64] (p_a.add 0) w3 fun (x5 : Int) =>
  ST (p_out.add 0) 0 [.int .i64 x5] w3 fun w4 =>
  LD [.int .i64] (p_a.add 1) w4 fun (x8 : Int) =>
  ST (p_out.add 1) 0 [.int .i64 x8] w4 fun w5 =>
  LD [.int .i64, .int .i64] p_out w5 fun (x10_0 : Int) (x10_1 : Int) =>
  ST px2 0 [.int .i64 x10_0, .int .i64 x10_1] w5 fun w6 =>
  LD [.int .i64, .int .i64] px2 w6 fun (r0_0 : Int) (r0_1 : Int) =>
  Q r0_0 r0_1 w6

theorem C_l_toEnd {Q : Int → Int → World → Prop} {a_0 : Int} {a_1 : Int} {w : World} (h : V_l_toEnd Q a_0 a_1 w) : Calls Tryz.prog F.l_toEnd #[.agg #[.int .i64 a_0, .int .i64 a_1]] w (Ret [.agg [.int .i64, .int .i64]] Q) :=
  mkC (hint := hint) (ann := annOf []) (args := [.agg #[.int .i64 a_0, .int .i64 a_1]]) (rs := [.agg [.int .i64, .int .i64]]) Tryz.func64 (by kernel_rfl) (by kernel_rfl) h

def V_i_configurationsOk (Q : Bool → World → Prop) (list : Sl) (size1 : Int) (labels : Int) (w : World) : Prop :=
  ∃ (I2 : Int → World → Prop) (m2 : Int → World → Nat), I2 0 w ∧ ∀ (x11 : Int) w1, I2 x11 w1 → ∀ _ _ _ _ _ _ _ _ _ _ _ _ _ _ _ _ _ _ _ _ _ _ _ _ _ _ _ _ _ _ _ _ _ _ _ _ _ _ : Value,
  cond (decide ((x11 : Int) < list.len)) (
  IX list x11 1 fun (px14 : Addr) =>
  LD [.sl] px14 w1 fun (x15 : Sl) =>
  cond ((x15.len : Int) != size1) (
  Q false w1) (
  Calls Tryz.prog F.slices_IsSorted_sl_int_int #[x15.v] w1 (Ret [.at .bool] fun (x22 : Bool) w2 =>
  cond (!x22) (
  Q false w2) (
  Calls Tryz.prog F.i_allWithin #[x15.v, .int .i64 0, .int .i64 (IntKind.i64.wrap (labels - 1))] w2 (Ret [.at .bool] fun (x29 : Bool) w3 =>
  cond (!x29) (
  Q false w3) (
  cond (decide ((x11 : Int) > 0)) (
  IX list (IntKind.i64.wrap (x11 - 1)) 1 fun (px39 : Addr) =>
  LD [.sl] px39 w3 fun (x40 : Sl) =>
  Calls Tryz.prog F.slices_Compare_sl_int_int #[x40.v, x15.v] w3 (Ret [.at (.int .i64)] fun (x42 : Int) w4 =>
  cond (decide ((x42 : Int) ≥ 0)) (
  Q false w4) (
  I2 (IntKind.i64.wrap (x11 + 1)) w4 ∧ m2 (IntKind.i64.wrap (x11 + 1)) w4 < m2 x11 w1))) (
  I2 (IntKind.i64.wrap (x11 + 1)) w3 ∧ m2 (IntKind.i64.wrap (x11 + 1)) w3 < m2 x11 w1))))))) (
  Q true w1)

theorem C_i_configurationsOk {Q : Bool → World → Prop} {list : Sl} {size1 : Int} {labels : Int} {w : World} (h : V_i_configurationsOk Q list size1 labels w) : Calls Tryz.prog F.i_configurationsOk #[list.v, .int .i64 size1, .int .i64 labels] w (Ret [.at .bool] Q) :=
  mkC (hint := hint) (ann := annOf [(2, ⟨[(11, .int .i64)], [6, 7, 8, 12, 13, 14, 15, 16, 17, 18, 19, 20, 21, 22, 23, 24, 25, 26, 27, 28, 29, 30, 31, 32, 33, 34, 35, 36, 37, 38, 39, 40, 41, 42, 43, 44, 45, 46]⟩)]) (args := [list.v, .int .i64 size1, .int .i64 labels]) (rs := [.at .bool]) Tryz.func65 (by kernel_rfl) (by kernel_rfl) h

def V_i_allWithin (Q : Bool → World → Prop) (list : Sl) (low : Int) (high : Int) (w : World) : Prop :=
  NEW T.t_int #[.int .i64 low] w fun (p_low : Addr) w1 =>
  NEW T.t_int #[.int .i64 high] w1 fun (p_high : Addr) w2 =>
  Calls Tryz.prog F.slices_ContainsFunc_sl_int_int #[list.v, .func (.func F.i_allWithin_1) #[] #[.pointer (some p_low), .pointer (some p_high)]] w2 (Ret [.at .bool] fun (x9 : Bool) w3 =>
  Q (!x9) w3)

theorem C_i_allWithin {Q : Bool → World → Prop} {list : Sl} {low : Int} {high : Int} {w : World} (h : V_i_allWithin Q list low high w) : Calls Tryz.prog F.i_allWithin #[list.v, .int .i64 low, .int .i64 high] w (Ret [.at .bool] Q) :=
  mkC (hint := hint) (ann := annOf []) (args := [list.v, .int .i64 low, .int .i64 high]) (rs := [.at .bool]) Tryz.func66 (by kernel_rfl) (by kernel_rfl) h

def V_i_hasConfiguration (Q : Bool → World → Prop) (list : Sl) (labels : Sl) (w : World) : Prop :=
  Calls Tryz.prog F.slices_Values_sl_int_int #[labels.v] w (Ret [.at .val] fun (x10 : Value) w1 =>
  Calls Tryz.prog F.slices_Sorted_int #[x10] w1 (Ret [.at .sl] fun (x11 : Sl) w2 =>
  Calls Tryz.prog F.slices_BinarySearchFunc_sl_sl_int_sl_int_sl_int #[list.v, x11.v, .func (.func F.slices_Compare_sl_int_int) #[] #[]] w2 (Ret [.at (.int .i64), .at .bool] fun (x12_0 : Int) (x12_1 : Bool) w3 =>
  Q x12_1 w3)))

theorem C_i_hasConfiguration {Q : Bool → World → Prop} {list : Sl} {labels : Sl} {w : World} (h : V_i_hasConfiguration Q list labels w) : Calls Tryz.prog F.i_hasConfiguration #[list.v, labels.v] w (Ret [.at .bool] Q) :=
  mkC (hint := hint) (ann := annOf []) (args := [list.v, labels.v]) (rs := [.at .bool]) Tryz.func67 (by kernel_rfl) (by kernel_rfl) h

def V_slices_IndexFunc_sl_sl_int_sl_int (Q : Int → World → Prop) (s : Sl) (f : Value) (w : World) : Prop :=
  ∃ (I2 : Int → World → Prop) (m2 : Int → World → Nat), I2 0 w ∧ ∀ (x8 : Int) w1, I2 x8 w1 → ∀ _ _ _ _ _ _ _ _ _ _ _ _ : Value,
  cond (decide ((x8 : Int) < s.len)) (
  IX s x8 1 fun (px14 : Addr) =>
  LD [.sl] px14 w1 fun (x15 : Sl) =>
  CALLV Tryz.prog f #[x15.v] w1 (Ret [.at .bool] fun (x16 : Bool) w2 =>
  cond x16 (
  Q x8 w2) (
  I2 (IntKind.i64.wrap (x8 + 1)) w2 ∧ m2 (IntKind.i64.wrap (x8 + 1)) w2 < m2 x8 w1))) (
  Q (-1) w1)

theorem C_slices_IndexFunc_sl_sl_int_sl_int {Q : Int → World → Prop} {s : Sl} {f : Value} {w : World} (h : V_slices_IndexFunc_sl_sl_int_sl_int Q s f w) : Calls Tryz.prog F.slices_IndexFunc_sl_sl_int_sl_int #[s.v, f] w (Ret [.at (.int .i64)] Q) :=
  mkC (hint := hint) (ann := annOf [(2, ⟨[(8, .int .i64)], [4, 5, 9, 10, 11, 12, 13, 14, 15, 16, 17, 18]⟩)]) (args := [s.v, f]) (rs := [.at (.int .i64)]) Tryz.func68 (by kernel_rfl) (by kernel_rfl) h

def V_slices_Clone_sl_int_int (Q : Sl → World → Prop) (s : Sl) (w : World) : Prop :=
  cond s.a.isNone (
  Q (⟨none, 0, 0⟩) w) (
  RUN Tryz.prog (.at .sl) (Instr.buildSlice T.t_sl_int 0 #[]) w fun (x5 : Sl) w1 =>
  RUN Tryz.prog (.at .sl) (bsem .append #[T.t_sl_int, T.t_sl_int] T.t_sl_int #[x5.v, s.v]) w1 fun (x7 : Sl) w2 =>
  Q x7 w2)

theorem C_slices_Clone_sl_int_int {Q : Sl → World → Prop} {s : Sl} {w : World} (h : V_slices_Clone_sl_int_int Q s w) : Calls Tryz.prog F.slices_Clone_sl_int_int #[s.v] w (Ret [.at .sl] Q) :=
  mkC (hint := hint) (ann := annOf []) (args := [s.v]) (rs := [.at .sl]) Tryz.func69 (by kernel_rfl) (by kernel_rfl) h

def V_i_increasing (Q : Bool → World → Prop) (list : Sl) (low : Int) (high : Int) (w : World) : Prop :=
  ∃ (I2 : Int → World → Prop) (m2 : Int → World → Nat), I2 0 w ∧ ∀ (x11 : Int) w1, I2 x11 w1 → ∀ _ _ _ _ _ _ _ _ _ _ _ _ _ _ _ _ _ _ _ _ _ _ _ _ _ _ : Value,
  cond (decide ((x11 : Int) < list.len)) (
  IX list x11 1 fun (px14 : Addr) =>
  LD [.int .i64] px14 w1 fun (x15 : Int) =>
  Calls Tryz.prog F.i_within #[.int .i64 x15, .int .i64 low, .int .i64 high] w1 (Ret [.at .bool] fun (x19 : Bool) w2 =>
  cond (!x19) (
  Q false w2) (
  cond (decide ((x11 : Int) > 0)) (
  IX list (IntKind.i64.wrap (x11 - 1)) 1 fun (px28 : Addr) =>
  LD [.int .i64] px28 w2 fun (x29 : Int) =>
  cond (decide ((x29 : Int) ≥ x15)) (
  Q false w2) (
  I2 (IntKind.i64.wrap (x11 + 1)) w2 ∧ m2 (IntKind.i64.wrap (x11 + 1)) w2 < m2 x11 w1)) (
  I2 (IntKind.i64.wrap (x11 + 1)) w2 ∧ m2 (IntKind.i64.wrap (x11 + 1)) w2 < m2 x11 w1)))) (
  Q true w1)

theorem C_i_increasing {Q : Bool → World → Prop} {list : Sl} {low : Int} {high : Int} {w : World} (h : V_i_increasing Q list low high w) : Calls Tryz.prog F.i_increasing #[list.v, .int .i64 low, .int .i64 high] w (Ret [.at .bool] Q) :=
  mkC (hint := hint) (ann := annOf [(2, ⟨[(11, .int .i64)], [6, 7, 8, 12, 13, 14, 15, 16, 17, 18, 19, 20, 21, 22, 23, 24, 25, 26, 27, 28, 29, 30, 31, 32, 33, 34]⟩)]) (args := [list.v, .int .i64 low, .int .i64 high]) (rs := [.at .bool]) Tryz.func71 (by kernel_rfl) (by kernel_rfl) h

def V_i_Network_hasNode (Q : Bool → World → Prop) (n_0 : Sl) (n_1 : Sl) (n_2 : Sl) (v : Int) (w : World) : Prop :=
  NEW T.t_i_Network #[n_0.v, n_1.v, n_2.v] w fun (p_n : Addr) w1 =>
  LD [.sl] (p_n.add 0) w1 fun (x7 : Sl) =>
  Calls Tryz.prog F.i_within #[.int .i64 v, .int .i64 0, .int .i64 (IntKind.i64.wrap (x7.len - 1))] w1 (Ret [.at .bool] fun (x10 : Bool) w2 =>
  Q x10 w2)

theorem C_i_Network_hasNode {Q : Bool → World → Prop} {n_0 : Sl} {n_1 : Sl} {n_2 : Sl} {v : Int} {w : World} (h : V_i_Network_hasNode Q n_0 n_1 n_2 v w) : Calls Tryz.prog F.i_Network_hasNode #[.agg #[n_0.v, n_1.v, n_2.v], .int .i64 v] w (Ret [.at .bool] Q) :=
  mkC (hint := hint) (ann := annOf []) (args := [.agg #[n_0.v, n_1.v, n_2.v], .int .i64 v]) (rs := [.at .bool]) Tryz.func72 (by kernel_rfl) (by kernel_rfl) h

def V_l_eqEnd (Q : Bool → World → Prop) (a_0 : Int) (a_1 : Int) (b_0 : Int) (b_1 : Int) (w : World) : Prop :=
  NEW T.t_i_End #[.int .i64 a_0, .int .i64 a_1] w fun (p_a : Addr) w1 =>
  NEW T.t_i_End #[.int .i64 b_0, .int .i64 b_1] w1 fun (p_b : Addr) w2 =>
  LD [.int .i64] (p_a.add 0) w2 fun (x6 : Int) =>
  LD [.int .i64] (p_b.add 0) w2 fun (x8 : Int) =>
  cond ((x6 : Int) != x8) (
  Q false w2) (
  LD [.int .i64] (p_a.add 1) w2 fun (x11 : Int) =>
  LD [.int .i64] (p_b.add 1) w2 fun (x13 : Int) =>
  cond ((x11 : Int) != x13) (
  Q false w2) (
  Q true w2))

theorem C_l_eqEnd {Q : Bool → World → Prop} {a_0 : Int} {a_1 : Int} {b_0 : Int} {b_1 : Int} {w : World} (h : V_l_eqEnd Q a_0 a_1 b_0 b_1 w) : Calls Tryz.prog F.l_eqEnd #[.agg #[.int .i64 a_0, .int .i64 a_1], .agg #[.int .i64 b_0, .int .i64 b_1]] w (Ret [.at .bool] Q) :=
  mkC (hint := hint) (ann := annOf []) (args := [.agg #[.int .i64 a_0, .int .i64 a_1], .agg #[.int .i64 b_0, .int .i64 b_1]]) (rs := [.at .bool]) Tryz.func73 (by kernel_rfl) (by kernel_rfl) h

def V_s_prOrder (Q : Int → World → Prop) (a : Sl) (b : Sl) (w : World) : Prop :=
  ∃ (I2 : Int → World → Prop) (m2 : Int → World → Nat), I2 0 w ∧ ∀ (x9 : Int) w1, I2 x9 w1 → ∀ _ _ _ _ _ _ _ _ _ _ _ _ _ _ _ _ _ _ _ _ _ : Value,
  cond (decide ((x9 : Int) < a.len)) (
  IX a x9 1 fun (px12 : Addr) =>
  LD [.int .i64] px12 w1 fun (x13 : Int) =>
  IX b x9 1 fun (px17 : Addr) =>
  LD [.int .i64] px17 w1 fun (x18 : Int) =>
  cond ((x13 : Int) != x18) (
  IX b x9 1 fun (px23 : Addr) =>
  LD [.int .i64] px23 w1 fun (x24 : Int) =>
  Calls Tryz.prog F.s_l1Sign #[.int .i64 (IntKind.i64.wrap (x13 - x24))] w1 (Ret [.at (.int .i64)] fun (x26 : Int) w2 =>
  Q x26 w2)) (
  I2 (IntKind.i64.wrap (x9 + 1)) w1 ∧ m2 (IntKind.i64.wrap (x9 + 1)) w1 < m2 x9 w1)) (
  Q 0 w1)

theorem C_s_prOrder {Q : Int → World → Prop} {a : Sl} {b : Sl} {w : World} (h : V_s_prOrder Q a b w) : Calls Tryz.prog F.s_prOrder #[a.v, b.v] w (Ret [.at (.int .i64)] Q) :=
  mkC (hint := hint) (ann := annOf [(2, ⟨[(9, .int .i64)], [4, 5, 6, 10, 11, 12, 13, 14, 15, 16, 17, 18, 19, 20, 21, 22, 23, 24, 25, 26, 27]⟩)]) (args := [a.v, b.v]) (rs := [.at (.int .i64)]) Tryz.func74 (by kernel_rfl) (by kernel_rfl) h

def V_s_l1Same (Q : Bool → World → Prop) (a : Sl) (b : Sl) (w : World) : Prop :=
  cond ((a.len : Int) != b.len) (
  Q false w) (
  ∃ (I4 : Int → World → Prop) (m4 : Int → World → Nat), I4 0 w ∧ ∀ (x13 : Int) w1, I4 x13 w1 → ∀ _ _ _ _ _ _ _ _ _ _ _ _ _ _ : Value,
  cond (decide ((x13 : Int) < a.len)) (
  IX a x13 1 fun (px18 : Addr) =>
  LD [.int .i64] px18 w1 fun (x19 : Int) =>
  IX b x13 1 fun (px22 : Addr) =>
  LD [.int .i64] px22 w1 fun (x23 : Int) =>
  ∀ w2, Ext w1 w2 →
  cond ((x19 : Int) != x23) (
  Q false w2) (
  I4 (IntKind.i64.wrap (x13 + 1)) w2 ∧ m4 (IntKind.i64.wrap (x13 + 1)) w2 < m4 x13 w1)) (
  Q true w1))

theorem C_s_l1Same {Q : Bool → World → Prop} {a : Sl} {b : Sl} {w : World} (h : V_s_l1Same Q a b w) : Calls Tryz.prog F.s_l1Same #[a.v, b.v] w (Ret [.at .bool] Q) :=
  mkC (hint := hint) (ann := annOf [(4, ⟨[(13, .int .i64)], [4, 5, 14, 15, 16, 17, 18, 19, 20, 21, 22, 23, 24, 25]⟩)]) (args := [a.v, b.v]) (rs := [.at .bool]) Tryz.func75 (by kernel_rfl) (by kernel_rfl) h

def V_s_l1Own (Q : Sl → World → Prop) (l : Sl) (w : World) : Prop :=
  RUN Tryz.prog (.at .sl) (Instr.buildSlice T.t_sl_int 0 #[]) w fun (x3 : Sl) w1 =>
  RUN Tryz.prog (.at .sl) (bsem .append #[T.t_sl_int, T.t_sl_int] T.t_sl_int #[x3.v, l.v]) w1 fun (x5 : Sl) w2 =>
  Q x5 w2

theorem C_s_l1Own {Q : Sl → World → Prop} {l : Sl} {w : World} (h : V_s_l1Own Q l w) : Calls Tryz.prog F.s_l1Own #[l.v] w (Ret [.at .sl] Q) :=
  mkC (hint := hint) (ann := annOf []) (args := [l.v]) (rs := [.at .sl]) Tryz.func76 (by kernel_rfl) (by kernel_rfl) h

def V_s_l1Has (Q : Bool → World → Prop) (l : Sl) (n : Int) (w : World) : Prop :=
  ∃ (I2 : Int → World → Prop) (m2 : Int → World → Nat), I2 0 w ∧ ∀ (x9 : Int) w1, I2 x9 w1 → ∀ _ _ _ _ _ _ _ _ _ : Value,
  cond (decide ((x9 : Int) < l.len)) (
  IX l x9 1 fun (px11 : Addr) =>
  LD [.int .i64] px11 w1 fun (x12 : Int) =>
  cond ((x12 : Int) == n) (
  Q true w1) (
  I2 (IntKind.i64.wrap (x9 + 1)) w1 ∧ m2 (IntKind.i64.wrap (x9 + 1)) w1 < m2 x9 w1)) (
  Q false w1)

theorem C_s_l1Has {Q : Bool → World → Prop} {l : Sl} {n : Int} {w : World} (h : V_s_l1Has Q l n w) : Calls Tryz.prog F.s_l1Has #[l.v, .int .i64 n] w (Ret [.at .bool] Q) :=
  mkC (hint := hint) (ann := annOf [(2, ⟨[(9, .int .i64)], [4, 6, 10, 11, 12, 13, 14, 15, 16]⟩)]) (args := [l.v, .int .i64 n]) (rs := [.at .bool]) Tryz.func77 (by kernel_rfl) (by kernel_rfl) h

def V_slices_IsSorted_sl_int_int (Q : Bool → World → Prop) (x : Sl) (w : World) : Prop :=
  ∃ (I2 : Int → World → Prop) (m2 : Int → World → Nat), I2 (IntKind.i64.wrap (x.len - 1)) w ∧ ∀ (i : Int) w1, I2 i w1 → ∀ _ _ _ _ _ _ _ _ _ _ _ _ _ _ _ : Value,
  cond (decide ((i : Int) > 0)) (
  IX x i 1 fun (px13 : Addr) =>
  LD [.int .i64] px13 w1 fun (x14 : Int) =>
  IX x (IntKind.i64.wrap (i - 1)) 1 fun (px18 : Addr) =>
  LD [.int .i64] px18 w1 fun (x19 : Int) =>
  QCALL Tryz.prog F.cmp_Less_int #[.int .i64 x14, .int .i64 x19] w1 [.at .bool] fun (x20 : Bool) =>
  ∀ w2, Ext w1 w2 →
  cond x20 (
  Q false w2) (
  I2 (IntKind.i64.wrap (i - 1)) w2 ∧ m2 (IntKind.i64.wrap (i - 1)) w2 < m2 i w1)) (
  Q true w1)

theorem C_slices_IsSorted_sl_int_int {Q : Bool → World → Prop} {x : Sl} {w : World} (h : V_slices_IsSorted_sl_int_int Q x w) : Calls Tryz.prog F.slices_IsSorted_sl_int_int #[x.v] w (Ret [.at .bool] Q) :=
  mkC (hint := hint) (ann := annOf [(2, ⟨[(3, .int .i64)], [2, 7, 8, 9, 10, 11, 12, 13, 14, 15, 16, 17, 18, 19, 20]⟩)]) (args := [x.v]) (rs := [.at .bool]) Tryz.func78 (by kernel_rfl) (by kernel_rfl) h

def V_slices_Compare_sl_int_int (Q : Int → World → Prop) (s1 : Sl) (s2 : Sl) (w : World) : Prop :=
  ∃ (I2 : Int → World → Prop) (m2 : Int → World → Nat), I2 0 w ∧ ∀ (x11 : Int) w1, I2 x11 w1 → ∀ _ _ _ _ _ _ _ _ _ _ _ _ _ _ _ _ _ _ _ _ _ _ _ _ : Value,
  cond (decide ((x11 : Int) < s1.len)) (
  IX s1 x11 1 fun (px14 : Addr) =>
  LD [.int .i64] px14 w1 fun (x15 : Int) =>
  cond (decide ((x11 : Int) ≥ s2.len)) (
  Q 1 w1) (
  IX s2 x11 1 fun (px22 : Addr) =>
  LD [.int .i64] px22 w1 fun (x23 : Int) =>
  Calls Tryz.prog F.cmp_Compare_int #[.int .i64 x15, .int .i64 x23] w1 (Ret [.at (.int .i64)] fun (x26 : Int) w2 =>
  cond ((x26 : Int) != 0) (
  Q x26 w2) (
  I2 (IntKind.i64.wrap (x11 + 1)) w2 ∧ m2 (IntKind.i64.wrap (x11 + 1)) w2 < m2 x11 w1)))) (
  cond (decide ((s1.len : Int) < s2.len)) (
  Q (-1) w1) (
  Q 0 w1))

theorem C_slices_Compare_sl_int_int {Q : Int → World → Prop} {s1 : Sl} {s2 : Sl} {w : World} (h : V_slices_Compare_sl_int_int Q s1 s2 w) : Calls Tryz.prog F.slices_Compare_sl_int_int #[s1.v, s2.v] w (Ret [.at (.int .i64)] Q) :=
  mkC (hint := hint) (ann := annOf [(2, ⟨[(11, .int .i64)], [4, 5, 6, 7, 8, 12, 13, 14, 15, 16, 17, 18, 19, 20, 21, 22, 23, 24, 25, 26, 27, 28, 29, 30]⟩)]) (args := [s1.v, s2.v]) (rs := [.at (.int .i64)]) Tryz.func79 (by kernel_rfl) (by kernel_rfl) h

def V_slices_ContainsFunc_sl_int_int (Q : Bool → World → Prop) (s : Sl) (f : Value) (w : World) : Prop :=
  Calls Tryz.prog F.slices_IndexFunc_sl_int_int #[s.v, f] w (Ret [.at (.int .i64)] fun (x7 : Int) w1 =>
  Q (decide ((x7 : Int) ≥ 0)) w1)

theorem C_slices_ContainsFunc_sl_int_int {Q : Bool → World → Prop} {s : Sl} {f : Value} {w : World} (h : V_slices_ContainsFunc_sl_int_int Q s f w) : Calls Tryz.prog F.slices_ContainsFunc_sl_int_int #[s.v, f] w (Ret [.at .bool] Q) :=
  mkC (hint := hint) (ann := annOf []) (args := [s.v, f]) (rs := [.at .bool]) Tryz.func80 (by kernel_rfl) (by kernel_rfl) h

def V_i_allWithin_1 (Q : Bool → World → Prop) (n : Int) (cap0 : Addr) (cap1 : Addr) (w : World) : Prop :=
  LD [.int .i64] cap0 w fun (x6 : Int) =>
  LD [.int .i64] cap1 w fun (x7 : Int) =>
  Calls Tryz.prog F.i_within #[.int .i64 n, .int .i64 x6, .int .i64 x7] w (Ret [.at .bool] fun (x8 : Bool) w1 =>
  Q (!x8) w1)

theorem C_i_allWithin_1 {Q : Bool → World → Prop} {n : Int} {cap0 : Addr} {cap1 : Addr} {w : World} (h : V_i_allWithin_1 Q n cap0 cap1 w) : Calls Tryz.prog F.i_allWithin_1 #[.int .i64 n, .pointer (some cap0), .pointer (some cap1)] w (Ret [.at .bool] Q) :=
  mkC (hint := hint) (ann := annOf []) (args := [.int .i64 n, .pointer (some cap0), .pointer (some cap1)]) (rs := [.at .bool]) Tryz.func81 (by kernel_rfl) (by kernel_rfl) h

def V_slices_BinarySearchFunc_sl_sl_int_sl_int_sl_int (Q : Int → Bool → World → Prop) (x : Sl) (target : Sl) (cmp : Value) (w : World) : Prop :=
  ∃ (I3 : Int → Int → World → Prop) (m3 : Int → Int → World → Nat), I3 0 x.len w ∧ ∀ (i : Int) (j : Int) w1, I3 i j w1 → ∀ _ _ _ _ _ _ _ _ _ _ _ _ _ _ _ _ _ _ _ _ _ : Value,
  cond (decide ((i : Int) < j)) (
  (0 : Int) ≤ 1 ∧ (
  IX x (IntKind.i64.wrap (shrI .u64 (IntKind.u64.wrap (IntKind.i64.wrap (i + j))) 1)) 1 fun (px27 : Addr) =>
  LD [.sl] px27 w1 fun (x28 : Sl) =>
  CALLV Tryz.prog cmp #[x28.v, target.v] w1 (Ret [.at (.int .i64)] fun (x30 : Int) w2 =>
  cond (decide ((x30 : Int) < 0)) (
  I3 (IntKind.i64.wrap ((IntKind.i64.wrap (shrI .u64 (IntKind.u64.wrap (IntKind.i64.wrap (i + j))) 1)) + 1)) j w2 ∧ m3 (IntKind.i64.wrap ((IntKind.i64.wrap (shrI .u64 (IntKind.u64.wrap (IntKind.i64.wrap (i + j))) 1)) + 1)) j w2 < m3 i j w1) (
  I3 i (IntKind.i64.wrap (shrI .u64 (IntKind.u64.wrap (IntKind.i64.wrap (i + j))) 1)) w2 ∧ m3 i (IntKind.i64.wrap (shrI .u64 (IntKind.u64.wrap (IntKind.i64.wrap (i + j))) 1)) w2 < m3 i j w1)))) (
  cond (decide ((i : Int) < x.len)) (
  IX x i 1 fun (px43 : Addr) =>
  LD [.sl] px43 w1 fun (x44 : Sl) =>
  CALLV Tryz.prog cmp #[x44.v, target.v] w1 (Ret [.at (.int .i64)] fun (x46 : Int) w3 =>
  Q i ((x46 : Int) == 0) w3)) (
  Q i false w1))

theorem C_slices_BinarySearchFunc_sl_sl_int_sl_int_sl_int {Q : Int → Bool → World → Prop} {x : Sl} {target : Sl} {cmp : Value} {w : World} (h : V_slices_BinarySearchFunc_sl_sl_int_sl_int_sl_int Q x target cmp w) : Calls Tryz.prog F.slices_BinarySearchFunc_sl_sl_int_sl_int_sl_int #[x.v, target.v, cmp] w (Ret [.at (.int .i64), .at .bool] Q) :=
  mkC (hint := hint) (ann := annOf [(3, ⟨[(9, .int .i64), (10, .int .i64)], [11, 15, 16, 17, 18, 19, 20, 21, 22, 23, 24, 25, 26, 27, 28, 29, 30, 31, 32, 33, 34]⟩)]) (args := [x.v, target.v, cmp]) (rs := [.at (.int .i64), .at .bool]) Tryz.func82 (by kernel_rfl) (by kernel_rfl) h

def V_slices_Sorted_int (Q : Sl → World → Prop) (seq : Value) (w : World) : Prop :=
  Calls Tryz.prog F.slices_Collect_int #[seq] w (Ret [.at .sl] fun (x5 : Sl) w1 =>
  Calls Tryz.prog F.slices_Sort_sl_int_int #[x5.v] w1 (Ret [] fun w2 =>
  Q x5 w2))

theorem C_slices_Sorted_int {Q : Sl → World → Prop} {seq : Value} {w : World} (h : V_slices_Sorted_int Q seq w) : Calls Tryz.prog F.slices_Sorted_int #[seq] w (Ret [.at .sl] Q) :=
  mkC (hint := hint) (ann := annOf []) (args := [seq]) (rs := [.at .sl]) Tryz.func83 (by kernel_rfl) (by kernel_rfl) h

def V_slices_Values_sl_int_int (Q : Value → World → Prop) (s : Sl) (w : World) : Prop :=
  NEW T.t_sl_int #[s.v] w fun (p_s : Addr) w1 =>
  Q (.func (.func F.slices_Values_sl_int_int_1) #[] #[.pointer (some p_s)]) w1

theorem C_slices_Values_sl_int_int {Q : Value → World → Prop} {s : Sl} {w : World} (h : V_slices_Values_sl_int_int Q s w) : Calls Tryz.prog F.slices_Values_sl_int_int #[s.v] w (Ret [.at .val] Q) :=
  mkC (hint := hint) (ann := annOf []) (args := [s.v]) (rs := [.at .val]) Tryz.func84 (by kernel_rfl) (by kernel_rfl) h

def V_s_l1Sign (Q : Int → World → Prop) (n : Int) (w : World) : Prop :=
  cond (decide ((n : Int) > 0)) (
  Q 1 w) (
  cond (decide ((n : Int) < 0)) (
  Q (-1) w) (
  Q 0 w))

theorem C_s_l1Sign {Q : Int → World → Prop} {n : Int} {w : World} (h : V_s_l1Sign Q n w) : Calls Tryz.prog F.s_l1Sign #[.int .i64 n] w (Ret [.at (.int .i64)] Q) :=
  mkC (hint := hint) (ann := annOf []) (args := [.int .i64 n]) (rs := [.at (.int .i64)]) Tryz.func87 (by kernel_rfl) (by kernel_rfl) h

def V_slices_IndexFunc_sl_int_int (Q : Int → World → Prop) (s : Sl) (f : Value) (w : World) : Prop :=
  ∃ (I2 : Int → World → Prop) (m2 : Int → World → Nat), I2 0 w ∧ ∀ (x8 : Int) w1, I2 x8 w1 → ∀ _ _ _ _ _ _ _ _ _ _ _ _ : Value,
  cond (decide ((x8 : Int) < s.len)) (
  IX s x8 1 fun (px14 : Addr) =>
  LD [.int .i64] px14 w1 fun (x15 : Int) =>
  CALLV Tryz.prog f #[.int .i64 x15] w1 (Ret [.at .bool] fun (x16 : Bool) w2 =>
  cond x16 (
  Q x8 w2) (
  I2 (IntKind.i64.wrap (x8 + 1)) w2 ∧ m2 (IntKind.i64.wrap (x8 + 1)) w2 < m2 x8 w1))) (
  Q (-1) w1)

theorem C_slices_IndexFunc_sl_int_int {Q : Int → World → Prop} {s : Sl} {f : Value} {w : World} (h : V_slices_IndexFunc_sl_int_int Q s f w) : Calls Tryz.prog F.slices_IndexFunc_sl_int_int #[s.v, f] w (Ret [.at (.int .i64)] Q) :=
  mkC (hint := hint) (ann := annOf [(2, ⟨[(8, .int .i64)], [4, 5, 9, 10, 11, 12, 13, 14, 15, 16, 17, 18]⟩)]) (args := [s.v, f]) (rs := [.at (.int .i64)]) Tryz.func90 (by kernel_rfl) (by kernel_rfl) h

def V_slices_Collect_int (Q : Sl → World → Prop) (seq : Value) (w : World) : Prop :=
  Calls Tryz.prog F.slices_AppendSeq_sl_int_int #[.slice none 0 0, seq] w (Ret [.at .sl] fun (x4 : Sl) w1 =>
  Q x4 w1)

theorem C_slices_Collect_int {Q : Sl → World → Prop} {seq : Value} {w : World} (h : V_slices_Collect_int Q seq w) : Calls Tryz.prog F.slices_Collect_int #[seq] w (Ret [.at .sl] Q) :=
  mkC (hint := hint) (ann := annOf []) (args := [seq]) (rs := [.at .sl]) Tryz.func91 (by kernel_rfl) (by kernel_rfl) h

def V_slices_Values_sl_int_int_1 (Q : World → Prop) (yield : Value) (cap0 : Addr) (w : World) : Prop :=
  LD [.sl] cap0 w fun (x5 : Sl) =>
  ∃ (I1 : Int → World → Prop) (m1 : Int → World → Nat), I1 0 w ∧ ∀ (x7 : Int) w1, I1 x7 w1 → ∀ _ _ _ _ _ _ _ _ _ : Value,
  cond (decide ((x7 : Int) < x5.len)) (
  IX x5 x7 1 fun (px9 : Addr) =>
  LD [.int .i64] px9 w1 fun (x10 : Int) =>
  CALLV Tryz.prog yield #[.int .i64 x10] w1 (Ret [.at .bool] fun (x13 : Bool) w2 =>
  cond (!x13) (
  Q w2) (
  I1 (IntKind.i64.wrap (x7 + 1)) w2 ∧ m1 (IntKind.i64.wrap (x7 + 1)) w2 < m1 x7 w1))) (
  Q w1)

theorem C_slices_Values_sl_int_int_1 {Q : World → Prop} {yield : Value} {cap0 : Addr} {w : World} (h : V_slices_Values_sl_int_int_1 Q yield cap0 w) : Calls Tryz.prog F.slices_Values_sl_int_int_1 #[yield, .pointer (some cap0)] w (Ret [] Q) :=
  mkC (hint := hint) (ann := annOf [(1, ⟨[(7, .int .i64)], [4, 8, 9, 10, 11, 12, 13, 14, 15]⟩)]) (args := [yield, .pointer (some cap0)]) (rs := []) Tryz.func92 (by kernel_rfl) (by kernel_rfl) h

end Go.Proofs.YtjfodknpphhajaaGreat
