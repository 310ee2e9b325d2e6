/- Own texts, merged: V0, VCmp, VStable, AllV, Leaf, Net, Sort, Coll, Copy, Mask, Good, Near. -/
import Derived.Test.YtfiginahjofdnaaGreatM1
import Derived.Shelf.Sort.Plain
import Derived.Ground.Names2Prog
import Derived.Shelf.Slices.In.SortNone
import Derived.Ground.SlsfProg
import Derived.Test.YtfiginahjofdnaaGreatProg
import Derived.Sort.OwnSortedInts
import Derived.Laws.IdiomCopy
set_option linter.unusedVariables false
section
/- What each function's code computes to. Printed by a program. -/
namespace Go.Proofs.YtfiginahjofdnaaGreat
open Go.GX Go.RowKit
set_option linter.unusedVariables false
set_option maxRecDepth 100000

def V_l_FnExactPruneRooted_k5 (Q : Bool → World → Prop) (px1 : Addr) (x22_0 : Sl) (x22_1 : Bool) (x29_0 : Sl) (w16 : World) : Prop :=
  Calls Tryz.prog F.l_markIntSS #[x29_0.v, .int .i64 1] w16 (Ret [.at (.int .i64)] fun (x64 : Int) w17 =>
  Calls Tryz.prog F.l_heldIntSS #[x29_0.v, .int .i64 1] w17 (Ret [.at (.int .i64)] fun (x67 : Int) w18 =>
  cond (decide ((x67 : Int) < 0)) (
  Q false w18) (
  cond ((x67 : Int) != x64) (
  Q false w18) (
  LD [.int .i64, .int .i64, .sl] px1 w18 fun (x74_0 : Int) (x74_1 : Int) (x74_2 : Sl) =>
  Calls Tryz.prog F.l_toRootedProblem #[.agg #[.int .i64 x74_0, .int .i64 x74_1, x74_2.v]] w18 (Ret [.agg [.int .i64, .int .i64, .sl]] fun (x75_0 : Int) (x75_1 : Int) (x75_2 : Sl) w19 =>
  Calls Tryz.prog F.i_PruneRooted #[.agg #[.int .i64 x75_0, .int .i64 x75_1, x75_2.v]] w19 (Ret [.at .sl, .at .bool] fun (x76_0 : Sl) (x76_1 : Bool) w20 =>
  Calls Tryz.prog F.l_eqIntSS #[x76_0.v, x22_0.v] w20 (Ret [.at .bool] fun (x81 : Bool) w21 =>
  cond (!x81) (
  Q false w21) (
  cond (!(x76_1 == x22_1)) (
  Q false w21) (
  Calls Tryz.prog F.l_heldIntSS #[x29_0.v, .int .i64 1] w21 (Ret [.at (.int .i64)] fun (x90_2 : Int) w23 =>
  cond (decide ((x90_2 : Int) < 0)) (
  Q false w23) (
  cond ((x90_2 : Int) != x64) (
  Q false w23) (
  Q true w23))))))))))))

def V_l_FnExactPruneRooted_k2 (Q : Bool → World → Prop) (px1 : Addr) (x22_0 : Sl) (x22_1 : Bool) (px6 : Addr) (x29_0 : Sl) (x29_1 : Bool) (w10 : World) : Prop :=
  ∀ w11, Ext w10 w11 → w11.heap = w10.heap →
  LD [.int .i64, .int .i64, .sl] px6 w11 fun (x41_0 : Int) (x41_1 : Int) (x41_2 : Sl) =>
  LD [.int .i64, .int .i64, .sl] px1 w11 fun (x42_0 : Int) (x42_1 : Int) (x42_2 : Sl) =>
  Ext w11 w11 ∧ (
  Calls Tryz.prog F.l_toRootedProblem #[.agg #[.int .i64 x42_0, .int .i64 x42_1, x42_2.v]] w11 (Ret [.agg [.int .i64, .int .i64, .sl]] fun (x43_0 : Int) (x43_1 : Int) (x43_2 : Sl) w12 =>
  Ext w11 w12 ∧ (
  Calls Tryz.prog F.l_eqRootedProblem #[.agg #[.int .i64 x41_0, .int .i64 x41_1, x41_2.v], .agg #[.int .i64 x43_0, .int .i64 x43_1, x43_2.v]] w12 (Ret [.at .bool] fun (x44 : Bool) w13 =>
  Ext w11 w13 ∧ (
  cond (!x44) (
  Q false w13) (
  LD [.int .i64, .int .i64, .sl] px6 w13 fun (x46_0 : Int) (x46_1 : Int) (x46_2 : Sl) =>
  Calls Tryz.prog F.l_markRootedProblem #[.agg #[.int .i64 x46_0, .int .i64 x46_1, x46_2.v], .int .i64 1] w13 (Ret [.at (.int .i64)] fun (x48 : Int) w14 =>
  cond (decide ((x48 : Int) < 0)) (
  Q false w14) (
  Calls Tryz.prog F.l_eqIntSS #[x29_0.v, x22_0.v] w14 (Ret [.at .bool] fun (x54 : Bool) w15 =>
  cond (!x54) (
  Q false w15) (
  cond (!(x29_1 == x22_1)) (
  Q false w15) (
  V_l_FnExactPruneRooted_k5 Q px1 x22_0 x22_1 x29_0 w15)))))))))))

def V_l_FnExactPruneRooted (Q : Bool → World → Prop) (x0_0 : Int) (x0_1 : Int) (x0_2 : Sl) (w : World) : Prop :=
  NEW T.t_l_RootedProblem #[.int .i64 x0_0, .int .i64 x0_1, x0_2.v] w fun (px1 : Addr) w1 =>
  LD [.int .i64, .int .i64, .sl] px1 w1 fun (x14_0 : Int) (x14_1 : Int) (x14_2 : Sl) =>
  Calls Tryz.prog F.l_szRootedProblem #[.agg #[.int .i64 x14_0, .int .i64 x14_1, x14_2.v], .int .i64 1048576] w1 (Ret [.at (.int .i64)] fun (x16 : Int) w2 =>
  cond (decide ((x16 : Int) < 0)) (
  Q true w2) (
  LD [.int .i64, .int .i64, .sl] px1 w2 fun (x20_0 : Int) (x20_1 : Int) (x20_2 : Sl) =>
  Calls Tryz.prog F.l_toRootedProblem #[.agg #[.int .i64 x20_0, .int .i64 x20_1, x20_2.v]] w2 (Ret [.agg [.int .i64, .int .i64, .sl]] fun (x21_0 : Int) (x21_1 : Int) (x21_2 : Sl) w3 =>
  Calls Tryz.prog F.s_PruneRooted #[.agg #[.int .i64 x21_0, .int .i64 x21_1, x21_2.v]] w3 (Ret [.at .sl, .at .bool] fun (x22_0 : Sl) (x22_1 : Bool) w4 =>
  LD [.int .i64, .int .i64, .sl] px1 w4 fun (x25_0 : Int) (x25_1 : Int) (x25_2 : Sl) =>
  Calls Tryz.prog F.l_toRootedProblem #[.agg #[.int .i64 x25_0, .int .i64 x25_1, x25_2.v]] w4 (Ret [.agg [.int .i64, .int .i64, .sl]] fun (x26_0 : Int) (x26_1 : Int) (x26_2 : Sl) w5 =>
  NEW T.t_i_RootedProblem #[.int .i64 0, .int .i64 0, .slice none 0 0] w5 fun (px6 : Addr) w6 =>
  ST px6 0 [.int .i64 x26_0, .int .i64 x26_1, x26_2.v] w6 fun w7 =>
  LD [.int .i64, .int .i64, .sl] px6 w7 fun (x28_0 : Int) (x28_1 : Int) (x28_2 : Sl) =>
  Calls Tryz.prog F.i_PruneRooted #[.agg #[.int .i64 x28_0, .int .i64 x28_1, x28_2.v]] w7 (Ret [.at .sl, .at .bool] fun (x29_0 : Sl) (x29_1 : Bool) w8 =>
  Calls Tryz.prog F.l_eqIntSS #[x29_0.v, x22_0.v] w8 (Ret [.at .bool] fun (x34 : Bool) w9 =>
  cond (!x34) (
  Q false w9) (
  cond (!(x29_1 == x22_1)) (
  Q false w9) (
  V_l_FnExactPruneRooted_k2 Q px1 x22_0 x22_1 px6 x29_0 x29_1 w9)))))))))

theorem C_l_FnExactPruneRooted {Q : Bool → World → Prop} {x0_0 : Int} {x0_1 : Int} {x0_2 : Sl} {w : World} (h : V_l_FnExactPruneRooted Q x0_0 x0_1 x0_2 w) : Calls Tryz.prog F.l_FnExactPruneRooted #[.agg #[.int .i64 x0_0, .int .i64 x0_1, x0_2.v]] w (Ret [.at .bool] Q) :=
  mkC (hint := hint) (ann := annOf []) (args := [.agg #[.int .i64 x0_0, .int .i64 x0_1, x0_2.v]]) (rs := [.at .bool]) Tryz.func3 (by kernel_rfl) (by kernel_rfl) h

def V_l_FnExactClassOfRooted_k2 (Q : Bool → World → Prop) (p_aP : Addr) (px0 : Addr) (w9 : World) : Prop :=
  ∀ w10, Ext w9 w10 → w10.heap = w9.heap →
  LD [.int .i64, .int .i64, .sl] px0 w10 fun (x35_0 : Int) (x35_1 : Int) (x35_2 : Sl) =>
  LD [.int .i64, .int .i64, .sl] p_aP w10 fun (x36_0 : Int) (x36_1 : Int) (x36_2 : Sl) =>
  Ext w10 w10 ∧ (
  Calls Tryz.prog F.l_toRootedProblem #[.agg #[.int .i64 x36_0, .int .i64 x36_1, x36_2.v]] w10 (Ret [.agg [.int .i64, .int .i64, .sl]] fun (x37_0 : Int) (x37_1 : Int) (x37_2 : Sl) w11 =>
  Ext w10 w11 ∧ (
  Calls Tryz.prog F.l_eqRootedProblem #[.agg #[.int .i64 x35_0, .int .i64 x35_1, x35_2.v], .agg #[.int .i64 x37_0, .int .i64 x37_1, x37_2.v]] w11 (Ret [.at .bool] fun (x38 : Bool) w12 =>
  Ext w10 w12 ∧ (
  cond (!x38) (
  Q false w12) (
  Q true w12))))))

def V_l_FnExactClassOfRooted (Q : Bool → World → Prop) (aP_0 : Int) (aP_1 : Int) (aP_2 : Sl) (w : World) : Prop :=
  NEW T.t_l_RootedProblem #[.int .i64 aP_0, .int .i64 aP_1, aP_2.v] w fun (p_aP : Addr) w1 =>
  LD [.int .i64, .int .i64, .sl] p_aP w1 fun (x9_0 : Int) (x9_1 : Int) (x9_2 : Sl) =>
  Calls Tryz.prog F.l_szRootedProblem #[.agg #[.int .i64 x9_0, .int .i64 x9_1, x9_2.v], .int .i64 1048576] w1 (Ret [.at (.int .i64)] fun (x11 : Int) w2 =>
  cond (decide ((x11 : Int) < 0)) (
  Q true w2) (
  LD [.int .i64, .int .i64, .sl] p_aP w2 fun (x15_0 : Int) (x15_1 : Int) (x15_2 : Sl) =>
  Calls Tryz.prog F.l_toRootedProblem #[.agg #[.int .i64 x15_0, .int .i64 x15_1, x15_2.v]] w2 (Ret [.agg [.int .i64, .int .i64, .sl]] fun (x16_0 : Int) (x16_1 : Int) (x16_2 : Sl) w3 =>
  Calls Tryz.prog F.s_ClassOfRooted #[.agg #[.int .i64 x16_0, .int .i64 x16_1, x16_2.v]] w3 (Ret [.at (.int .i64), .at .bool] fun (x17_0 : Int) (x17_1 : Bool) w4 =>
  LD [.int .i64, .int .i64, .sl] p_aP w4 fun (x20_0 : Int) (x20_1 : Int) (x20_2 : Sl) =>
  Calls Tryz.prog F.l_toRootedProblem #[.agg #[.int .i64 x20_0, .int .i64 x20_1, x20_2.v]] w4 (Ret [.agg [.int .i64, .int .i64, .sl]] fun (x21_0 : Int) (x21_1 : Int) (x21_2 : Sl) w5 =>
  NEW T.t_i_RootedProblem #[.int .i64 0, .int .i64 0, .slice none 0 0] w5 fun (px0 : Addr) w6 =>
  ST px0 0 [.int .i64 x21_0, .int .i64 x21_1, x21_2.v] w6 fun w7 =>
  LD [.int .i64, .int .i64, .sl] px0 w7 fun (x23_0 : Int) (x23_1 : Int) (x23_2 : Sl) =>
  Calls Tryz.prog F.i_ClassOfRooted #[.agg #[.int .i64 x23_0, .int .i64 x23_1, x23_2.v]] w7 (Ret [.at (.int .i64), .at .bool] fun (x24_0 : Int) (x24_1 : Bool) w8 =>
  cond ((x24_0 : Int) != x17_0) (
  Q false w8) (
  cond (!(x24_1 == x17_1)) (
  Q false w8) (
  V_l_FnExactClassOfRooted_k2 Q p_aP px0 w8))))))))

theorem C_l_FnExactClassOfRooted {Q : Bool → World → Prop} {aP_0 : Int} {aP_1 : Int} {aP_2 : Sl} {w : World} (h : V_l_FnExactClassOfRooted Q aP_0 aP_1 aP_2 w) : Calls Tryz.prog F.l_FnExactClassOfRooted #[.agg #[.int .i64 aP_0, .int .i64 aP_1, aP_2.v]] w (Ret [.at .bool] Q) :=
  mkC (hint := hint) (ann := annOf []) (args := [.agg #[.int .i64 aP_0, .int .i64 aP_1, aP_2.v]]) (rs := [.at .bool]) Tryz.func4 (by kernel_rfl) (by kernel_rfl) h

def V_l_szRootedProblem (Q : Int → World → Prop) (a_0 : Int) (a_1 : Int) (a_2 : Sl) (left : Int) (w : World) : Prop :=
  NEW T.t_l_RootedProblem #[.int .i64 a_0, .int .i64 a_1, a_2.v] w fun (p_a : Addr) w1 =>
  LD [.sl] (p_a.add 2) w1 fun (x6 : Sl) =>
  Calls Tryz.prog F.l_szIntSS #[x6.v, .int .i64 left] w1 (Ret [.at (.int .i64)] fun (x8 : Int) w2 =>
  cond (decide ((x8 : Int) < 0)) (
  Q (-1) w2) (
  Q x8 w2))

theorem C_l_szRootedProblem {Q : Int → World → Prop} {a_0 : Int} {a_1 : Int} {a_2 : Sl} {left : Int} {w : World} (h : V_l_szRootedProblem Q a_0 a_1 a_2 left w) : Calls Tryz.prog F.l_szRootedProblem #[.agg #[.int .i64 a_0, .int .i64 a_1, a_2.v], .int .i64 left] w (Ret [.at (.int .i64)] Q) :=
  mkC (hint := hint) (ann := annOf []) (args := [.agg #[.int .i64 a_0, .int .i64 a_1, a_2.v], .int .i64 left]) (rs := [.at (.int .i64)]) Tryz.func5 (by kernel_rfl) (by kernel_rfl) h

def V_s_PruneRooted (Q : Sl → Bool → World → Prop) (p_0 : Int) (p_1 : Int) (p_2 : Sl) (w : World) : Prop :=
  NEW T.t_i_RootedProblem #[.int .i64 p_0, .int .i64 p_1, p_2.v] w fun (p_p : Addr) w1 =>
  LD [.int .i64, .int .i64, .sl] p_p w1 fun (x4_0 : Int) (x4_1 : Int) (x4_2 : Sl) =>
  Calls Tryz.prog F.s_roGood #[.agg #[.int .i64 x4_0, .int .i64 x4_1, x4_2.v]] w1 (Ret [.at .bool] fun (x5 : Bool) w2 =>
  cond (!x5) (
  Q (⟨none, 0, 0⟩) false w2) (
  LD [.int .i64, .int .i64, .sl] p_p w2 fun (x7_0 : Int) (x7_1 : Int) (x7_2 : Sl) =>
  Calls Tryz.prog F.s_roPrune #[.agg #[.int .i64 x7_0, .int .i64 x7_1, x7_2.v]] w2 (Ret [.at .sl] fun (x8 : Sl) w3 =>
  Q x8 true w3)))

theorem C_s_PruneRooted {Q : Sl → Bool → World → Prop} {p_0 : Int} {p_1 : Int} {p_2 : Sl} {w : World} (h : V_s_PruneRooted Q p_0 p_1 p_2 w) : Calls Tryz.prog F.s_PruneRooted #[.agg #[.int .i64 p_0, .int .i64 p_1, p_2.v]] w (Ret [.at .sl, .at .bool] Q) :=
  mkC (hint := hint) (ann := annOf []) (args := [.agg #[.int .i64 p_0, .int .i64 p_1, p_2.v]]) (rs := [.at .sl, .at .bool]) Tryz.func6 (by kernel_rfl) (by kernel_rfl) h

def V_l_toRootedProblem (Q : Int → Int → Sl → World → Prop) (a_0 : Int) (a_1 : Int) (a_2 : Sl) (w : World) : Prop :=
  NEW T.t_l_RootedProblem #[.int .i64 a_0, .int .i64 a_1, a_2.v] w fun (p_a : Addr) w1 =>
  NEW T.t_i_RootedProblem #[.int .i64 0, .int .i64 0, .slice none 0 0] w1 fun (px2 : Addr) w2 =>
  NEW T.t_i_RootedProblem #[.int .i64 0, .int .i64 0, .slice none 0 0] w2 fun (p_out : Addr) w3 =>
  LD [.int .i64] (p_a.add 0) w3 fun (x5 : Int) =>
  ST (p_out.add 0) 0 [.int .i64 x5] w3 fun w4 =>
  LD [.int .i64] (p_a.add 1) w4 fun (x8 : Int) =>
  ST (p_out.add 1) 0 [.int .i64 x8] w4 fun w5 =>
  LD [.sl] (p_a.add 2) w5 fun (x11 : Sl) =>
  Calls Tryz.prog F.l_toIntSS #[x11.v] w5 (Ret [.at .sl] fun (x12 : Sl) w6 =>
  ST (p_out.add 2) 0 [x12.v] w6 fun w7 =>
  LD [.int .i64, .int .i64, .sl] p_out w7 fun (x14_0 : Int) (x14_1 : Int) (x14_2 : Sl) =>
  ST px2 0 [.int .i64 x14_0, .int .i64 x14_1, x14_2.v] w7 fun w8 =>
  LD [.int .i64, .int .i64, .sl] px2 w8 fun (r0_0 : Int) (r0_1 : Int) (r0_2 : Sl) =>
  Q r0_0 r0_1 r0_2 w8)

theorem C_l_toRootedProblem {Q : Int → Int → Sl → World → Prop} {a_0 : Int} {a_1 : Int} {a_2 : Sl} {w : World} (h : V_l_toRootedProblem Q a_0 a_1 a_2 w) : Calls Tryz.prog F.l_toRootedProblem #[.agg #[.int .i64 a_0, .int .i64 a_1, a_2.v]] w (Ret [.agg [.int .i64, .int .i64, .sl]] Q) :=
  mkC (hint := hint) (ann := annOf []) (args := [.agg #[.int .i64 a_0, .int .i64 a_1, a_2.v]]) (rs := [.agg [.int .i64, .int .i64, .sl]]) Tryz.func7 (by kernel_rfl) (by kernel_rfl) h

def V_i_PruneRooted (Q : Sl → Bool → World → Prop) (p_0 : Int) (p_1 : Int) (p_2 : Sl) (w : World) : Prop :=
  NEW T.t_i_RootedProblem #[.int .i64 p_0, .int .i64 p_1, p_2.v] w fun (p_p : Addr) w1 =>
  LD [.int .i64, .int .i64, .sl] p_p w1 fun (x4_0 : Int) (x4_1 : Int) (x4_2 : Sl) =>
  Calls Tryz.prog F.i_IsRootedProblem #[.agg #[.int .i64 x4_0, .int .i64 x4_1, x4_2.v]] w1 (Ret [.at .bool] fun (x5 : Bool) w2 =>
  cond (!x5) (
  Q (⟨none, 0, 0⟩) false w2) (
  LD [.int .i64, .int .i64, .sl] p_p w2 fun (x7_0 : Int) (x7_1 : Int) (x7_2 : Sl) =>
  Calls Tryz.prog F.i_RootedProblem_pruned #[.agg #[.int .i64 x7_0, .int .i64 x7_1, x7_2.v]] w2 (Ret [.at .sl] fun (x8 : Sl) w3 =>
  Q x8 true w3)))

theorem C_i_PruneRooted {Q : Sl → Bool → World → Prop} {p_0 : Int} {p_1 : Int} {p_2 : Sl} {w : World} (h : V_i_PruneRooted Q p_0 p_1 p_2 w) : Calls Tryz.prog F.i_PruneRooted #[.agg #[.int .i64 p_0, .int .i64 p_1, p_2.v]] w (Ret [.at .sl, .at .bool] Q) :=
  mkC (hint := hint) (ann := annOf []) (args := [.agg #[.int .i64 p_0, .int .i64 p_1, p_2.v]]) (rs := [.at .sl, .at .bool]) Tryz.func8 (by kernel_rfl) (by kernel_rfl) h

def V_l_eqIntSS (Q : Bool → World → Prop) (a : Sl) (b : Sl) (w : World) : Prop :=
  cond ((a.len : Int) != b.len) (
  Q false w) (
  ∃ (I4 : Int → World → Prop) (m4 : Int → World → Nat), I4 0 w ∧ ∀ (i : Int) w1, I4 i w1 → ∀ _ _ _ _ _ _ _ _ _ _ _ _ _ _ _ _ _ : Value,
  cond (decide ((i : Int) < a.len)) (
  IX a i 1 fun (px19 : Addr) =>
  LD [.sl] px19 w1 fun (x20 : Sl) =>
  IX b i 1 fun (px23 : Addr) =>
  LD [.sl] px23 w1 fun (x24 : Sl) =>
  QCALL Tryz.prog F.l_eqIntS #[x20.v, x24.v] w1 [.at .bool] fun (x25 : Bool) =>
  ∀ w2, Ext w1 w2 →
  cond (!x25) (
  Q false w2) (
  I4 (IntKind.i64.wrap (i + 1)) w2 ∧ m4 (IntKind.i64.wrap (i + 1)) w2 < m4 i w1)) (
  Q true w1))

theorem C_l_eqIntSS {Q : Bool → World → Prop} {a : Sl} {b : Sl} {w : World} (h : V_l_eqIntSS Q a b w) : Calls Tryz.prog F.l_eqIntSS #[a.v, b.v] w (Ret [.at .bool] Q) :=
  mkC (hint := hint) (ann := annOf [(4, ⟨[(5, .int .i64)], [4, 11, 12, 13, 14, 15, 16, 17, 18, 19, 20, 21, 22, 23, 24, 25, 26]⟩)]) (args := [a.v, b.v]) (rs := [.at .bool]) Tryz.func9 (by kernel_rfl) (by kernel_rfl) h

def V_l_eqRootedProblem (Q : Bool → World → Prop) (a_0 : Int) (a_1 : Int) (a_2 : Sl) (b_0 : Int) (b_1 : Int) (b_2 : Sl) (w : World) : Prop :=
  NEW T.t_i_RootedProblem #[.int .i64 a_0, .int .i64 a_1, a_2.v] w fun (p_a : Addr) w1 =>
  NEW T.t_i_RootedProblem #[.int .i64 b_0, .int .i64 b_1, b_2.v] w1 fun (p_b : Addr) w2 =>
  LD [.int .i64] (p_a.add 0) w2 fun (x6 : Int) =>
  LD [.int .i64] (p_b.add 0) w2 fun (x8 : Int) =>
  cond ((x6 : Int) != x8) (
  Q false w2) (
  LD [.int .i64] (p_a.add 1) w2 fun (x11 : Int) =>
  LD [.int .i64] (p_b.add 1) w2 fun (x13 : Int) =>
  cond ((x11 : Int) != x13) (
  Q false w2) (
  LD [.sl] (p_a.add 2) w2 fun (x16 : Sl) =>
  LD [.sl] (p_b.add 2) w2 fun (x18 : Sl) =>
  Calls Tryz.prog F.l_eqIntSS #[x16.v, x18.v] w2 (Ret [.at .bool] fun (x19 : Bool) w3 =>
  cond (!x19) (
  Q false w3) (
  Q true w3))))

theorem C_l_eqRootedProblem {Q : Bool → World → Prop} {a_0 : Int} {a_1 : Int} {a_2 : Sl} {b_0 : Int} {b_1 : Int} {b_2 : Sl} {w : World} (h : V_l_eqRootedProblem Q a_0 a_1 a_2 b_0 b_1 b_2 w) : Calls Tryz.prog F.l_eqRootedProblem #[.agg #[.int .i64 a_0, .int .i64 a_1, a_2.v], .agg #[.int .i64 b_0, .int .i64 b_1, b_2.v]] w (Ret [.at .bool] Q) :=
  mkC (hint := hint) (ann := annOf []) (args := [.agg #[.int .i64 a_0, .int .i64 a_1, a_2.v], .agg #[.int .i64 b_0, .int .i64 b_1, b_2.v]]) (rs := [.at .bool]) Tryz.func10 (by kernel_rfl) (by kernel_rfl) h

def V_l_markRootedProblem (Q : Int → World → Prop) (a_0 : Int) (a_1 : Int) (a_2 : Sl) (k : Int) (w : World) : Prop :=
  NEW T.t_i_RootedProblem #[.int .i64 a_0, .int .i64 a_1, a_2.v] w fun (p_a : Addr) w1 =>
  LD [.sl] (p_a.add 2) w1 fun (x6 : Sl) =>
  Calls Tryz.prog F.l_markIntSS #[x6.v, .int .i64 k] w1 (Ret [.at (.int .i64)] fun (x8 : Int) w2 =>
  Q x8 w2)

theorem C_l_markRootedProblem {Q : Int → World → Prop} {a_0 : Int} {a_1 : Int} {a_2 : Sl} {k : Int} {w : World} (h : V_l_markRootedProblem Q a_0 a_1 a_2 k w) : Calls Tryz.prog F.l_markRootedProblem #[.agg #[.int .i64 a_0, .int .i64 a_1, a_2.v], .int .i64 k] w (Ret [.at (.int .i64)] Q) :=
  mkC (hint := hint) (ann := annOf []) (args := [.agg #[.int .i64 a_0, .int .i64 a_1, a_2.v], .int .i64 k]) (rs := [.at (.int .i64)]) Tryz.func11 (by kernel_rfl) (by kernel_rfl) h

def V_l_markIntSS (Q : Int → World → Prop) (a : Sl) (k : Int) (w : World) : Prop :=
  ∃ (I2 : Int → Int → World → Prop) (m2 : Int → Int → World → Nat), I2 k 0 w ∧ ∀ (k_2 : Int) (i : Int) w1, I2 k_2 i w1 → ∀ _ _ _ _ _ _ _ _ _ _ _ _ : Value,
  cond (decide ((i : Int) < a.len)) (
  IX a i 1 fun (px14 : Addr) =>
  LD [.sl] px14 w1 fun (x15 : Sl) =>
  Calls Tryz.prog F.l_markIntS #[x15.v, .int .i64 k_2] w1 (Ret [.at (.int .i64)] fun (x17 : Int) w2 =>
  I2 x17 (IntKind.i64.wrap (i + 1)) w2 ∧ m2 x17 (IntKind.i64.wrap (i + 1)) w2 < m2 k_2 i w1)) (
  Q k_2 w1)

theorem C_l_markIntSS {Q : Int → World → Prop} {a : Sl} {k : Int} {w : World} (h : V_l_markIntSS Q a k w) : Calls Tryz.prog F.l_markIntSS #[a.v, .int .i64 k] w (Ret [.at (.int .i64)] Q) :=
  mkC (hint := hint) (ann := annOf [(2, ⟨[(1, .int .i64), (5, .int .i64)], [6, 7, 8, 9, 10, 11, 12, 13, 14, 15, 16, 17]⟩)]) (args := [a.v, .int .i64 k]) (rs := [.at (.int .i64)]) Tryz.func12 (by kernel_rfl) (by kernel_rfl) h

def V_l_heldIntSS (Q : Int → World → Prop) (a : Sl) (k : Int) (w : World) : Prop :=
  ∃ (I2 : Int → Int → World → Prop) (m2 : Int → Int → World → Nat), I2 k 0 w ∧ ∀ (k_2 : Int) (i : Int) w1, I2 k_2 i w1 → ∀ _ _ _ _ _ _ _ _ _ _ _ _ _ _ _ : Value,
  cond (decide ((i : Int) < a.len)) (
  IX a i 1 fun (px14 : Addr) =>
  LD [.sl] px14 w1 fun (x15 : Sl) =>
  Calls Tryz.prog F.l_heldIntS #[x15.v, .int .i64 k_2] w1 (Ret [.at (.int .i64)] fun (x17 : Int) w2 =>
  cond (decide ((x17 : Int) < 0)) (
  Q (-1) w2) (
  I2 x17 (IntKind.i64.wrap (i + 1)) w2 ∧ m2 x17 (IntKind.i64.wrap (i + 1)) w2 < m2 k_2 i w1))) (
  Q k_2 w1)

theorem C_l_heldIntSS {Q : Int → World → Prop} {a : Sl} {k : Int} {w : World} (h : V_l_heldIntSS Q a k w) : Calls Tryz.prog F.l_heldIntSS #[a.v, .int .i64 k] w (Ret [.at (.int .i64)] Q) :=
  mkC (hint := hint) (ann := annOf [(2, ⟨[(1, .int .i64), (5, .int .i64)], [4, 6, 7, 8, 9, 10, 11, 12, 13, 14, 15, 16, 17, 18, 19]⟩)]) (args := [a.v, .int .i64 k]) (rs := [.at (.int .i64)]) Tryz.func13 (by kernel_rfl) (by kernel_rfl) h

def V_s_ClassOfRooted (Q : Int → Bool → World → Prop) (p_0 : Int) (p_1 : Int) (p_2 : Sl) (w : World) : Prop :=
  NEW T.t_i_RootedProblem #[.int .i64 p_0, .int .i64 p_1, p_2.v] w fun (p_p : Addr) w1 =>
  LD [.int .i64, .int .i64, .sl] p_p w1 fun (x5_0 : Int) (x5_1 : Int) (x5_2 : Sl) =>
  Calls Tryz.prog F.s_roGood #[.agg #[.int .i64 x5_0, .int .i64 x5_1, x5_2.v]] w1 (Ret [.at .bool] fun (x6 : Bool) w2 =>
  cond (!x6) (
  Q 0 false w2) (
  LD [.int .i64, .int .i64, .sl] p_p w2 fun (x8_0 : Int) (x8_1 : Int) (x8_2 : Sl) =>
  Calls Tryz.prog F.s_roPrune #[.agg #[.int .i64 x8_0, .int .i64 x8_1, x8_2.v]] w2 (Ret [.at .sl] fun (x9 : Sl) w3 =>
  LD [.int .i64, .int .i64, .sl] p_p w3 fun (x11_0 : Int) (x11_1 : Int) (x11_2 : Sl) =>
  LD [.int .i64] (p_p.add 0) w3 fun (x13 : Int) =>
  Calls Tryz.prog F.s_roRoots #[.agg #[.int .i64 x11_0, .int .i64 x11_1, x11_2.v], .int .i64 (IntKind.i64.wrap (x13 + 1))] w3 (Ret [.at .sl] fun (x15 : Sl) w4 =>
  cond ((x15.len : Int) == 0) (
  Q 0 true w4) (
  IX x9 (IntKind.i64.wrap (x9.len - 1)) 1 fun (px23 : Addr) =>
  LD [.sl] px23 w4 fun (x24 : Sl) =>
  cond (decide ((x24.len : Int) > 0)) (
  Q 2 true w4) (
  Q 1 true w4))))))

theorem C_s_ClassOfRooted {Q : Int → Bool → World → Prop} {p_0 : Int} {p_1 : Int} {p_2 : Sl} {w : World} (h : V_s_ClassOfRooted Q p_0 p_1 p_2 w) : Calls Tryz.prog F.s_ClassOfRooted #[.agg #[.int .i64 p_0, .int .i64 p_1, p_2.v]] w (Ret [.at (.int .i64), .at .bool] Q) :=
  mkC (hint := hint) (ann := annOf []) (args := [.agg #[.int .i64 p_0, .int .i64 p_1, p_2.v]]) (rs := [.at (.int .i64), .at .bool]) Tryz.func14 (by kernel_rfl) (by kernel_rfl) h

def V_i_ClassOfRooted (Q : Int → Bool → World → Prop) (p_0 : Int) (p_1 : Int) (p_2 : Sl) (w : World) : Prop :=
  NEW T.t_i_RootedProblem #[.int .i64 p_0, .int .i64 p_1, p_2.v] w fun (p_p : Addr) w1 =>
  LD [.int .i64, .int .i64, .sl] p_p w1 fun (x5_0 : Int) (x5_1 : Int) (x5_2 : Sl) =>
  Calls Tryz.prog F.i_IsRootedProblem #[.agg #[.int .i64 x5_0, .int .i64 x5_1, x5_2.v]] w1 (Ret [.at .bool] fun (x6 : Bool) w2 =>
  cond (!x6) (
  Q 0 false w2) (
  LD [.int .i64, .int .i64, .sl] p_p w2 fun (x8_0 : Int) (x8_1 : Int) (x8_2 : Sl) =>
  Calls Tryz.prog F.i_RootedProblem_pruned #[.agg #[.int .i64 x8_0, .int .i64 x8_1, x8_2.v]] w2 (Ret [.at .sl] fun (x9 : Sl) w3 =>
  LD [.int .i64, .int .i64, .sl] p_p w3 fun (x11_0 : Int) (x11_1 : Int) (x11_2 : Sl) =>
  Calls Tryz.prog F.i_RootedProblem_rootsOfDepth #[.agg #[.int .i64 x11_0, .int .i64 x11_1, x11_2.v], .int .i64 (-1)] w3 (Ret [.at (.int .i64)] fun (x12 : Int) w4 =>
  cond ((x12 : Int) == 0) (
  Q 0 true w4) (
  IX x9 (IntKind.i64.wrap (x9.len - 1)) 1 fun (px19 : Addr) =>
  LD [.sl] px19 w4 fun (x20 : Sl) =>
  cond (decide ((x20.len : Int) > 0)) (
  Q 2 true w4) (
  Q 1 true w4))))))

theorem C_i_ClassOfRooted {Q : Int → Bool → World → Prop} {p_0 : Int} {p_1 : Int} {p_2 : Sl} {w : World} (h : V_i_ClassOfRooted Q p_0 p_1 p_2 w) : Calls Tryz.prog F.i_ClassOfRooted #[.agg #[.int .i64 p_0, .int .i64 p_1, p_2.v]] w (Ret [.at (.int .i64), .at .bool] Q) :=
  mkC (hint := hint) (ann := annOf []) (args := [.agg #[.int .i64 p_0, .int .i64 p_1, p_2.v]]) (rs := [.at (.int .i64), .at .bool]) Tryz.func15 (by kernel_rfl) (by kernel_rfl) h

def V_l_szIntSS (Q : Int → World → Prop) (a : Sl) (left : Int) (w : World) : Prop :=
  cond (decide (((IntKind.i64.wrap (left - a.len)) : Int) < 0)) (
  Q (-1) w) (
  ∃ (I5 : Int → Int → World → Prop) (m5 : Int → Int → World → Nat), I5 (IntKind.i64.wrap (left - a.len)) 0 w ∧ ∀ (left_2 : Int) (i : Int) w1, I5 left_2 i w1 → ∀ _ _ _ _ _ _ _ _ _ _ _ _ _ _ _ : Value,
  cond (decide ((i : Int) < a.len)) (
  IX a i 1 fun (px20 : Addr) =>
  LD [.sl] px20 w1 fun (x21 : Sl) =>
  Calls Tryz.prog F.l_szIntS #[x21.v, .int .i64 left_2] w1 (Ret [.at (.int .i64)] fun (x23 : Int) w2 =>
  cond (decide ((x23 : Int) < 0)) (
  Q (-1) w2) (
  I5 x23 (IntKind.i64.wrap (i + 1)) w2 ∧ m5 x23 (IntKind.i64.wrap (i + 1)) w2 < m5 left_2 i w1))) (
  Q left_2 w1))

theorem C_l_szIntSS {Q : Int → World → Prop} {a : Sl} {left : Int} {w : World} (h : V_l_szIntSS Q a left w) : Calls Tryz.prog F.l_szIntSS #[a.v, .int .i64 left] w (Ret [.at (.int .i64)] Q) :=
  mkC (hint := hint) (ann := annOf [(5, ⟨[(1, .int .i64), (5, .int .i64)], [4, 12, 13, 14, 15, 16, 17, 18, 19, 20, 21, 22, 23, 24, 25]⟩)]) (args := [a.v, .int .i64 left]) (rs := [.at (.int .i64)]) Tryz.func16 (by kernel_rfl) (by kernel_rfl) h

def V_s_roGood_k1 (Q : Bool → World → Prop) (p_p : Addr) (w4 : World) : Prop :=
  LD [.sl] (p_p.add 2) w4 fun (x16 : Sl) =>
  ∃ (I4 : Int → World → Prop) (m4 : Int → World → Nat), I4 0 w4 ∧ ∀ (x18 : Int) w5, I4 x18 w5 → ∀ _ _ _ _ _ _ _ _ _ _ _ _ _ _ _ _ _ _ _ _ _ _ _ _ _ _ _ _ _ _ _ _ _ _ _ _ _ _ _ _ _ _ _ _ _ _ : Value,
  cond (decide ((x18 : Int) < x16.len)) (
  IX x16 x18 1 fun (px21 : Addr) =>
  LD [.sl] px21 w5 fun (x22 : Sl) =>
  ∀ w6, Ext w5 w6 → w6.heap = w5.heap →
  Ext w6 w6 ∧ (
  LD [.int .i64] (p_p.add 1) w6 fun (x26 : Int) =>
  Ext w6 w6 ∧ (
  Ext w6 w6 ∧ (
  Ext w6 w6 ∧ (
  Ext w6 w6 ∧ (
  cond ((x22.len : Int) != (IntKind.i64.wrap (x26 + 1))) (
  Ext w6 w6 ∧ (
  Ext w6 w6 ∧ (
  Ext w6 w6 ∧ (
  Ext w6 w6 ∧ (
  Ext w6 w6 ∧ (
  Q false w6)))))) (
  Ext w6 w6 ∧ (
  LD [.int .i64] (p_p.add 0) w6 fun (x32 : Int) =>
  Ext w6 w6 ∧ (
  Ext w6 w6 ∧ (
  Calls Tryz.prog F.s_l1All #[x22.v, .int .i64 0, .int .i64 (IntKind.i64.wrap (x32 - 1))] w6 (Ret [.at .bool] fun (x34 : Bool) w7 =>
  Ext w6 w7 ∧ (
  Ext w7 w7 ∧ (
  Ext w7 w7 ∧ (
  Ext w7 w7 ∧ (
  cond (!x34) (
  Ext w7 w7 ∧ (
  Ext w7 w7 ∧ (
  Ext w7 w7 ∧ (
  Q false w7)))) (
  SLC x22 (some 1) none 1 fun (x39 : Sl) =>
  Ext w7 w7 ∧ (
  SLC x22 (some 1) none 1 fun (x41 : Sl) =>
  Ext w7 w7 ∧ (
  Calls Tryz.prog F.s_prSorted #[x41.v] w7 (Ret [.at .sl] fun (x42 : Sl) w8 =>
  Ext w7 w8 ∧ (
  Calls Tryz.prog F.s_l1Same #[x39.v, x42.v] w8 (Ret [.at .bool] fun (x43 : Bool) w9 =>
  Ext w8 w9 ∧ (
  Ext w9 w9 ∧ (
  Ext w9 w9 ∧ (
  Ext w9 w9 ∧ (
  cond (!x43) (
  Ext w9 w9 ∧ (
  Q false w9)) (
  Ext w9 w9 ∧ (
  Ext w9 w9 ∧ (
  Ext w9 w9 ∧ (
  cond (decide ((x18 : Int) > 0)) (
  LD [.sl] (p_p.add 2) w9 fun (x51 : Sl) =>
  IX x51 (IntKind.i64.wrap (x18 - 1)) 1 fun (px54 : Addr) =>
  LD [.sl] px54 w9 fun (x55 : Sl) =>
  Ext w9 w9 ∧ (
  Calls Tryz.prog F.s_prOrder #[x55.v, x22.v] w9 (Ret [.at (.int .i64)] fun (x57 : Int) w10 =>
  Ext w9 w10 ∧ (
  Ext w10 w10 ∧ (
  Ext w10 w10 ∧ (
  Ext w10 w10 ∧ (
  cond (decide ((x57 : Int) ≥ 0)) (
  Q false w10) (
  I4 (IntKind.i64.wrap (x18 + 1)) w10 ∧ m4 (IntKind.i64.wrap (x18 + 1)) w10 < m4 x18 w5)))))))) (
  Ext w9 w9 ∧ (
  Ext w9 w9 ∧ (
  I4 (IntKind.i64.wrap (x18 + 1)) w9 ∧ m4 (IntKind.i64.wrap (x18 + 1)) w9 < m4 x18 w5)))))))))))))))))))))))))))))))) (
  Q true w5)

def V_s_roGood (Q : Bool → World → Prop) (p_0 : Int) (p_1 : Int) (p_2 : Sl) (w : World) : Prop :=
  NEW T.t_i_RootedProblem #[.int .i64 p_0, .int .i64 p_1, p_2.v] w fun (p_p : Addr) w1 =>
  LD [.int .i64] (p_p.add 0) w1 fun (x6 : Int) =>
  Calls Tryz.prog F.s_l1In #[.int .i64 x6, .int .i64 1, .int .i64 8] w1 (Ret [.at .bool] fun (x7 : Bool) w2 =>
  cond (!x7) (
  Q false w2) (
  LD [.int .i64] (p_p.add 1) w2 fun (x11 : Int) =>
  Calls Tryz.prog F.s_l1In #[.int .i64 x11, .int .i64 1, .int .i64 3] w2 (Ret [.at .bool] fun (x12 : Bool) w3 =>
  cond (!x12) (
  Q false w3) (
  V_s_roGood_k1 Q p_p w3))))

theorem C_s_roGood {Q : Bool → World → Prop} {p_0 : Int} {p_1 : Int} {p_2 : Sl} {w : World} (h : V_s_roGood Q p_0 p_1 p_2 w) : Calls Tryz.prog F.s_roGood #[.agg #[.int .i64 p_0, .int .i64 p_1, p_2.v]] w (Ret [.at .bool] Q) :=
  mkC (hint := hint) (ann := annOf [(4, ⟨[(18, .int .i64)], [2, 3, 4, 19, 20, 21, 22, 23, 24, 25, 26, 27, 28, 29, 30, 31, 32, 33, 34, 35, 36, 37, 38, 39, 40, 41, 42, 43, 44, 45, 46, 47, 48, 49, 50, 51, 52, 53, 54, 55, 56, 57, 58, 59, 60, 61]⟩)]) (args := [.agg #[.int .i64 p_0, .int .i64 p_1, p_2.v]]) (rs := [.at .bool]) Tryz.func17 (by kernel_rfl) (by kernel_rfl) h

def V_s_roPrune (Q : Sl → World → Prop) (p_0 : Int) (p_1 : Int) (p_2 : Sl) (w : World) : Prop :=
  NEW T.t_i_RootedProblem #[.int .i64 p_0, .int .i64 p_1, p_2.v] w fun (p_p : Addr) w1 =>
  LD [.int .i64, .int .i64, .sl] p_p w1 fun (x6_0 : Int) (x6_1 : Int) (x6_2 : Sl) =>
  Calls Tryz.prog F.s_roAll #[.agg #[.int .i64 x6_0, .int .i64 x6_1, x6_2.v]] w1 (Ret [.at .sl] fun (x7 : Sl) w2 =>
  RUN Tryz.prog (.at .sl) (Instr.buildSlice T.t_sl_sl_int 1 #[(0, x7.v)]) w2 fun (x8 : Sl) w3 =>
  ∃ (I2 : Sl → World → Prop) (m2 : Sl → World → Nat), I2 x8 w3 ∧ ∀ (out : Sl) w4, I2 out w4 → ∀ _ _ _ _ _ _ _ _ _ _ _ _ _ _ _ _ _ _ _ _ _ _ _ _ _ _ : Value,
  IX out (IntKind.i64.wrap (out.len - 1)) 1 fun (px13 : Addr) =>
  LD [.sl] px13 w4 fun (x14 : Sl) =>
  LD [.int .i64, .int .i64, .sl] p_p w4 fun (x15_0 : Int) (x15_1 : Int) (x15_2 : Sl) =>
  Calls Tryz.prog F.s_roPath #[.agg #[.int .i64 x15_0, .int .i64 x15_1, x15_2.v], x14.v] w4 (Ret [.agg [.int .i64, .sl]] fun (x17_0 : Int) (x17_1 : Sl) w5 =>
  Calls Tryz.prog F.s_waFlexible #[.agg #[.int .i64 x17_0, x17_1.v]] w5 (Ret [.at .sl] fun (x18 : Sl) w6 =>
  RUN Tryz.prog (.at .sl) (Instr.buildSlice T.t_sl_sl_int 1 #[(0, x18.v)]) w6 fun (x21 : Sl) w7 =>
  RUN Tryz.prog (.at .sl) (bsem .append #[T.t_sl_sl_int, T.t_sl_sl_int] T.t_sl_sl_int #[out.v, x21.v]) w7 fun (x22 : Sl) w8 =>
  cond ((x18.len : Int) == 0) (
  Q x22 w8) (
  Calls Tryz.prog F.s_l1Same #[x18.v, x14.v] w8 (Ret [.at .bool] fun (x29 : Bool) w9 =>
  cond x29 (
  Q x22 w9) (
  I2 x22 w9 ∧ m2 x22 w9 < m2 out w4))))))

theorem C_s_roPrune {Q : Sl → World → Prop} {p_0 : Int} {p_1 : Int} {p_2 : Sl} {w : World} (h : V_s_roPrune Q p_0 p_1 p_2 w) : Calls Tryz.prog F.s_roPrune #[.agg #[.int .i64 p_0, .int .i64 p_1, p_2.v]] w (Ret [.at .sl] Q) :=
  mkC (hint := hint) (ann := annOf [(2, ⟨[(3, .sl)], [2, 4, 5, 9, 10, 11, 12, 13, 14, 15, 16, 17, 18, 19, 20, 21, 22, 23, 24, 25, 26, 27, 28, 29, 30, 31]⟩)]) (args := [.agg #[.int .i64 p_0, .int .i64 p_1, p_2.v]]) (rs := [.at .sl]) Tryz.func18 (by kernel_rfl) (by kernel_rfl) h

def V_l_toIntSS (Q : Sl → World → Prop) (a : Sl) (w : World) : Prop :=
  RUN Tryz.prog (.at .sl) (Instr.makeSlice T.t_sl_sl_int (.int .i64 a.len) (.int .i64 a.len)) w fun (x7 : Sl) w1 =>
  ∃ (I3 : Int → World → Prop) (m3 : Int → World → Nat), I3 0 w1 ∧ ∀ (i : Int) w2, I3 i w2 → ∀ _ _ _ _ _ _ _ _ _ _ _ _ _ _ : Value,
  cond (decide ((i : Int) < a.len)) (
  IX a i 1 fun (px18 : Addr) =>
  LD [.sl] px18 w2 fun (x19 : Sl) =>
  Calls Tryz.prog F.l_toIntS #[x19.v] w2 (Ret [.at .sl] fun (x20 : Sl) w3 =>
  IX x7 i 1 fun (px21 : Addr) =>
  ST px21 0 [x20.v] w3 fun w4 =>
  I3 (IntKind.i64.wrap (i + 1)) w4 ∧ m3 (IntKind.i64.wrap (i + 1)) w4 < m3 i w2)) (
  Q x7 w2)

theorem C_l_toIntSS {Q : Sl → World → Prop} {a : Sl} {w : World} (h : V_l_toIntSS Q a w) : Calls Tryz.prog F.l_toIntSS #[a.v] w (Ret [.at .sl] Q) :=
  mkC (hint := hint) (ann := annOf [(3, ⟨[(4, .int .i64)], [8, 9, 10, 11, 12, 13, 14, 15, 16, 17, 18, 19, 20, 21]⟩)]) (args := [a.v]) (rs := [.at .sl]) Tryz.func19 (by kernel_rfl) (by kernel_rfl) h

def V_i_IsRootedProblem_k1 (Q : Bool → World → Prop) (p_p : Addr) (w4 : World) : Prop :=
  LD [.sl] (p_p.add 2) w4 fun (x16 : Sl) =>
  ∃ (I4 : Int → World → Prop) (m4 : Int → World → Nat), I4 0 w4 ∧ ∀ (x18 : Int) w5, I4 x18 w5 → ∀ _ _ _ _ _ _ _ _ _ _ _ _ _ _ _ _ _ _ _ _ _ _ _ _ _ _ _ _ _ _ _ _ _ _ _ _ _ _ _ _ _ : Value,
  cond (decide ((x18 : Int) < x16.len)) (
  IX x16 x18 1 fun (px21 : Addr) =>
  LD [.sl] px21 w5 fun (x22 : Sl) =>
  LD [.int .i64] (p_p.add 1) w5 fun (x26 : Int) =>
  cond ((x22.len : Int) != (IntKind.i64.wrap (x26 + 1))) (
  Q false w5) (
  LD [.int .i64, .int .i64, .sl] p_p w5 fun (x30_0 : Int) (x30_1 : Int) (x30_2 : Sl) =>
  Calls Tryz.prog F.i_RootedProblem_hasLabels #[.agg #[.int .i64 x30_0, .int .i64 x30_1, x30_2.v], x22.v] w5 (Ret [.at .bool] fun (x32 : Bool) w6 =>
  cond (!x32) (
  Q false w6) (
  SLC x22 (some 1) none 1 fun (x37 : Sl) =>
  Calls Tryz.prog F.slices_IsSorted_sl_int_int #[x37.v] w6 (Ret [.at .bool] fun (x38 : Bool) w7 =>
  cond (!x38) (
  Q false w7) (
  cond (decide ((x18 : Int) > 0)) (
  LD [.sl] (p_p.add 2) w7 fun (x46 : Sl) =>
  IX x46 (IntKind.i64.wrap (x18 - 1)) 1 fun (px49 : Addr) =>
  LD [.sl] px49 w7 fun (x50 : Sl) =>
  Calls Tryz.prog F.slices_Compare_sl_int_int #[x50.v, x22.v] w7 (Ret [.at (.int .i64)] fun (x52 : Int) w8 =>
  cond (decide ((x52 : Int) ≥ 0)) (
  Q false w8) (
  I4 (IntKind.i64.wrap (x18 + 1)) w8 ∧ m4 (IntKind.i64.wrap (x18 + 1)) w8 < m4 x18 w5))) (
  I4 (IntKind.i64.wrap (x18 + 1)) w7 ∧ m4 (IntKind.i64.wrap (x18 + 1)) w7 < m4 x18 w5))))))) (
  Q true w5)

def V_i_IsRootedProblem (Q : Bool → World → Prop) (p_0 : Int) (p_1 : Int) (p_2 : Sl) (w : World) : Prop :=
  NEW T.t_i_RootedProblem #[.int .i64 p_0, .int .i64 p_1, p_2.v] w fun (p_p : Addr) w1 =>
  LD [.int .i64] (p_p.add 0) w1 fun (x6 : Int) =>
  Calls Tryz.prog F.i_within #[.int .i64 x6, .int .i64 1, .int .i64 8] w1 (Ret [.at .bool] fun (x7 : Bool) w2 =>
  cond (!x7) (
  Q false w2) (
  LD [.int .i64] (p_p.add 1) w2 fun (x11 : Int) =>
  Calls Tryz.prog F.i_within #[.int .i64 x11, .int .i64 1, .int .i64 3] w2 (Ret [.at .bool] fun (x12 : Bool) w3 =>
  cond (!x12) (
  Q false w3) (
  V_i_IsRootedProblem_k1 Q p_p w3))))

theorem C_i_IsRootedProblem {Q : Bool → World → Prop} {p_0 : Int} {p_1 : Int} {p_2 : Sl} {w : World} (h : V_i_IsRootedProblem Q p_0 p_1 p_2 w) : Calls Tryz.prog F.i_IsRootedProblem #[.agg #[.int .i64 p_0, .int .i64 p_1, p_2.v]] w (Ret [.at .bool] Q) :=
  mkC (hint := hint) (ann := annOf [(4, ⟨[(18, .int .i64)], [2, 3, 4, 19, 20, 21, 22, 23, 24, 25, 26, 27, 28, 29, 30, 31, 32, 33, 34, 35, 36, 37, 38, 39, 40, 41, 42, 43, 44, 45, 46, 47, 48, 49, 50, 51, 52, 53, 54, 55, 56]⟩)]) (args := [.agg #[.int .i64 p_0, .int .i64 p_1, p_2.v]]) (rs := [.at .bool]) Tryz.func20 (by kernel_rfl) (by kernel_rfl) h

def V_i_RootedProblem_pruned (Q : Sl → World → Prop) (p_0 : Int) (p_1 : Int) (p_2 : Sl) (w : World) : Prop :=
  NEW T.t_i_RootedProblem #[.int .i64 p_0, .int .i64 p_1, p_2.v] w fun (p_p : Addr) w1 =>
  LD [.int .i64] (p_p.add 0) w1 fun (x7 : Int) =>
  Calls Tryz.prog F.i_numbersTo #[.int .i64 x7] w1 (Ret [.at .sl] fun (x8 : Sl) w2 =>
  RUN Tryz.prog (.at .sl) (Instr.buildSlice T.t_sl_sl_int 1 #[(0, x8.v)]) w2 fun (x9 : Sl) w3 =>
  ∃ (I2 : Sl → World → Prop) (m2 : Sl → World → Nat), I2 x9 w3 ∧ ∀ (out : Sl) w4, I2 out w4 → ∀ _ _ _ _ _ _ _ _ _ _ _ _ _ _ _ _ _ _ _ _ _ _ _ _ _ _ _ _ _ _ _ : Value,
  IX out (IntKind.i64.wrap (out.len - 1)) 1 fun (px14 : Addr) =>
  LD [.sl] px14 w4 fun (x15 : Sl) =>
  ∀ w5, Ext w4 w5 → w5.heap = w4.heap →
  LD [.int .i64, .int .i64, .sl] p_p w5 fun (x17_0 : Int) (x17_1 : Int) (x17_2 : Sl) =>
  Ext w5 w5 ∧ (
  Calls Tryz.prog F.i_setOf #[x15.v] w5 (Ret [.at (.int .i64)] fun (x19 : Int) w6 =>
  Ext w5 w6 ∧ (
  Calls Tryz.prog F.i_RootedProblem_pathForm #[.agg #[.int .i64 x17_0, .int .i64 x17_1, x17_2.v], .int .i64 x19] w6 (Ret [.agg [.int .i64, .sl]] fun (x20_0 : Int) (x20_1 : Sl) w7 =>
  Ext w5 w7 ∧ (
  Calls Tryz.prog F.i_WalkProblem_flexibleLabels #[.agg #[.int .i64 x20_0, x20_1.v]] w7 (Ret [.at .sl] fun (x21 : Sl) w8 =>
  Ext w5 w8 ∧ (
  Calls Tryz.prog F.i_sharedLabels #[x15.v, x21.v] w8 (Ret [.at .sl] fun (x22 : Sl) w9 =>
  Ext w5 w9 ∧ (
  RUN Tryz.prog (.at .sl) (Instr.buildSlice T.t_sl_sl_int 1 #[(0, x22.v)]) w9 fun (x25 : Sl) w10 =>
  RUN Tryz.prog (.at .sl) (bsem .append #[T.t_sl_sl_int, T.t_sl_sl_int] T.t_sl_sl_int #[out.v, x25.v]) w10 fun (x26 : Sl) w11 =>
  cond ((x22.len : Int) == 0) (
  Q x26 w11) (
  cond ((x22.len : Int) == x15.len) (
  Q x26 w11) (
  I2 x26 w11 ∧ m2 x26 w11 < m2 out w4))))))))))))

theorem C_i_RootedProblem_pruned {Q : Sl → World → Prop} {p_0 : Int} {p_1 : Int} {p_2 : Sl} {w : World} (h : V_i_RootedProblem_pruned Q p_0 p_1 p_2 w) : Calls Tryz.prog F.i_RootedProblem_pruned #[.agg #[.int .i64 p_0, .int .i64 p_1, p_2.v]] w (Ret [.at .sl] Q) :=
  mkC (hint := hint) (ann := annOf [(2, ⟨[(3, .sl)], [2, 4, 5, 10, 11, 12, 13, 14, 15, 16, 17, 18, 19, 20, 21, 22, 23, 24, 25, 26, 27, 28, 29, 30, 31, 32, 33, 34, 35, 36, 37]⟩)]) (args := [.agg #[.int .i64 p_0, .int .i64 p_1, p_2.v]]) (rs := [.at .sl]) Tryz.func21 (by kernel_rfl) (by kernel_rfl) h

def V_l_eqIntS (Q : Bool → World → Prop) (a : Sl) (b : Sl) (w : World) : Prop :=
  cond ((a.len : Int) != b.len) (
  Q false w) (
  ∃ (I4 : Int → World → Prop) (m4 : Int → World → Nat), I4 0 w ∧ ∀ (i : Int) w1, I4 i w1 → ∀ _ _ _ _ _ _ _ _ _ _ _ _ _ _ _ _ : Value,
  cond (decide ((i : Int) < a.len)) (
  IX a i 1 fun (px19 : Addr) =>
  LD [.int .i64] px19 w1 fun (x20 : Int) =>
  IX b i 1 fun (px23 : Addr) =>
  LD [.int .i64] px23 w1 fun (x24 : Int) =>
  ∀ w2, Ext w1 w2 →
  cond ((x20 : Int) != x24) (
  Q false w2) (
  I4 (IntKind.i64.wrap (i + 1)) w2 ∧ m4 (IntKind.i64.wrap (i + 1)) w2 < m4 i w1)) (
  Q true w1))

theorem C_l_eqIntS {Q : Bool → World → Prop} {a : Sl} {b : Sl} {w : World} (h : V_l_eqIntS Q a b w) : Calls Tryz.prog F.l_eqIntS #[a.v, b.v] w (Ret [.at .bool] Q) :=
  mkC (hint := hint) (ann := annOf [(4, ⟨[(5, .int .i64)], [4, 11, 12, 13, 14, 15, 16, 17, 18, 19, 20, 21, 22, 23, 24, 25]⟩)]) (args := [a.v, b.v]) (rs := [.at .bool]) Tryz.func22 (by kernel_rfl) (by kernel_rfl) h

def V_l_markIntS (Q : Int → World → Prop) (a : Sl) (k : Int) (w : World) : Prop :=
  ∃ (I2 : Int → Int → World → Prop) (m2 : Int → Int → World → Nat), I2 k 0 w ∧ ∀ (k_2 : Int) (i : Int) w1, I2 k_2 i w1 → ∀ _ _ _ _ _ _ _ _ _ _ _ _ : Value,
  cond (decide ((i : Int) < a.len)) (
  IX a i 1 fun (px15 : Addr) =>
  ST px15 0 [.int .i64 k_2] w1 fun w2 =>
  I2 (IntKind.i64.wrap (k_2 + 1)) (IntKind.i64.wrap (i + 1)) w2 ∧ m2 (IntKind.i64.wrap (k_2 + 1)) (IntKind.i64.wrap (i + 1)) w2 < m2 k_2 i w1) (
  Q k_2 w1)

theorem C_l_markIntS {Q : Int → World → Prop} {a : Sl} {k : Int} {w : World} (h : V_l_markIntS Q a k w) : Calls Tryz.prog F.l_markIntS #[a.v, .int .i64 k] w (Ret [.at (.int .i64)] Q) :=
  mkC (hint := hint) (ann := annOf [(2, ⟨[(1, .int .i64), (5, .int .i64)], [6, 7, 8, 9, 10, 11, 12, 13, 14, 15, 16, 17]⟩)]) (args := [a.v, .int .i64 k]) (rs := [.at (.int .i64)]) Tryz.func23 (by kernel_rfl) (by kernel_rfl) h

def V_l_heldIntS (Q : Int → World → Prop) (a : Sl) (k : Int) (w : World) : Prop :=
  ∃ (I2 : Int → Int → World → Prop) (m2 : Int → Int → World → Nat), I2 k 0 w ∧ ∀ (k_2 : Int) (i : Int) w1, I2 k_2 i w1 → ∀ _ _ _ _ _ _ _ _ _ _ _ _ _ _ _ : Value,
  cond (decide ((i : Int) < a.len)) (
  IX a i 1 fun (px14 : Addr) =>
  LD [.int .i64] px14 w1 fun (x15 : Int) =>
  cond ((x15 : Int) != k_2) (
  Q (-1) w1) (
  I2 (IntKind.i64.wrap (k_2 + 1)) (IntKind.i64.wrap (i + 1)) w1 ∧ m2 (IntKind.i64.wrap (k_2 + 1)) (IntKind.i64.wrap (i + 1)) w1 < m2 k_2 i w1)) (
  Q k_2 w1)

theorem C_l_heldIntS {Q : Int → World → Prop} {a : Sl} {k : Int} {w : World} (h : V_l_heldIntS Q a k w) : Calls Tryz.prog F.l_heldIntS #[a.v, .int .i64 k] w (Ret [.at (.int .i64)] Q) :=
  mkC (hint := hint) (ann := annOf [(2, ⟨[(1, .int .i64), (5, .int .i64)], [4, 6, 7, 8, 9, 10, 11, 12, 13, 14, 15, 16, 17, 18, 19]⟩)]) (args := [a.v, .int .i64 k]) (rs := [.at (.int .i64)]) Tryz.func24 (by kernel_rfl) (by kernel_rfl) h

def V_s_roRoots (Q : Sl → World → Prop) (p_0 : Int) (p_1 : Int) (p_2 : Sl) (depth : Int) (w : World) : Prop :=
  NEW T.t_i_RootedProblem #[.int .i64 p_0, .int .i64 p_1, p_2.v] w fun (p_p : Addr) w1 =>
  LD [.int .i64, .int .i64, .sl] p_p w1 fun (x8_0 : Int) (x8_1 : Int) (x8_2 : Sl) =>
  Calls Tryz.prog F.s_roAll #[.agg #[.int .i64 x8_0, .int .i64 x8_1, x8_2.v]] w1 (Ret [.at .sl] fun (x9 : Sl) w2 =>
  ∃ (I3 : Sl → Int → World → Prop) (m3 : Sl → Int → World → Nat), I3 x9 0 w2 ∧ ∀ (set1 : Sl) (k : Int) w3, I3 set1 k w3 → ∀ _ _ _ _ _ _ _ _ _ _ _ _ _ _ _ : Value,
  cond (decide ((k : Int) < depth)) (
  LD [.int .i64, .int .i64, .sl] p_p w3 fun (x15_0 : Int) (x15_1 : Int) (x15_2 : Sl) =>
  Calls Tryz.prog F.s_roAbove #[.agg #[.int .i64 x15_0, .int .i64 x15_1, x15_2.v], set1.v] w3 (Ret [.at .sl] fun (x17 : Sl) w4 =>
  Calls Tryz.prog F.s_l1Same #[x17.v, set1.v] w4 (Ret [.at .bool] fun (x20 : Bool) w5 =>
  cond x20 (
  Q set1 w5) (
  I3 x17 (IntKind.i64.wrap (k + 1)) w5 ∧ m3 x17 (IntKind.i64.wrap (k + 1)) w5 < m3 set1 k w3)))) (
  Q set1 w3))

theorem C_s_roRoots {Q : Sl → World → Prop} {p_0 : Int} {p_1 : Int} {p_2 : Sl} {depth : Int} {w : World} (h : V_s_roRoots Q p_0 p_1 p_2 depth w) : Calls Tryz.prog F.s_roRoots #[.agg #[.int .i64 p_0, .int .i64 p_1, p_2.v], .int .i64 depth] w (Ret [.at .sl] Q) :=
  mkC (hint := hint) (ann := annOf [(3, ⟨[(5, .sl), (6, .int .i64)], [4, 7, 10, 11, 12, 13, 14, 15, 16, 17, 18, 19, 20, 21, 22]⟩)]) (args := [.agg #[.int .i64 p_0, .int .i64 p_1, p_2.v], .int .i64 depth]) (rs := [.at .sl]) Tryz.func25 (by kernel_rfl) (by kernel_rfl) h

def V_i_RootedProblem_rootsOfDepth (Q : Int → World → Prop) (p_0 : Int) (p_1 : Int) (p_2 : Sl) (depth : Int) (w : World) : Prop :=
  NEW T.t_i_RootedProblem #[.int .i64 p_0, .int .i64 p_1, p_2.v] w fun (p_p : Addr) w1 =>
  LD [.int .i64] (p_p.add 0) w1 fun (x8 : Int) =>
  (0 : Int) ≤ x8 ∧ (
  ∃ (I2 : Int → Int → World → Prop) (m2 : Int → Int → World → Nat), I2 depth (IntKind.i64.wrap ((shlI .i64 1 x8) - 1)) w1 ∧ ∀ (depth_2 : Int) (set1 : Int) w2, I2 depth_2 set1 w2 → ∀ _ _ _ _ _ _ _ _ _ _ _ _ : Value,
  cond ((depth_2 : Int) != 0) (
  LD [.int .i64, .int .i64, .sl] p_p w2 fun (x15_0 : Int) (x15_1 : Int) (x15_2 : Sl) =>
  Calls Tryz.prog F.i_RootedProblem_rootsAbove #[.agg #[.int .i64 x15_0, .int .i64 x15_1, x15_2.v], .int .i64 set1] w2 (Ret [.at (.int .i64)] fun (x17 : Int) w3 =>
  cond ((x17 : Int) == set1) (
  Q set1 w3) (
  I2 (IntKind.i64.wrap (depth_2 - 1)) x17 w3 ∧ m2 (IntKind.i64.wrap (depth_2 - 1)) x17 w3 < m2 depth_2 set1 w2))) (
  Q set1 w2))

theorem C_i_RootedProblem_rootsOfDepth {Q : Int → World → Prop} {p_0 : Int} {p_1 : Int} {p_2 : Sl} {depth : Int} {w : World} (h : V_i_RootedProblem_rootsOfDepth Q p_0 p_1 p_2 depth w) : Calls Tryz.prog F.i_RootedProblem_rootsOfDepth #[.agg #[.int .i64 p_0, .int .i64 p_1, p_2.v], .int .i64 depth] w (Ret [.at (.int .i64)] Q) :=
  mkC (hint := hint) (ann := annOf [(2, ⟨[(1, .int .i64), (5, .int .i64)], [6, 11, 12, 13, 14, 15, 16, 17, 18, 19, 20, 21]⟩)]) (args := [.agg #[.int .i64 p_0, .int .i64 p_1, p_2.v], .int .i64 depth]) (rs := [.at (.int .i64)]) Tryz.func26 (by kernel_rfl) (by kernel_rfl) h

def V_l_szIntS (Q : Int → World → Prop) (a : Sl) (left : Int) (w : World) : Prop :=
  cond (decide (((IntKind.i64.wrap (left - a.len)) : Int) < 0)) (
  Q (-1) w) (
  Q (IntKind.i64.wrap (left - a.len)) w)

theorem C_l_szIntS {Q : Int → World → Prop} {a : Sl} {left : Int} {w : World} (h : V_l_szIntS Q a left w) : Calls Tryz.prog F.l_szIntS #[a.v, .int .i64 left] w (Ret [.at (.int .i64)] Q) :=
  mkC (hint := hint) (ann := annOf []) (args := [a.v, .int .i64 left]) (rs := [.at (.int .i64)]) Tryz.func27 (by kernel_rfl) (by kernel_rfl) h

def V_s_l1In (Q : Bool → World → Prop) (n : Int) (lo : Int) (hi : Int) (w : World) : Prop :=
  cond (decide ((n : Int) ≥ lo)) (
  Q (decide ((n : Int) ≤ hi)) w) (
  Q false w)

theorem C_s_l1In {Q : Bool → World → Prop} {n : Int} {lo : Int} {hi : Int} {w : World} (h : V_s_l1In Q n lo hi w) : Calls Tryz.prog F.s_l1In #[.int .i64 n, .int .i64 lo, .int .i64 hi] w (Ret [.at .bool] Q) :=
  mkC (hint := hint) (ann := annOf []) (args := [.int .i64 n, .int .i64 lo, .int .i64 hi]) (rs := [.at .bool]) Tryz.func28 (by kernel_rfl) (by kernel_rfl) h

def V_s_l1All (Q : Bool → World → Prop) (l : Sl) (lo : Int) (hi : Int) (w : World) : Prop :=
  ∃ (I2 : Int → World → Prop) (m2 : Int → World → Nat), I2 0 w ∧ ∀ (x11 : Int) w1, I2 x11 w1 → ∀ _ _ _ _ _ _ _ _ _ _ _ : Value,
  cond (decide ((x11 : Int) < l.len)) (
  IX l x11 1 fun (px13 : Addr) =>
  LD [.int .i64] px13 w1 fun (x14 : Int) =>
  Calls Tryz.prog F.s_l1In #[.int .i64 x14, .int .i64 lo, .int .i64 hi] w1 (Ret [.at .bool] fun (x18 : Bool) w2 =>
  cond (!x18) (
  Q false w2) (
  I2 (IntKind.i64.wrap (x11 + 1)) w2 ∧ m2 (IntKind.i64.wrap (x11 + 1)) w2 < m2 x11 w1))) (
  Q true w1)

theorem C_s_l1All {Q : Bool → World → Prop} {l : Sl} {lo : Int} {hi : Int} {w : World} (h : V_s_l1All Q l lo hi w) : Calls Tryz.prog F.s_l1All #[l.v, .int .i64 lo, .int .i64 hi] w (Ret [.at .bool] Q) :=
  mkC (hint := hint) (ann := annOf [(2, ⟨[(11, .int .i64)], [6, 8, 12, 13, 14, 15, 16, 17, 18, 19, 20]⟩)]) (args := [l.v, .int .i64 lo, .int .i64 hi]) (rs := [.at .bool]) Tryz.func29 (by kernel_rfl) (by kernel_rfl) h

def V_s_l1Same (Q : Bool → World → Prop) (a : Sl) (b : Sl) (w : World) : Prop :=
  cond ((a.len : Int) != b.len) (
  Q false w) (
  ∃ (I4 : Int → World → Prop) (m4 : Int → World → Nat), I4 0 w ∧ ∀ (x13 : Int) w1, I4 x13 w1 → ∀ _ _ _ _ _ _ _ _ _ _ _ _ _ _ : Value,
  cond (decide ((x13 : Int) < a.len)) (
  IX a x13 1 fun (px18 : Addr) =>
  LD [.int .i64] px18 w1 fun (x19 : Int) =>
  IX b x13 1 fun (px22 : Addr) =>
  LD [.int .i64] px22 w1 fun (x23 : Int) =>
  ∀ w2, Ext w1 w2 →
  cond ((x19 : Int) != x23) (
  Q false w2) (
  I4 (IntKind.i64.wrap (x13 + 1)) w2 ∧ m4 (IntKind.i64.wrap (x13 + 1)) w2 < m4 x13 w1)) (
  Q true w1))

theorem C_s_l1Same {Q : Bool → World → Prop} {a : Sl} {b : Sl} {w : World} (h : V_s_l1Same Q a b w) : Calls Tryz.prog F.s_l1Same #[a.v, b.v] w (Ret [.at .bool] Q) :=
  mkC (hint := hint) (ann := annOf [(4, ⟨[(13, .int .i64)], [4, 5, 14, 15, 16, 17, 18, 19, 20, 21, 22, 23, 24, 25]⟩)]) (args := [a.v, b.v]) (rs := [.at .bool]) Tryz.func30 (by kernel_rfl) (by kernel_rfl) h

def V_s_prSorted (Q : Sl → World → Prop) (l : Sl) (w : World) : Prop :=
  Calls Tryz.prog F.s_l1Own #[l.v] w (Ret [.at .sl] fun (x8 : Sl) w1 =>
  ∃ (I3 : Int → World → Prop) (m3 : Int → World → Nat), I3 0 w1 ∧ ∀ (x11 : Int) w2, I3 x11 w2 → ∀ _ _ _ _ _ _ _ _ _ _ _ _ _ _ _ _ _ _ _ _ _ _ _ _ _ _ _ _ _ _ _ _ _ _ _ _ _ _ _ _ : Value,
  cond (decide ((x11 : Int) < x8.len)) (
  ∃ (I6 : Int → World → Prop) (m6 : Int → World → Nat), I6 x11 w2 ∧ ∀ (k : Int) w3, I6 k w3 → ∀ _ _ _ _ _ _ _ _ _ _ _ _ _ _ _ _ _ _ _ _ _ _ _ _ _ _ _ _ _ _ _ _ _ _ : Value,
  cond (decide ((k : Int) > 0)) (
  IX x8 (IntKind.i64.wrap (k - 1)) 1 fun (px21 : Addr) =>
  LD [.int .i64] px21 w3 fun (x22 : Int) =>
  IX x8 k 1 fun (px25 : Addr) =>
  LD [.int .i64] px25 w3 fun (x26 : Int) =>
  ∀ w4, Ext w3 w4 →
  cond (decide ((x22 : Int) > x26)) (
  IX x8 k 1 fun (px33_2 : Addr) =>
  LD [.int .i64] px33_2 w4 fun (x34_2 : Int) =>
  IX x8 (IntKind.i64.wrap (k - 1)) 1 fun (px40_2 : Addr) =>
  LD [.int .i64] px40_2 w4 fun (x41_2 : Int) =>
  IX x8 k 1 fun (px42_2 : Addr) =>
  ST px42_2 0 [.int .i64 x41_2] w4 fun w8 =>
  IX x8 (IntKind.i64.wrap (k - 1)) 1 fun (px47_2 : Addr) =>
  ST px47_2 0 [.int .i64 x34_2] w8 fun w9 =>
  I6 (IntKind.i64.wrap (k - 1)) w9 ∧ m6 (IntKind.i64.wrap (k - 1)) w9 < m6 k w3) (
  I3 (IntKind.i64.wrap (x11 + 1)) w4 ∧ m3 (IntKind.i64.wrap (x11 + 1)) w4 < m3 x11 w2)) (
  ∀ w5, Ext w3 w5 →
  I3 (IntKind.i64.wrap (x11 + 1)) w5 ∧ m3 (IntKind.i64.wrap (x11 + 1)) w5 < m3 x11 w2)) (
  Q x8 w2))

theorem C_s_prSorted {Q : Sl → World → Prop} {l : Sl} {w : World} (h : V_s_prSorted Q l w) : Calls Tryz.prog F.s_prSorted #[l.v] w (Ret [.at .sl] Q) :=
  mkC (hint := hint) (ann := annOf [(3, ⟨[(11, .int .i64)], [4, 5, 6, 12, 13, 14, 15, 16, 17, 18, 19, 20, 21, 22, 23, 24, 25, 26, 27, 28, 29, 30, 31, 32, 33, 34, 35, 36, 37, 38, 39, 40, 41, 42, 43, 44, 45, 46, 47, 48]⟩), (6, ⟨[(5, .int .i64)], [6, 15, 16, 17, 18, 19, 20, 21, 22, 23, 24, 25, 26, 27, 28, 29, 30, 31, 32, 33, 34, 35, 36, 37, 38, 39, 40, 41, 42, 43, 44, 45, 46, 47]⟩)]) (args := [l.v]) (rs := [.at .sl]) Tryz.func31 (by kernel_rfl) (by kernel_rfl) h

def V_s_prOrder (Q : Int → World → Prop) (a : Sl) (b : Sl) (w : World) : Prop :=
  ∃ (I2 : Int → World → Prop) (m2 : Int → World → Nat), I2 0 w ∧ ∀ (x9 : Int) w1, I2 x9 w1 → ∀ _ _ _ _ _ _ _ _ _ _ _ _ _ _ _ _ _ _ _ _ _ : Value,
  cond (decide ((x9 : Int) < a.len)) (
  IX a x9 1 fun (px12 : Addr) =>
  LD [.int .i64] px12 w1 fun (x13 : Int) =>
  IX b x9 1 fun (px17 : Addr) =>
  LD [.int .i64] px17 w1 fun (x18 : Int) =>
  cond ((x13 : Int) != x18) (
  IX b x9 1 fun (px23 : Addr) =>
  LD [.int .i64] px23 w1 fun (x24 : Int) =>
  Calls Tryz.prog F.s_l1Sign #[.int .i64 (IntKind.i64.wrap (x13 - x24))] w1 (Ret [.at (.int .i64)] fun (x26 : Int) w2 =>
  Q x26 w2)) (
  I2 (IntKind.i64.wrap (x9 + 1)) w1 ∧ m2 (IntKind.i64.wrap (x9 + 1)) w1 < m2 x9 w1)) (
  Q 0 w1)

theorem C_s_prOrder {Q : Int → World → Prop} {a : Sl} {b : Sl} {w : World} (h : V_s_prOrder Q a b w) : Calls Tryz.prog F.s_prOrder #[a.v, b.v] w (Ret [.at (.int .i64)] Q) :=
  mkC (hint := hint) (ann := annOf [(2, ⟨[(9, .int .i64)], [4, 5, 6, 10, 11, 12, 13, 14, 15, 16, 17, 18, 19, 20, 21, 22, 23, 24, 25, 26, 27]⟩)]) (args := [a.v, b.v]) (rs := [.at (.int .i64)]) Tryz.func32 (by kernel_rfl) (by kernel_rfl) h

def V_s_roAll (Q : Sl → World → Prop) (p_0 : Int) (p_1 : Int) (p_2 : Sl) (w : World) : Prop :=
  NEW T.t_i_RootedProblem #[.int .i64 p_0, .int .i64 p_1, p_2.v] w fun (p_p : Addr) w1 =>
  ∃ (I3 : Sl → Int → World → Prop) (m3 : Sl → Int → World → Nat), I3 (⟨none, 0, 0⟩) 0 w1 ∧ ∀ (out : Sl) (a : Int) w2, I3 out a w2 → ∀ _ _ _ _ _ _ _ _ _ _ : Value,
  LD [.int .i64] (p_p.add 0) w2 fun (x7 : Int) =>
  cond (decide ((a : Int) < x7)) (
  RUN Tryz.prog (.at .sl) (Instr.buildSlice T.t_sl_int 1 #[(0, .int .i64 a)]) w2 fun (x13 : Sl) w3 =>
  RUN Tryz.prog (.at .sl) (bsem .append #[T.t_sl_int, T.t_sl_int] T.t_sl_int #[out.v, x13.v]) w3 fun (x14 : Sl) w4 =>
  I3 x14 (IntKind.i64.wrap (a + 1)) w4 ∧ m3 x14 (IntKind.i64.wrap (a + 1)) w4 < m3 out a w2) (
  Q out w2)

theorem C_s_roAll {Q : Sl → World → Prop} {p_0 : Int} {p_1 : Int} {p_2 : Sl} {w : World} (h : V_s_roAll Q p_0 p_1 p_2 w) : Calls Tryz.prog F.s_roAll #[.agg #[.int .i64 p_0, .int .i64 p_1, p_2.v]] w (Ret [.at .sl] Q) :=
  mkC (hint := hint) (ann := annOf [(3, ⟨[(3, .sl), (4, .int .i64)], [5, 6, 7, 8, 9, 10, 11, 12, 13, 14]⟩)]) (args := [.agg #[.int .i64 p_0, .int .i64 p_1, p_2.v]]) (rs := [.at .sl]) Tryz.func33 (by kernel_rfl) (by kernel_rfl) h

def V_s_waFlexible (Q : Sl → World → Prop) (p_0 : Int) (p_1 : Sl) (w : World) : Prop :=
  NEW T.t_i_WalkProblem #[.int .i64 p_0, p_1.v] w fun (p_p : Addr) w1 =>
  LD [.int .i64, .sl] p_p w1 fun (x8_0 : Int) (x8_1 : Sl) =>
  Calls Tryz.prog F.s_waParts #[.agg #[.int .i64 x8_0, x8_1.v]] w1 (Ret [.at .sl] fun (x9 : Sl) w2 =>
  ∃ (I3 : Sl → Int → World → Prop) (m3 : Sl → Int → World → Nat), I3 (⟨none, 0, 0⟩) 0 w2 ∧ ∀ (out : Sl) (x11 : Int) w3, I3 out x11 w3 → ∀ _ _ _ _ _ _ _ _ _ _ _ _ _ _ _ _ _ _ _ _ : Value,
  cond (decide ((x11 : Int) < x9.len)) (
  IX x9 x11 3 fun (px13 : Addr) =>
  LD [.sl, .int .i64, .sl] px13 w3 fun (x14_0 : Sl) (x14_1 : Int) (x14_2 : Sl) =>
  NEW T.t_s_waPart #[.slice none 0 0, .int .i64 0, .slice none 0 0] w3 fun (px : Addr) w4 =>
  ST px 0 [x14_0.v, .int .i64 x14_1, x14_2.v] w4 fun w5 =>
  LD [.sl] (px.add 0) w5 fun (x16 : Sl) =>
  ∃ (I6 : Sl → Int → World → Prop) (m6 : Sl → Int → World → Nat), I6 out 0 w5 ∧ ∀ (out_2 : Sl) (x18 : Int) w6, I6 out_2 x18 w6 → ∀ _ _ _ _ _ _ _ _ _ _ _ : Value,
  cond (decide ((x18 : Int) < x16.len)) (
  IX x16 x18 1 fun (px20 : Addr) =>
  LD [.int .i64] px20 w6 fun (x21 : Int) =>
  LD [.int .i64] (px.add 1) w6 fun (x23 : Int) =>
  cond ((x23 : Int) == 1) (
  Calls Tryz.prog F.s_l1Put #[out_2.v, .int .i64 x21] w6 (Ret [.at .sl] fun (x27 : Sl) w7 =>
  I6 x27 (IntKind.i64.wrap (x18 + 1)) w7 ∧ m6 x27 (IntKind.i64.wrap (x18 + 1)) w7 < m6 out_2 x18 w6)) (
  I6 out_2 (IntKind.i64.wrap (x18 + 1)) w6 ∧ m6 out_2 (IntKind.i64.wrap (x18 + 1)) w6 < m6 out_2 x18 w6)) (
  I3 out_2 (IntKind.i64.wrap (x11 + 1)) w6 ∧ m3 out_2 (IntKind.i64.wrap (x11 + 1)) w6 < m3 out x11 w3)) (
  Q out w3))

theorem C_s_waFlexible {Q : Sl → World → Prop} {p_0 : Int} {p_1 : Sl} {w : World} (h : V_s_waFlexible Q p_0 p_1 w) : Calls Tryz.prog F.s_waFlexible #[.agg #[.int .i64 p_0, p_1.v]] w (Ret [.at .sl] Q) :=
  mkC (hint := hint) (ann := annOf [(3, ⟨[(3, .sl), (11, .int .i64)], [5, 7, 12, 13, 14, 15, 16, 17, 18, 19, 20, 21, 22, 23, 24, 25, 26, 27, 28, 29]⟩), (6, ⟨[(3, .sl), (18, .int .i64)], [7, 19, 20, 21, 22, 23, 24, 25, 26, 27, 28]⟩)]) (args := [.agg #[.int .i64 p_0, p_1.v]]) (rs := [.at .sl]) Tryz.func34 (by kernel_rfl) (by kernel_rfl) h

def V_s_roPath (Q : Int → Sl → World → Prop) (p_0 : Int) (p_1 : Int) (p_2 : Sl) (set1 : Sl) (w : World) : Prop :=
  NEW T.t_i_RootedProblem #[.int .i64 p_0, .int .i64 p_1, p_2.v] w fun (p_p : Addr) w1 =>
  NEW T.t_i_WalkProblem #[.int .i64 0, .slice none 0 0] w1 fun (px4 : Addr) w2 =>
  LD [.int .i64] (p_p.add 0) w2 fun (x11 : Int) =>
  NEW T.t_i_WalkProblem #[.int .i64 0, .slice none 0 0] w2 fun (p_out : Addr) w3 =>
  ST p_out 0 [.int .i64 x11, .slice none 0 0] w3 fun w4 =>
  LD [.sl] (p_p.add 2) w4 fun (x14 : Sl) =>
  ∃ (I3 : Int → World → Prop) (m3 : Int → World → Nat), I3 0 w4 ∧ ∀ (x16 : Int) w5, I3 x16 w5 → ∀ _ _ _ _ _ _ _ _ _ _ _ _ _ _ _ _ _ _ _ _ _ _ _ _ _ _ _ : Value,
  cond (decide ((x16 : Int) < x14.len)) (
  IX x14 x16 1 fun (px18 : Addr) =>
  LD [.sl] px18 w5 fun (x19 : Sl) =>
  Calls Tryz.prog F.s_prAll #[x19.v, set1.v] w5 (Ret [.at .bool] fun (x22 : Bool) w6 =>
  cond (!x22) (
  I3 (IntKind.i64.wrap (x16 + 1)) w6 ∧ m3 (IntKind.i64.wrap (x16 + 1)) w6 < m3 x16 w5) (
  SLC x19 (some 1) none 1 fun (x25 : Sl) =>
  ∃ (I7 : Int → World → Prop) (m7 : Int → World → Nat), I7 0 w6 ∧ ∀ (x27 : Int) w7, I7 x27 w7 → ∀ _ _ _ _ _ _ _ _ _ _ _ _ _ _ : Value,
  cond (decide ((x27 : Int) < x25.len)) (
  IX x25 x27 1 fun (px29 : Addr) =>
  LD [.int .i64] px29 w7 fun (x30 : Int) =>
  ∀ w8, Ext w7 w8 → w8.heap = w7.heap → ∃ (D8 : Nat → Prop),
  ¬ D8 (p_out.add 1).block ∧ (
  LD [.sl] (p_out.add 1) w8 fun (x32 : Sl) =>
  IX x19 0 1 fun (px34 : Addr) =>
  ¬ D8 px34.block ∧ (
  LD [.int .i64] px34 w8 fun (x35 : Int) =>
  Chg w8 w8 D8 ∧ (
  RUN Tryz.prog (.at .sl) (Instr.buildSlice T.t_sl_int 2 #[(0, .int .i64 x35), (1, .int .i64 x30)]) w8 fun (x37 : Sl) w9 =>
  Chg w8 w9 D8 ∧ (
  Calls Tryz.prog F.s_prInsert #[x32.v, x37.v] w9 (Ret [.at .sl] fun (x38 : Sl) w10 =>
  Chg w8 w10 D8 ∧ (
  ST (p_out.add 1) 0 [x38.v] w10 fun w11 =>
  I7 (IntKind.i64.wrap (x27 + 1)) w11 ∧ m7 (IntKind.i64.wrap (x27 + 1)) w11 < m7 x27 w7))))))) (
  I3 (IntKind.i64.wrap (x16 + 1)) w7 ∧ m3 (IntKind.i64.wrap (x16 + 1)) w7 < m3 x16 w5)))) (
  LD [.int .i64, .sl] p_out w5 fun (x42_0 : Int) (x42_1 : Sl) =>
  ST px4 0 [.int .i64 x42_0, x42_1.v] w5 fun w12 =>
  LD [.int .i64, .sl] px4 w12 fun (r0_0 : Int) (r0_1 : Sl) =>
  Q r0_0 r0_1 w12)

theorem C_s_roPath {Q : Int → Sl → World → Prop} {p_0 : Int} {p_1 : Int} {p_2 : Sl} {set1 : Sl} {w : World} (h : V_s_roPath Q p_0 p_1 p_2 set1 w) : Calls Tryz.prog F.s_roPath #[.agg #[.int .i64 p_0, .int .i64 p_1, p_2.v], set1.v] w (Ret [.agg [.int .i64, .sl]] Q) :=
  mkC (hint := hint) (ann := annOf [(3, ⟨[(16, .int .i64)], [7, 9, 17, 18, 19, 20, 21, 22, 23, 24, 25, 26, 27, 28, 29, 30, 31, 32, 33, 34, 35, 36, 37, 38, 39, 40, 41]⟩), (7, ⟨[(27, .int .i64)], [9, 28, 29, 30, 31, 32, 33, 34, 35, 36, 37, 38, 39, 40]⟩)]) (args := [.agg #[.int .i64 p_0, .int .i64 p_1, p_2.v], set1.v]) (rs := [.agg [.int .i64, .sl]]) Tryz.func35 (by kernel_rfl) (by kernel_rfl) h

def V_l_toIntS (Q : Sl → World → Prop) (a : Sl) (w : World) : Prop :=
  RUN Tryz.prog (.at .sl) (Instr.makeSlice T.t_sl_int (.int .i64 a.len) (.int .i64 a.len)) w fun (x7 : Sl) w1 =>
  ∃ (I3 : Int → World → Prop) (m3 : Int → World → Nat), I3 0 w1 ∧ ∀ (i : Int) w2, I3 i w2 → ∀ _ _ _ _ _ _ _ _ _ _ _ _ _ : Value,
  cond (decide ((i : Int) < a.len)) (
  IX a i 1 fun (px18 : Addr) =>
  LD [.int .i64] px18 w2 fun (x19 : Int) =>
  IX x7 i 1 fun (px20 : Addr) =>
  ST px20 0 [.int .i64 x19] w2 fun w3 =>
  I3 (IntKind.i64.wrap (i + 1)) w3 ∧ m3 (IntKind.i64.wrap (i + 1)) w3 < m3 i w2) (
  Q x7 w2)

theorem C_l_toIntS {Q : Sl → World → Prop} {a : Sl} {w : World} (h : V_l_toIntS Q a w) : Calls Tryz.prog F.l_toIntS #[a.v] w (Ret [.at .sl] Q) :=
  mkC (hint := hint) (ann := annOf [(3, ⟨[(4, .int .i64)], [8, 9, 10, 11, 12, 13, 14, 15, 16, 17, 18, 19, 20]⟩)]) (args := [a.v]) (rs := [.at .sl]) Tryz.func36 (by kernel_rfl) (by kernel_rfl) h

def V_i_within (Q : Bool → World → Prop) (n : Int) (low : Int) (high : Int) (w : World) : Prop :=
  cond (decide ((low : Int) ≤ n)) (
  Q (decide ((n : Int) ≤ high)) w) (
  Q false w)

theorem C_i_within {Q : Bool → World → Prop} {n : Int} {low : Int} {high : Int} {w : World} (h : V_i_within Q n low high w) : Calls Tryz.prog F.i_within #[.int .i64 n, .int .i64 low, .int .i64 high] w (Ret [.at .bool] Q) :=
  mkC (hint := hint) (ann := annOf []) (args := [.int .i64 n, .int .i64 low, .int .i64 high]) (rs := [.at .bool]) Tryz.func37 (by kernel_rfl) (by kernel_rfl) h

def V_i_RootedProblem_hasLabels (Q : Bool → World → Prop) (p_0 : Int) (p_1 : Int) (p_2 : Sl) (labels : Sl) (w : World) : Prop :=
  NEW T.t_i_RootedProblem #[.int .i64 p_0, .int .i64 p_1, p_2.v] w fun (p_p : Addr) w1 =>
  LD [.int .i64] (p_p.add 0) w1 fun (x7 : Int) =>
  Calls Tryz.prog F.i_allWithin #[labels.v, .int .i64 0, .int .i64 (IntKind.i64.wrap (x7 - 1))] w1 (Ret [.at .bool] fun (x9 : Bool) w2 =>
  Q x9 w2)

theorem C_i_RootedProblem_hasLabels {Q : Bool → World → Prop} {p_0 : Int} {p_1 : Int} {p_2 : Sl} {labels : Sl} {w : World} (h : V_i_RootedProblem_hasLabels Q p_0 p_1 p_2 labels w) : Calls Tryz.prog F.i_RootedProblem_hasLabels #[.agg #[.int .i64 p_0, .int .i64 p_1, p_2.v], labels.v] w (Ret [.at .bool] Q) :=
  mkC (hint := hint) (ann := annOf []) (args := [.agg #[.int .i64 p_0, .int .i64 p_1, p_2.v], labels.v]) (rs := [.at .bool]) Tryz.func38 (by kernel_rfl) (by kernel_rfl) h

def V_slices_IsSorted_sl_int_int (Q : Bool → World → Prop) (x : Sl) (w : World) : Prop :=
  ∃ (I2 : Int → World → Prop) (m2 : Int → World → Nat), I2 (IntKind.i64.wrap (x.len - 1)) w ∧ ∀ (i : Int) w1, I2 i w1 → ∀ _ _ _ _ _ _ _ _ _ _ _ _ _ _ _ : Value,
  cond (decide ((i : Int) > 0)) (
  IX x i 1 fun (px13 : Addr) =>
  LD [.int .i64] px13 w1 fun (x14 : Int) =>
  IX x (IntKind.i64.wrap (i - 1)) 1 fun (px18 : Addr) =>
  LD [.int .i64] px18 w1 fun (x19 : Int) =>
  QCALL Tryz.prog F.cmp_Less_int #[.int .i64 x14, .int .i64 x19] w1 [.at .bool] fun (x20 : Bool) =>
  ∀ w2, Ext w1 w2 →
  cond x20 (
  Q false w2) (
  I2 (IntKind.i64.wrap (i - 1)) w2 ∧ m2 (IntKind.i64.wrap (i - 1)) w2 < m2 i w1)) (
  Q true w1)

theorem C_slices_IsSorted_sl_int_int {Q : Bool → World → Prop} {x : Sl} {w : World} (h : V_slices_IsSorted_sl_int_int Q x w) : Calls Tryz.prog F.slices_IsSorted_sl_int_int #[x.v] w (Ret [.at .bool] Q) :=
  mkC (hint := hint) (ann := annOf [(2, ⟨[(3, .int .i64)], [2, 7, 8, 9, 10, 11, 12, 13, 14, 15, 16, 17, 18, 19, 20]⟩)]) (args := [x.v]) (rs := [.at .bool]) Tryz.func39 (by kernel_rfl) (by kernel_rfl) h

def V_slices_Compare_sl_int_int (Q : Int → World → Prop) (s1 : Sl) (s2 : Sl) (w : World) : Prop :=
  ∃ (I2 : Int → World → Prop) (m2 : Int → World → Nat), I2 0 w ∧ ∀ (x11 : Int) w1, I2 x11 w1 → ∀ _ _ _ _ _ _ _ _ _ _ _ _ _ _ _ _ _ _ _ _ _ _ _ _ : Value,
  cond (decide ((x11 : Int) < s1.len)) (
  IX s1 x11 1 fun (px14 : Addr) =>
  LD [.int .i64] px14 w1 fun (x15 : Int) =>
  cond (decide ((x11 : Int) ≥ s2.len)) (
  Q 1 w1) (
  IX s2 x11 1 fun (px22 : Addr) =>
  LD [.int .i64] px22 w1 fun (x23 : Int) =>
  Calls Tryz.prog F.cmp_Compare_int #[.int .i64 x15, .int .i64 x23] w1 (Ret [.at (.int .i64)] fun (x26 : Int) w2 =>
  cond ((x26 : Int) != 0) (
  Q x26 w2) (
  I2 (IntKind.i64.wrap (x11 + 1)) w2 ∧ m2 (IntKind.i64.wrap (x11 + 1)) w2 < m2 x11 w1)))) (
  cond (decide ((s1.len : Int) < s2.len)) (
  Q (-1) w1) (
  Q 0 w1))

theorem C_slices_Compare_sl_int_int {Q : Int → World → Prop} {s1 : Sl} {s2 : Sl} {w : World} (h : V_slices_Compare_sl_int_int Q s1 s2 w) : Calls Tryz.prog F.slices_Compare_sl_int_int #[s1.v, s2.v] w (Ret [.at (.int .i64)] Q) :=
  mkC (hint := hint) (ann := annOf [(2, ⟨[(11, .int .i64)], [4, 5, 6, 7, 8, 12, 13, 14, 15, 16, 17, 18, 19, 20, 21, 22, 23, 24, 25, 26, 27, 28, 29, 30]⟩)]) (args := [s1.v, s2.v]) (rs := [.at (.int .i64)]) Tryz.func40 (by kernel_rfl) (by kernel_rfl) h

def V_i_numbersTo (Q : Sl → World → Prop) (n : Int) (w : World) : Prop :=
  RUN Tryz.prog (.at .sl) (Instr.makeSlice T.t_sl_int (.int .i64 n) (.int .i64 n)) w fun (x6 : Sl) w1 =>
  ∃ (I3 : Int → World → Prop) (m3 : Int → World → Nat), I3 0 w1 ∧ ∀ (x9 : Int) w2, I3 x9 w2 → ∀ _ _ _ _ _ _ _ _ : Value,
  cond (decide ((x9 : Int) < x6.len)) (
  IX x6 x9 1 fun (px15 : Addr) =>
  ST px15 0 [.int .i64 x9] w2 fun w3 =>
  I3 (IntKind.i64.wrap (x9 + 1)) w3 ∧ m3 (IntKind.i64.wrap (x9 + 1)) w3 < m3 x9 w2) (
  Q x6 w2)

theorem C_i_numbersTo {Q : Sl → World → Prop} {n : Int} {w : World} (h : V_i_numbersTo Q n w) : Calls Tryz.prog F.i_numbersTo #[.int .i64 n] w (Ret [.at .sl] Q) :=
  mkC (hint := hint) (ann := annOf [(3, ⟨[(9, .int .i64)], [4, 10, 11, 12, 13, 14, 15, 16]⟩)]) (args := [.int .i64 n]) (rs := [.at .sl]) Tryz.func41 (by kernel_rfl) (by kernel_rfl) h

def V_i_sharedLabels (Q : Sl → World → Prop) (a : Sl) (b : Sl) (w : World) : Prop :=
  ∃ (I3 : Sl → Int → World → Prop) (m3 : Sl → Int → World → Nat), I3 (⟨none, 0, 0⟩) 0 w ∧ ∀ (out : Sl) (x10 : Int) w1, I3 out x10 w1 → ∀ _ _ _ _ _ _ _ _ _ _ _ _ : Value,
  cond (decide ((x10 : Int) < a.len)) (
  IX a x10 1 fun (px12 : Addr) =>
  LD [.int .i64] px12 w1 fun (x13 : Int) =>
  Calls Tryz.prog F.slices_Contains_sl_int_int #[b.v, .int .i64 x13] w1 (Ret [.at .bool] fun (x16 : Bool) w2 =>
  cond x16 (
  RUN Tryz.prog (.at .sl) (Instr.buildSlice T.t_sl_int 1 #[(0, .int .i64 x13)]) w2 fun (x19 : Sl) w3 =>
  RUN Tryz.prog (.at .sl) (bsem .append #[T.t_sl_int, T.t_sl_int] T.t_sl_int #[out.v, x19.v]) w3 fun (x20 : Sl) w4 =>
  I3 x20 (IntKind.i64.wrap (x10 + 1)) w4 ∧ m3 x20 (IntKind.i64.wrap (x10 + 1)) w4 < m3 out x10 w1) (
  I3 out (IntKind.i64.wrap (x10 + 1)) w2 ∧ m3 out (IntKind.i64.wrap (x10 + 1)) w2 < m3 out x10 w1))) (
  Q out w1)

theorem C_i_sharedLabels {Q : Sl → World → Prop} {a : Sl} {b : Sl} {w : World} (h : V_i_sharedLabels Q a b w) : Calls Tryz.prog F.i_sharedLabels #[a.v, b.v] w (Ret [.at .sl] Q) :=
  mkC (hint := hint) (ann := annOf [(3, ⟨[(5, .sl), (10, .int .i64)], [7, 11, 12, 13, 14, 15, 16, 17, 18, 19, 20, 21]⟩)]) (args := [a.v, b.v]) (rs := [.at .sl]) Tryz.func42 (by kernel_rfl) (by kernel_rfl) h

def V_i_RootedProblem_pathForm (Q : Int → Sl → World → Prop) (p_0 : Int) (p_1 : Int) (p_2 : Sl) (set1 : Int) (w : World) : Prop :=
  NEW T.t_i_RootedProblem #[.int .i64 p_0, .int .i64 p_1, p_2.v] w fun (p_p : Addr) w1 =>
  NEW T.t_i_WalkProblem #[.int .i64 0, .slice none 0 0] w1 fun (px4 : Addr) w2 =>
  LD [.int .i64] (p_p.add 0) w2 fun (x11 : Int) =>
  NEW T.t_i_WalkProblem #[.int .i64 0, .slice none 0 0] w2 fun (p_out : Addr) w3 =>
  ST p_out 0 [.int .i64 x11, .slice none 0 0] w3 fun w4 =>
  LD [.sl] (p_p.add 2) w4 fun (x14 : Sl) =>
  ∃ (I3 : Int → World → Prop) (m3 : Int → World → Nat), I3 0 w4 ∧ ∀ (x16 : Int) w5, I3 x16 w5 → ∀ _ _ _ _ _ _ _ _ _ _ _ _ _ _ _ _ _ _ _ _ _ _ _ _ _ _ _ : Value,
  cond (decide ((x16 : Int) < x14.len)) (
  IX x14 x16 1 fun (px18 : Addr) =>
  LD [.sl] px18 w5 fun (x19 : Sl) =>
  Calls Tryz.prog F.i_onlyIn #[.int .i64 set1, x19.v] w5 (Ret [.at .bool] fun (x22 : Bool) w6 =>
  cond x22 (
  SLC x19 (some 1) none 1 fun (x24 : Sl) =>
  ∃ (I7 : Int → World → Prop) (m7 : Int → World → Nat), I7 0 w6 ∧ ∀ (x26 : Int) w7, I7 x26 w7 → ∀ _ _ _ _ _ _ _ _ _ _ _ _ _ _ _ : Value,
  cond (decide ((x26 : Int) < x24.len)) (
  IX x24 x26 1 fun (px28 : Addr) =>
  LD [.int .i64] px28 w7 fun (x29 : Int) =>
  ∀ w8, Ext w7 w8 → w8.heap = w7.heap → ∃ (D8 : Nat → Prop),
  ¬ D8 (p_out.add 1).block ∧ (
  LD [.sl] (p_out.add 1) w8 fun (x31 : Sl) =>
  IX x19 0 1 fun (px33 : Addr) =>
  ¬ D8 px33.block ∧ (
  LD [.int .i64] px33 w8 fun (x34 : Int) =>
  Chg w8 w8 D8 ∧ (
  RUN Tryz.prog (.at .sl) (Instr.buildSlice T.t_sl_int 2 #[(0, .int .i64 x34), (1, .int .i64 x29)]) w8 fun (x36 : Sl) w9 =>
  Chg w8 w9 D8 ∧ (
  RUN Tryz.prog (.at .sl) (Instr.buildSlice T.t_sl_sl_int 1 #[(0, x36.v)]) w9 fun (x37 : Sl) w10 =>
  Chg w8 w10 D8 ∧ (
  RUN Tryz.prog (.at .sl) (bsem .append #[T.t_sl_sl_int, T.t_sl_sl_int] T.t_sl_sl_int #[x31.v, x37.v]) w10 fun (x38 : Sl) w11 =>
  Chg w8 w11 D8 ∧ (
  ST (p_out.add 1) 0 [x38.v] w11 fun w12 =>
  I7 (IntKind.i64.wrap (x26 + 1)) w12 ∧ m7 (IntKind.i64.wrap (x26 + 1)) w12 < m7 x26 w7))))))) (
  I3 (IntKind.i64.wrap (x16 + 1)) w7 ∧ m3 (IntKind.i64.wrap (x16 + 1)) w7 < m3 x16 w5)) (
  I3 (IntKind.i64.wrap (x16 + 1)) w6 ∧ m3 (IntKind.i64.wrap (x16 + 1)) w6 < m3 x16 w5))) (
  LD [.sl] (p_out.add 1) w5 fun (x43 : Sl) =>
  Calls Tryz.prog F.i_sortedLists #[x43.v] w5 (Ret [.at .sl] fun (x44 : Sl) w13 =>
  ST (p_out.add 1) 0 [x44.v] w13 fun w14 =>
  LD [.int .i64, .sl] p_out w14 fun (x46_0 : Int) (x46_1 : Sl) =>
  ST px4 0 [.int .i64 x46_0, x46_1.v] w14 fun w15 =>
  LD [.int .i64, .sl] px4 w15 fun (r0_0 : Int) (r0_1 : Sl) =>
  Q r0_0 r0_1 w15))

theorem C_i_RootedProblem_pathForm {Q : Int → Sl → World → Prop} {p_0 : Int} {p_1 : Int} {p_2 : Sl} {set1 : Int} {w : World} (h : V_i_RootedProblem_pathForm Q p_0 p_1 p_2 set1 w) : Calls Tryz.prog F.i_RootedProblem_pathForm #[.agg #[.int .i64 p_0, .int .i64 p_1, p_2.v], .int .i64 set1] w (Ret [.agg [.int .i64, .sl]] Q) :=
  mkC (hint := hint) (ann := annOf [(3, ⟨[(16, .int .i64)], [7, 9, 17, 18, 19, 20, 21, 22, 23, 24, 25, 26, 27, 28, 29, 30, 31, 32, 33, 34, 35, 36, 37, 38, 39, 40, 41]⟩), (7, ⟨[(26, .int .i64)], [9, 27, 28, 29, 30, 31, 32, 33, 34, 35, 36, 37, 38, 39, 40]⟩)]) (args := [.agg #[.int .i64 p_0, .int .i64 p_1, p_2.v], .int .i64 set1]) (rs := [.agg [.int .i64, .sl]]) Tryz.func43 (by kernel_rfl) (by kernel_rfl) h

def V_i_setOf (Q : Int → World → Prop) (labels : Sl) (w : World) : Prop :=
  ∃ (I3 : Int → Int → World → Prop) (m3 : Int → Int → World → Nat), I3 0 0 w ∧ ∀ (set1 : Int) (x8 : Int) w1, I3 set1 x8 w1 → ∀ _ _ _ _ _ _ _ _ _ : Value,
  cond (decide ((x8 : Int) < labels.len)) (
  IX labels x8 1 fun (px10 : Addr) =>
  LD [.int .i64] px10 w1 fun (x11 : Int) =>
  (0 : Int) ≤ x11 ∧ (
  I3 (bitOr .i64 set1 (shlI .i64 1 x11)) (IntKind.i64.wrap (x8 + 1)) w1 ∧ m3 (bitOr .i64 set1 (shlI .i64 1 x11)) (IntKind.i64.wrap (x8 + 1)) w1 < m3 set1 x8 w1)) (
  Q set1 w1)

theorem C_i_setOf {Q : Int → World → Prop} {labels : Sl} {w : World} (h : V_i_setOf Q labels w) : Calls Tryz.prog F.i_setOf #[labels.v] w (Ret [.at (.int .i64)] Q) :=
  mkC (hint := hint) (ann := annOf [(3, ⟨[(3, .int .i64), (8, .int .i64)], [5, 9, 10, 11, 12, 13, 14, 15, 16]⟩)]) (args := [labels.v]) (rs := [.at (.int .i64)]) Tryz.func44 (by kernel_rfl) (by kernel_rfl) h

def V_i_WalkProblem_flexibleLabels (Q : Sl → World → Prop) (p_0 : Int) (p_1 : Sl) (w : World) : Prop :=
  NEW T.t_i_WalkProblem #[.int .i64 p_0, p_1.v] w fun (p_p : Addr) w1 =>
  LD [.int .i64, .sl] p_p w1 fun (x9_0 : Int) (x9_1 : Sl) =>
  Calls Tryz.prog F.i_WalkProblem_walkComponents #[.agg #[.int .i64 x9_0, x9_1.v]] w1 (Ret [.at .sl, .at .sl] fun (x10_0 : Sl) (x10_1 : Sl) w2 =>
  ∃ (I4 : Sl → Int → World → Prop) (m4 : Sl → Int → World → Nat), I4 (⟨none, 0, 0⟩) 0 w2 ∧ ∀ (out : Sl) (x15 : Int) w3, I4 out x15 w3 → ∀ _ _ _ _ _ _ _ _ _ _ _ _ _ _ _ : Value,
  cond (decide ((x15 : Int) < x10_0.len)) (
  IX x10_0 x15 1 fun (px18 : Addr) =>
  LD [.sl] px18 w3 fun (x19 : Sl) =>
  IX x10_1 x15 1 fun (px22 : Addr) =>
  LD [.int .i64] px22 w3 fun (x23 : Int) =>
  cond ((x23 : Int) == 1) (
  RUN Tryz.prog (.at .sl) (bsem .append #[T.t_sl_int, T.t_sl_int] T.t_sl_int #[out.v, x19.v]) w3 fun (x27 : Sl) w4 =>
  I4 x27 (IntKind.i64.wrap (x15 + 1)) w4 ∧ m4 x27 (IntKind.i64.wrap (x15 + 1)) w4 < m4 out x15 w3) (
  I4 out (IntKind.i64.wrap (x15 + 1)) w3 ∧ m4 out (IntKind.i64.wrap (x15 + 1)) w3 < m4 out x15 w3)) (
  Calls Tryz.prog F.slices_Sort_sl_int_int #[out.v] w3 (Ret [] fun w5 =>
  Q out w5)))

theorem C_i_WalkProblem_flexibleLabels {Q : Sl → World → Prop} {p_0 : Int} {p_1 : Sl} {w : World} (h : V_i_WalkProblem_flexibleLabels Q p_0 p_1 w) : Calls Tryz.prog F.i_WalkProblem_flexibleLabels #[.agg #[.int .i64 p_0, p_1.v]] w (Ret [.at .sl] Q) :=
  mkC (hint := hint) (ann := annOf [(4, ⟨[(3, .sl), (15, .int .i64)], [6, 7, 16, 17, 18, 19, 20, 21, 22, 23, 24, 25, 26, 27, 28]⟩)]) (args := [.agg #[.int .i64 p_0, p_1.v]]) (rs := [.at .sl]) Tryz.func45 (by kernel_rfl) (by kernel_rfl) h

def V_s_roAbove (Q : Sl → World → Prop) (p_0 : Int) (p_1 : Int) (p_2 : Sl) (set1 : Sl) (w : World) : Prop :=
  NEW T.t_i_RootedProblem #[.int .i64 p_0, .int .i64 p_1, p_2.v] w fun (p_p : Addr) w1 =>
  LD [.sl] (p_p.add 2) w1 fun (x9 : Sl) =>
  ∃ (I3 : Sl → Int → World → Prop) (m3 : Sl → Int → World → Nat), I3 (⟨none, 0, 0⟩) 0 w1 ∧ ∀ (out : Sl) (x11 : Int) w2, I3 out x11 w2 → ∀ _ _ _ _ _ _ _ _ _ _ _ _ _ _ : Value,
  cond (decide ((x11 : Int) < x9.len)) (
  IX x9 x11 1 fun (px13 : Addr) =>
  LD [.sl] px13 w2 fun (x14 : Sl) =>
  SLC x14 (some 1) none 1 fun (x16 : Sl) =>
  Calls Tryz.prog F.s_prAll #[x16.v, set1.v] w2 (Ret [.at .bool] fun (x18 : Bool) w3 =>
  cond x18 (
  IX x14 0 1 fun (px21 : Addr) =>
  LD [.int .i64] px21 w3 fun (x22 : Int) =>
  Calls Tryz.prog F.s_l1Put #[out.v, .int .i64 x22] w3 (Ret [.at .sl] fun (x23 : Sl) w4 =>
  I3 x23 (IntKind.i64.wrap (x11 + 1)) w4 ∧ m3 x23 (IntKind.i64.wrap (x11 + 1)) w4 < m3 out x11 w2)) (
  I3 out (IntKind.i64.wrap (x11 + 1)) w3 ∧ m3 out (IntKind.i64.wrap (x11 + 1)) w3 < m3 out x11 w2))) (
  Q out w2)

theorem C_s_roAbove {Q : Sl → World → Prop} {p_0 : Int} {p_1 : Int} {p_2 : Sl} {set1 : Sl} {w : World} (h : V_s_roAbove Q p_0 p_1 p_2 set1 w) : Calls Tryz.prog F.s_roAbove #[.agg #[.int .i64 p_0, .int .i64 p_1, p_2.v], set1.v] w (Ret [.at .sl] Q) :=
  mkC (hint := hint) (ann := annOf [(3, ⟨[(5, .sl), (11, .int .i64)], [7, 12, 13, 14, 15, 16, 17, 18, 19, 20, 21, 22, 23, 24]⟩)]) (args := [.agg #[.int .i64 p_0, .int .i64 p_1, p_2.v], set1.v]) (rs := [.at .sl]) Tryz.func46 (by kernel_rfl) (by kernel_rfl) h

def V_i_RootedProblem_rootsAbove (Q : Int → World → Prop) (p_0 : Int) (p_1 : Int) (p_2 : Sl) (set1 : Int) (w : World) : Prop :=
  NEW T.t_i_RootedProblem #[.int .i64 p_0, .int .i64 p_1, p_2.v] w fun (p_p : Addr) w1 =>
  LD [.sl] (p_p.add 2) w1 fun (x9 : Sl) =>
  ∃ (I3 : Int → Int → World → Prop) (m3 : Int → Int → World → Nat), I3 0 0 w1 ∧ ∀ (out : Int) (x11 : Int) w2, I3 out x11 w2 → ∀ _ _ _ _ _ _ _ _ _ _ _ _ _ _ _ : Value,
  cond (decide ((x11 : Int) < x9.len)) (
  IX x9 x11 1 fun (px13 : Addr) =>
  LD [.sl] px13 w2 fun (x14 : Sl) =>
  SLC x14 (some 1) none 1 fun (x17 : Sl) =>
  Calls Tryz.prog F.i_onlyIn #[.int .i64 set1, x17.v] w2 (Ret [.at .bool] fun (x18 : Bool) w3 =>
  cond x18 (
  IX x14 0 1 fun (px21 : Addr) =>
  LD [.int .i64] px21 w3 fun (x22 : Int) =>
  (0 : Int) ≤ x22 ∧ (
  I3 (bitOr .i64 out (shlI .i64 1 x22)) (IntKind.i64.wrap (x11 + 1)) w3 ∧ m3 (bitOr .i64 out (shlI .i64 1 x22)) (IntKind.i64.wrap (x11 + 1)) w3 < m3 out x11 w2)) (
  I3 out (IntKind.i64.wrap (x11 + 1)) w3 ∧ m3 out (IntKind.i64.wrap (x11 + 1)) w3 < m3 out x11 w2))) (
  Q out w2)

theorem C_i_RootedProblem_rootsAbove {Q : Int → World → Prop} {p_0 : Int} {p_1 : Int} {p_2 : Sl} {set1 : Int} {w : World} (h : V_i_RootedProblem_rootsAbove Q p_0 p_1 p_2 set1 w) : Calls Tryz.prog F.i_RootedProblem_rootsAbove #[.agg #[.int .i64 p_0, .int .i64 p_1, p_2.v], .int .i64 set1] w (Ret [.at (.int .i64)] Q) :=
  mkC (hint := hint) (ann := annOf [(3, ⟨[(5, .int .i64), (11, .int .i64)], [7, 12, 13, 14, 15, 16, 17, 18, 19, 20, 21, 22, 23, 24, 25]⟩)]) (args := [.agg #[.int .i64 p_0, .int .i64 p_1, p_2.v], .int .i64 set1]) (rs := [.at (.int .i64)]) Tryz.func47 (by kernel_rfl) (by kernel_rfl) h

def V_s_l1Own (Q : Sl → World → Prop) (l : Sl) (w : World) : Prop :=
  RUN Tryz.prog (.at .sl) (Instr.buildSlice T.t_sl_int 0 #[]) w fun (x3 : Sl) w1 =>
  RUN Tryz.prog (.at .sl) (bsem .append #[T.t_sl_int, T.t_sl_int] T.t_sl_int #[x3.v, l.v]) w1 fun (x5 : Sl) w2 =>
  Q x5 w2

theorem C_s_l1Own {Q : Sl → World → Prop} {l : Sl} {w : World} (h : V_s_l1Own Q l w) : Calls Tryz.prog F.s_l1Own #[l.v] w (Ret [.at .sl] Q) :=
  mkC (hint := hint) (ann := annOf []) (args := [l.v]) (rs := [.at .sl]) Tryz.func48 (by kernel_rfl) (by kernel_rfl) h

def V_s_l1Sign (Q : Int → World → Prop) (n : Int) (w : World) : Prop :=
  cond (decide ((n : Int) > 0)) (
  Q 1 w) (
  cond (decide ((n : Int) < 0)) (
  Q (-1) w) (
  Q 0 w))

theorem C_s_l1Sign {Q : Int → World → Prop} {n : Int} {w : World} (h : V_s_l1Sign Q n w) : Calls Tryz.prog F.s_l1Sign #[.int .i64 n] w (Ret [.at (.int .i64)] Q) :=
  mkC (hint := hint) (ann := annOf []) (args := [.int .i64 n]) (rs := [.at (.int .i64)]) Tryz.func49 (by kernel_rfl) (by kernel_rfl) h

def V_s_waParts_k4 (I5 : Sl → Int → World → Prop) (m5 : Sl → Int → World → Nat) (w4 : World) (px1 : Addr) (x15 : Sl) (x18 : Sl) (x4 : Sl) (x6 : Int) (w5 : World) : Prop :=
  NEW T.t_s_waPart #[.slice none 0 0, .int .i64 0, .slice none 0 0] w5 fun (px7 : Addr) w6 =>
  ST px7 0 [.slice none 0 0, .int .i64 0, .slice none 0 0] w6 fun w7 =>
  ∃ (I10 : Int → World → Prop) (m10 : Int → World → Nat), I10 0 w7 ∧ ∀ (x8 : Int) w8, I10 x8 w8 → ∀ _ _ _ _ _ _ _ _ _ _ _ _ _ _ _ _ _ _ _ _ _ _ _ _ _ _ _ _ _ _ _ : Value,
  LD [.int .i64] (px1.add 0) w8 fun (x42 : Int) =>
  cond (decide ((x8 : Int) < x42)) (
  IX x15 x6 1 fun (px48 : Addr) =>
  LD [.sl] px48 w8 fun (x49 : Sl) =>
  IX x49 x8 1 fun (px51 : Addr) =>
  LD [.bool] px51 w8 fun (x52 : Bool) =>
  cond x52 (
  IX x15 x8 1 fun (px56 : Addr) =>
  LD [.sl] px56 w8 fun (x57 : Sl) =>
  IX x57 x6 1 fun (px59 : Addr) =>
  LD [.bool] px59 w8 fun (x60 : Bool) =>
  cond x60 (
  LD [.sl] (px7.add 0) w8 fun (x63 : Sl) =>
  RUN Tryz.prog (.at .sl) (Instr.buildSlice T.t_sl_int 1 #[(0, .int .i64 x8)]) w8 fun (x65 : Sl) w9 =>
  RUN Tryz.prog (.at .sl) (bsem .append #[T.t_sl_int, T.t_sl_int] T.t_sl_int #[x63.v, x65.v]) w9 fun (x66 : Sl) w10 =>
  ST (px7.add 0) 0 [x66.v] w10 fun w11 =>
  IX x18 x8 1 fun (px70 : Addr) =>
  ST px70 0 [.bool true] w11 fun w12 =>
  I10 (IntKind.i64.wrap (x8 + 1)) w12 ∧ m10 (IntKind.i64.wrap (x8 + 1)) w12 < m10 x8 w8) (
  I10 (IntKind.i64.wrap (x8 + 1)) w8 ∧ m10 (IntKind.i64.wrap (x8 + 1)) w8 < m10 x8 w8)) (
  I10 (IntKind.i64.wrap (x8 + 1)) w8 ∧ m10 (IntKind.i64.wrap (x8 + 1)) w8 < m10 x8 w8)) (
  LD [.int .i64, .sl] px1 w8 fun (x71_0 : Int) (x71_1 : Sl) =>
  LD [.sl] (px7.add 0) w8 fun (x73 : Sl) =>
  Calls Tryz.prog F.s_waDepths #[.agg #[.int .i64 x71_0, x71_1.v], x73.v] w8 (Ret [.at .sl] fun (x74 : Sl) w13 =>
  LD [.sl] (px1.add 1) w13 fun (x76 : Sl) =>
  ∃ (I17 : Int → World → Prop) (m17 : Int → World → Nat), I17 0 w13 ∧ ∀ (x78 : Int) w14, I17 x78 w14 → ∀ _ _ _ _ _ _ _ _ _ _ _ _ _ _ _ _ _ _ _ _ _ _ _ _ _ _ _ _ _ _ _ _ _ _ _ _ _ _ : Value,
  cond (decide ((x78 : Int) < x76.len)) (
  IX x76 x78 1 fun (px80 : Addr) =>
  LD [.sl] px80 w14 fun (x81 : Sl) =>
  LD [.sl] (px7.add 0) w14 fun (x83 : Sl) =>
  IX x81 0 1 fun (px85 : Addr) =>
  LD [.int .i64] px85 w14 fun (x86 : Int) =>
  QCALL Tryz.prog F.s_l1Has #[x83.v, .int .i64 x86] w14 [.at .bool] fun (x87 : Bool) =>
  cond x87 (
  LD [.sl] (px7.add 0) w14 fun (x90 : Sl) =>
  IX x81 1 1 fun (px92 : Addr) =>
  LD [.int .i64] px92 w14 fun (x93 : Int) =>
  QCALL Tryz.prog F.s_l1Has #[x90.v, .int .i64 x93] w14 [.at .bool] fun (x94 : Bool) =>
  ∀ w15, Ext w14 w15 →
  cond x94 (
  ∀ w17, Ext w15 w17 → w17.heap = w15.heap → ∃ (D17 : Nat → Prop),
  ¬ D17 (px7.add 1).block ∧ (
  LD [.int .i64] (px7.add 1) w17 fun (x97 : Int) =>
  IX x81 0 1 fun (px100 : Addr) =>
  ¬ D17 px100.block ∧ (
  LD [.int .i64] px100 w17 fun (x101 : Int) =>
  IX x74 x101 1 fun (px102 : Addr) =>
  ¬ D17 px102.block ∧ (
  LD [.int .i64] px102 w17 fun (x103 : Int) =>
  Chg w17 w17 D17 ∧ (
  IX x81 1 1 fun (px107 : Addr) =>
  Chg w17 w17 D17 ∧ (
  LD [.int .i64] px107 w17 fun (x108 : Int) =>
  Chg w17 w17 D17 ∧ (
  IX x74 x108 1 fun (px109 : Addr) =>
  Chg w17 w17 D17 ∧ (
  LD [.int .i64] px109 w17 fun (x110 : Int) =>
  Chg w17 w17 D17 ∧ (
  Chg w17 w17 D17 ∧ (
  Calls Tryz.prog F.s_l1Abs #[.int .i64 (IntKind.i64.wrap ((IntKind.i64.wrap (x103 + 1)) - x110))] w17 (Ret [.at (.int .i64)] fun (x112 : Int) w18 =>
  Chg w17 w18 D17 ∧ (
  Calls Tryz.prog F.s_waGcd #[.int .i64 x97, .int .i64 x112] w18 (Ret [.at (.int .i64)] fun (x113 : Int) w19 =>
  Chg w17 w19 D17 ∧ (
  ST (px7.add 1) 0 [.int .i64 x113] w19 fun w20 =>
  I17 (IntKind.i64.wrap (x78 + 1)) w20 ∧ m17 (IntKind.i64.wrap (x78 + 1)) w20 < m17 x78 w14)))))))))))))) (
  I17 (IntKind.i64.wrap (x78 + 1)) w15 ∧ m17 (IntKind.i64.wrap (x78 + 1)) w15 < m17 x78 w14)) (
  ∀ w16, Ext w14 w16 →
  I17 (IntKind.i64.wrap (x78 + 1)) w16 ∧ m17 (IntKind.i64.wrap (x78 + 1)) w16 < m17 x78 w14)) (
  LD [.sl] (px7.add 0) w14 fun (x117 : Sl) =>
  ∃ (I23 : Int → World → Prop) (m23 : Int → World → Nat), I23 0 w14 ∧ ∀ (x119 : Int) w21, I23 x119 w21 → ∀ _ _ _ _ _ _ _ _ _ _ _ _ _ _ _ _ _ : Value,
  cond (decide ((x119 : Int) < x117.len)) (
  IX x117 x119 1 fun (px121 : Addr) =>
  LD [.int .i64] px121 w21 fun (x122 : Int) =>
  ∀ w22, Ext w21 w22 → w22.heap = w21.heap → ∃ (D22 : Nat → Prop),
  ¬ D22 (px7.add 2).block ∧ (
  LD [.sl] (px7.add 2) w22 fun (x124 : Sl) =>
  IX x74 x122 1 fun (px127 : Addr) =>
  ¬ D22 px127.block ∧ (
  LD [.int .i64] px127 w22 fun (x128 : Int) =>
  Chg w22 w22 D22 ∧ (
  LD [.int .i64] (px7.add 1) w22 fun (x130 : Int) =>
  Chg w22 w22 D22 ∧ (
  (x130 : Int) ≠ 0 ∧ (
  Chg w22 w22 D22 ∧ (
  RUN Tryz.prog (.at .sl) (Instr.buildSlice T.t_sl_int 1 #[(0, .int .i64 (Int.tmod x128 x130))]) w22 fun (x132 : Sl) w23 =>
  Chg w22 w23 D22 ∧ (
  RUN Tryz.prog (.at .sl) (bsem .append #[T.t_sl_int, T.t_sl_int] T.t_sl_int #[x124.v, x132.v]) w23 fun (x133 : Sl) w24 =>
  Chg w22 w24 D22 ∧ (
  ST (px7.add 2) 0 [x133.v] w24 fun w25 =>
  I23 (IntKind.i64.wrap (x119 + 1)) w25 ∧ m23 (IntKind.i64.wrap (x119 + 1)) w25 < m23 x119 w21))))))))) (
  LD [.sl, .int .i64, .sl] px7 w21 fun (x137_0 : Sl) (x137_1 : Int) (x137_2 : Sl) =>
  RUN Tryz.prog (.at .sl) (Instr.buildSlice T.t_sl_s_waPart 1 #[(0, .agg #[x137_0.v, .int .i64 x137_1, x137_2.v])]) w21 fun (x138 : Sl) w26 =>
  RUN Tryz.prog (.at .sl) (bsem .append #[T.t_sl_s_waPart, T.t_sl_s_waPart] T.t_sl_s_waPart #[x4.v, x138.v]) w26 fun (x139 : Sl) w27 =>
  I5 x139 (IntKind.i64.wrap (x6 + 1)) w27 ∧ m5 x139 (IntKind.i64.wrap (x6 + 1)) w27 < m5 x4 x6 w4))))

def V_s_waParts (Q : Sl → World → Prop) (x0_0 : Int) (x0_1 : Sl) (w : World) : Prop :=
  NEW T.t_i_WalkProblem #[.int .i64 x0_0, x0_1.v] w fun (px1 : Addr) w1 =>
  LD [.int .i64, .sl] px1 w1 fun (x14_0 : Int) (x14_1 : Sl) =>
  Calls Tryz.prog F.s_waReach #[.agg #[.int .i64 x14_0, x14_1.v]] w1 (Ret [.at .sl] fun (x15 : Sl) w2 =>
  LD [.int .i64] (px1.add 0) w2 fun (x17 : Int) =>
  RUN Tryz.prog (.at .sl) (Instr.makeSlice T.t_sl_bool (.int .i64 x17) (.int .i64 x17)) w2 fun (x18 : Sl) w3 =>
  ∃ (I5 : Sl → Int → World → Prop) (m5 : Sl → Int → World → Nat), I5 (⟨none, 0, 0⟩) 0 w3 ∧ ∀ (x4 : Sl) (x6 : Int) w4, I5 x4 x6 w4 → ∀ _ _ _ _ _ _ _ _ _ _ _ _ _ _ _ _ _ _ _ _ _ _ _ _ _ _ _ _ _ _ _ _ _ _ _ _ _ _ _ _ _ _ _ _ _ _ _ _ _ _ _ _ _ _ _ _ _ _ _ _ _ _ _ _ _ _ _ _ _ _ _ _ _ _ _ _ _ _ _ _ _ _ _ _ _ _ _ _ _ _ _ _ _ _ _ _ _ _ _ _ _ _ _ _ _ _ _ _ _ _ _ _ _ _ _ _ _ _ _ _ _ _ _ _ _ _ : Value,
  LD [.int .i64] (px1.add 0) w4 fun (x21 : Int) =>
  cond (decide ((x6 : Int) < x21)) (
  IX x18 x6 1 fun (px27 : Addr) =>
  LD [.bool] px27 w4 fun (x28 : Bool) =>
  cond x28 (
  I5 x4 (IntKind.i64.wrap (x6 + 1)) w4 ∧ m5 x4 (IntKind.i64.wrap (x6 + 1)) w4 < m5 x4 x6 w4) (
  IX x15 x6 1 fun (px32 : Addr) =>
  LD [.sl] px32 w4 fun (x33 : Sl) =>
  IX x33 x6 1 fun (px35 : Addr) =>
  LD [.bool] px35 w4 fun (x36 : Bool) =>
  cond (!x36) (
  I5 x4 (IntKind.i64.wrap (x6 + 1)) w4 ∧ m5 x4 (IntKind.i64.wrap (x6 + 1)) w4 < m5 x4 x6 w4) (
  V_s_waParts_k4 I5 m5 w4 px1 x15 x18 x4 x6 w4))) (
  Q x4 w4))

theorem C_s_waParts {Q : Sl → World → Prop} {x0_0 : Int} {x0_1 : Sl} {w : World} (h : V_s_waParts Q x0_0 x0_1 w) : Calls Tryz.prog F.s_waParts #[.agg #[.int .i64 x0_0, x0_1.v]] w (Ret [.at .sl] Q) :=
  mkC (hint := hint) (ann := annOf [(5, ⟨[(4, .sl), (6, .int .i64)], [7, 8, 9, 11, 13, 19, 20, 21, 22, 23, 24, 25, 26, 27, 28, 29, 30, 31, 32, 33, 34, 35, 36, 37, 38, 39, 40, 41, 42, 43, 44, 45, 46, 47, 48, 49, 50, 51, 52, 53, 54, 55, 56, 57, 58, 59, 60, 61, 62, 63, 64, 65, 66, 67, 68, 69, 70, 71, 72, 73, 74, 75, 76, 77, 78, 79, 80, 81, 82, 83, 84, 85, 86, 87, 88, 89, 90, 91, 92, 93, 94, 95, 96, 97, 98, 99, 100, 101, 102, 103, 104, 105, 106, 107, 108, 109, 110, 111, 112, 113, 114, 115, 116, 117, 118, 119, 120, 121, 122, 123, 124, 125, 126, 127, 128, 129, 130, 131, 132, 133, 134, 135, 136, 137, 138, 139]⟩), (10, ⟨[(8, .int .i64)], [40, 41, 42, 43, 44, 45, 46, 47, 48, 49, 50, 51, 52, 53, 54, 55, 56, 57, 58, 59, 60, 61, 62, 63, 64, 65, 66, 67, 68, 69, 70]⟩), (17, ⟨[(78, .int .i64)], [11, 79, 80, 81, 82, 83, 84, 85, 86, 87, 88, 89, 90, 91, 92, 93, 94, 95, 96, 97, 98, 99, 100, 101, 102, 103, 104, 105, 106, 107, 108, 109, 110, 111, 112, 113, 114, 115]⟩), (23, ⟨[(119, .int .i64)], [13, 120, 121, 122, 123, 124, 125, 126, 127, 128, 129, 130, 131, 132, 133, 134, 135]⟩)]) (args := [.agg #[.int .i64 x0_0, x0_1.v]]) (rs := [.at .sl]) Tryz.func50 (by kernel_rfl) (by kernel_rfl) h

def V_s_l1Put_k4 (l : Sl) (n : Int) (Q : Sl → World → Prop) (k : Int) (w3 : World) : Prop :=
  RUN Tryz.prog (.at .sl) (Instr.buildSlice T.t_sl_int 0 #[]) w3 fun (x34 : Sl) w4 =>
  SLC l none (some k) 1 fun (x37 : Sl) =>
  RUN Tryz.prog (.at .sl) (bsem .append #[T.t_sl_int, T.t_sl_int] T.t_sl_int #[x34.v, x37.v]) w4 fun (x38 : Sl) w5 =>
  RUN Tryz.prog (.at .sl) (Instr.buildSlice T.t_sl_int 1 #[(0, .int .i64 n)]) w5 fun (x41 : Sl) w6 =>
  RUN Tryz.prog (.at .sl) (bsem .append #[T.t_sl_int, T.t_sl_int] T.t_sl_int #[x38.v, x41.v]) w6 fun (x42 : Sl) w7 =>
  SLC l (some k) none 1 fun (x46 : Sl) =>
  RUN Tryz.prog (.at .sl) (bsem .append #[T.t_sl_int, T.t_sl_int] T.t_sl_int #[x42.v, x46.v]) w7 fun (x47 : Sl) w8 =>
  Q x47 w8

def V_s_l1Put_k1 (l : Sl) (n : Int) (Q : Sl → World → Prop) (k : Int) (w2 : World) : Prop :=
  cond (decide ((k : Int) < l.len)) (
  IX l k 1 fun (px28 : Addr) =>
  LD [.int .i64] px28 w2 fun (x29 : Int) =>
  cond ((x29 : Int) == n) (
  Q l w2) (
  V_s_l1Put_k4 l n Q k w2)) (
  V_s_l1Put_k4 l n Q k w2)

def V_s_l1Put (Q : Sl → World → Prop) (l : Sl) (n : Int) (w : World) : Prop :=
  ∃ (I2 : Int → World → Prop) (m2 : Int → World → Nat), I2 0 w ∧ ∀ (k : Int) w1, I2 k w1 → ∀ _ _ _ _ _ _ _ _ _ _ _ _ _ _ : Value,
  cond (decide ((k : Int) < l.len)) (
  IX l k 1 fun (px14 : Addr) =>
  LD [.int .i64] px14 w1 fun (x15 : Int) =>
  cond (decide ((x15 : Int) < n)) (
  I2 (IntKind.i64.wrap (k + 1)) w1 ∧ m2 (IntKind.i64.wrap (k + 1)) w1 < m2 k w1) (
  V_s_l1Put_k1 l n Q k w1)) (
  V_s_l1Put_k1 l n Q k w1)

theorem C_s_l1Put {Q : Sl → World → Prop} {l : Sl} {n : Int} {w : World} (h : V_s_l1Put Q l n w) : Calls Tryz.prog F.s_l1Put #[l.v, .int .i64 n] w (Ret [.at .sl] Q) :=
  mkC (hint := hint) (ann := annOf [(2, ⟨[(5, .int .i64)], [7, 8, 9, 10, 11, 12, 13, 14, 15, 16, 17, 18, 19, 20]⟩)]) (args := [l.v, .int .i64 n]) (rs := [.at .sl]) Tryz.func51 (by kernel_rfl) (by kernel_rfl) h

def V_s_prAll (Q : Bool → World → Prop) (x : Sl) (set1 : Sl) (w : World) : Prop :=
  ∃ (I2 : Int → World → Prop) (m2 : Int → World → Nat), I2 0 w ∧ ∀ (x9 : Int) w1, I2 x9 w1 → ∀ _ _ _ _ _ _ _ _ _ _ : Value,
  cond (decide ((x9 : Int) < x.len)) (
  IX x x9 1 fun (px11 : Addr) =>
  LD [.int .i64] px11 w1 fun (x12 : Int) =>
  Calls Tryz.prog F.s_l1Has #[set1.v, .int .i64 x12] w1 (Ret [.at .bool] fun (x15 : Bool) w2 =>
  cond (!x15) (
  Q false w2) (
  I2 (IntKind.i64.wrap (x9 + 1)) w2 ∧ m2 (IntKind.i64.wrap (x9 + 1)) w2 < m2 x9 w1))) (
  Q true w1)

theorem C_s_prAll {Q : Bool → World → Prop} {x : Sl} {set1 : Sl} {w : World} (h : V_s_prAll Q x set1 w) : Calls Tryz.prog F.s_prAll #[x.v, set1.v] w (Ret [.at .bool] Q) :=
  mkC (hint := hint) (ann := annOf [(2, ⟨[(9, .int .i64)], [4, 6, 10, 11, 12, 13, 14, 15, 16, 17]⟩)]) (args := [x.v, set1.v]) (rs := [.at .bool]) Tryz.func52 (by kernel_rfl) (by kernel_rfl) h

def V_s_prInsert_k4 (l : Sl) (x : Sl) (Q : Sl → World → Prop) (k : Int) (w5 : World) : Prop :=
  RUN Tryz.prog (.at .sl) (Instr.buildSlice T.t_sl_sl_int 0 #[]) w5 fun (x35 : Sl) w6 =>
  SLC l none (some k) 1 fun (x38 : Sl) =>
  RUN Tryz.prog (.at .sl) (bsem .append #[T.t_sl_sl_int, T.t_sl_sl_int] T.t_sl_sl_int #[x35.v, x38.v]) w6 fun (x39 : Sl) w7 =>
  RUN Tryz.prog (.at .sl) (Instr.buildSlice T.t_sl_sl_int 1 #[(0, x.v)]) w7 fun (x42 : Sl) w8 =>
  RUN Tryz.prog (.at .sl) (bsem .append #[T.t_sl_sl_int, T.t_sl_sl_int] T.t_sl_sl_int #[x39.v, x42.v]) w8 fun (x43 : Sl) w9 =>
  SLC l (some k) none 1 fun (x47 : Sl) =>
  RUN Tryz.prog (.at .sl) (bsem .append #[T.t_sl_sl_int, T.t_sl_sl_int] T.t_sl_sl_int #[x43.v, x47.v]) w9 fun (x48 : Sl) w10 =>
  Q x48 w10

def V_s_prInsert_k1 (l : Sl) (x : Sl) (Q : Sl → World → Prop) (k : Int) (w3 : World) : Prop :=
  cond (decide ((k : Int) < l.len)) (
  IX l k 1 fun (px29 : Addr) =>
  LD [.sl] px29 w3 fun (x30 : Sl) =>
  Calls Tryz.prog F.s_l1Same #[x30.v, x.v] w3 (Ret [.at .bool] fun (x32 : Bool) w4 =>
  cond x32 (
  Q l w4) (
  V_s_prInsert_k4 l x Q k w4))) (
  V_s_prInsert_k4 l x Q k w3)

def V_s_prInsert (Q : Sl → World → Prop) (l : Sl) (x : Sl) (w : World) : Prop :=
  ∃ (I2 : Int → World → Prop) (m2 : Int → World → Nat), I2 0 w ∧ ∀ (k : Int) w1, I2 k w1 → ∀ _ _ _ _ _ _ _ _ _ _ _ _ _ _ _ : Value,
  cond (decide ((k : Int) < l.len)) (
  IX l k 1 fun (px14 : Addr) =>
  LD [.sl] px14 w1 fun (x15 : Sl) =>
  Calls Tryz.prog F.s_prOrder #[x15.v, x.v] w1 (Ret [.at (.int .i64)] fun (x17 : Int) w2 =>
  cond (decide ((x17 : Int) < 0)) (
  I2 (IntKind.i64.wrap (k + 1)) w2 ∧ m2 (IntKind.i64.wrap (k + 1)) w2 < m2 k w1) (
  V_s_prInsert_k1 l x Q k w2))) (
  V_s_prInsert_k1 l x Q k w1)

theorem C_s_prInsert {Q : Sl → World → Prop} {l : Sl} {x : Sl} {w : World} (h : V_s_prInsert Q l x w) : Calls Tryz.prog F.s_prInsert #[l.v, x.v] w (Ret [.at .sl] Q) :=
  mkC (hint := hint) (ann := annOf [(2, ⟨[(5, .int .i64)], [7, 8, 9, 10, 11, 12, 13, 14, 15, 16, 17, 18, 19, 20, 21]⟩)]) (args := [l.v, x.v]) (rs := [.at .sl]) Tryz.func53 (by kernel_rfl) (by kernel_rfl) h

def V_i_allWithin (Q : Bool → World → Prop) (list : Sl) (low : Int) (high : Int) (w : World) : Prop :=
  NEW T.t_int #[.int .i64 low] w fun (p_low : Addr) w1 =>
  NEW T.t_int #[.int .i64 high] w1 fun (p_high : Addr) w2 =>
  Calls Tryz.prog F.slices_ContainsFunc_sl_int_int #[list.v, .func (.func F.i_allWithin_1) #[] #[.pointer (some p_low), .pointer (some p_high)]] w2 (Ret [.at .bool] fun (x9 : Bool) w3 =>
  Q (!x9) w3)

theorem C_i_allWithin {Q : Bool → World → Prop} {list : Sl} {low : Int} {high : Int} {w : World} (h : V_i_allWithin Q list low high w) : Calls Tryz.prog F.i_allWithin #[list.v, .int .i64 low, .int .i64 high] w (Ret [.at .bool] Q) :=
  mkC (hint := hint) (ann := annOf []) (args := [list.v, .int .i64 low, .int .i64 high]) (rs := [.at .bool]) Tryz.func54 (by kernel_rfl) (by kernel_rfl) h

def V_slices_Contains_sl_int_int (Q : Bool → World → Prop) (s : Sl) (v : Int) (w : World) : Prop :=
  Calls Tryz.prog F.slices_Index_sl_int_int #[s.v, .int .i64 v] w (Ret [.at (.int .i64)] fun (x7 : Int) w1 =>
  Q (decide ((x7 : Int) ≥ 0)) w1)

theorem C_slices_Contains_sl_int_int {Q : Bool → World → Prop} {s : Sl} {v : Int} {w : World} (h : V_slices_Contains_sl_int_int Q s v w) : Calls Tryz.prog F.slices_Contains_sl_int_int #[s.v, .int .i64 v] w (Ret [.at .bool] Q) :=
  mkC (hint := hint) (ann := annOf []) (args := [s.v, .int .i64 v]) (rs := [.at .bool]) Tryz.func57 (by kernel_rfl) (by kernel_rfl) h

def V_i_onlyIn (Q : Bool → World → Prop) (set1 : Int) (labels : Sl) (w : World) : Prop :=
  NEW T.t_int #[.int .i64 set1] w fun (p_set : Addr) w1 =>
  Calls Tryz.prog F.slices_ContainsFunc_sl_int_int #[labels.v, .func (.func F.i_onlyIn_1) #[] #[.pointer (some p_set)]] w1 (Ret [.at .bool] fun (x7 : Bool) w2 =>
  Q (!x7) w2)

theorem C_i_onlyIn {Q : Bool → World → Prop} {set1 : Int} {labels : Sl} {w : World} (h : V_i_onlyIn Q set1 labels w) : Calls Tryz.prog F.i_onlyIn #[.int .i64 set1, labels.v] w (Ret [.at .bool] Q) :=
  mkC (hint := hint) (ann := annOf []) (args := [.int .i64 set1, labels.v]) (rs := [.at .bool]) Tryz.func58 (by kernel_rfl) (by kernel_rfl) h

def V_i_sortedLists (Q : Sl → World → Prop) (list : Sl) (w : World) : Prop :=
  Calls Tryz.prog F.slices_SortFunc_sl_sl_int_sl_int #[list.v, .func (.func F.slices_Compare_sl_int_int) #[] #[]] w (Ret [] fun w1 =>
  Calls Tryz.prog F.slices_CompactFunc_sl_sl_int_sl_int #[list.v, .func (.func F.slices_Equal_sl_int_int) #[] #[]] w1 (Ret [.at .sl] fun (x6 : Sl) w2 =>
  Q x6 w2))

theorem C_i_sortedLists {Q : Sl → World → Prop} {list : Sl} {w : World} (h : V_i_sortedLists Q list w) : Calls Tryz.prog F.i_sortedLists #[list.v] w (Ret [.at .sl] Q) :=
  mkC (hint := hint) (ann := annOf []) (args := [list.v]) (rs := [.at .sl]) Tryz.func59 (by kernel_rfl) (by kernel_rfl) h

def V_i_WalkProblem_walkComponents (Q : Sl → Sl → World → Prop) (x0_0 : Int) (x0_1 : Sl) (w : World) : Prop :=
  NEW T.t_i_WalkProblem #[.int .i64 x0_0, x0_1.v] w fun (px1 : Addr) w1 =>
  ∀ w2, Ext w1 w2 → w2.heap = w1.heap →
  LD [.int .i64, .sl] px1 w2 fun (x16_0 : Int) (x16_1 : Sl) =>
  LD [.int .i64, .sl] px1 w2 fun (x18_0 : Int) (x18_1 : Sl) =>
  Calls Tryz.prog F.i_WalkProblem_closure #[.agg #[.int .i64 x16_0, x16_1.v]] w2 (Ret [.at .sl] fun (x17 : Sl) w3 =>
  Ext w2 w3 ∧ (
  Calls Tryz.prog F.i_WalkProblem_after #[.agg #[.int .i64 x18_0, x18_1.v]] w3 (Ret [.at .sl] fun (x19 : Sl) w4 =>
  Ext w2 w4 ∧ (
  Ext w2 w4 ∧ (
  ∃ (I6 : Sl → Sl → Int → Int → World → Prop) (m6 : Sl → Sl → Int → Int → World → Nat), I6 (⟨none, 0, 0⟩) (⟨none, 0, 0⟩) 0 0 w4 ∧ ∀ (x6 : Sl) (x7 : Sl) (x8 : Int) (x22 : Int) w5, I6 x6 x7 x8 x22 w5 → ∀ _ _ _ _ _ _ _ _ _ _ _ _ _ _ _ _ _ _ _ _ _ _ _ _ _ _ _ _ _ _ _ _ _ _ _ _ _ _ _ _ _ _ _ _ _ _ _ _ _ _ _ _ _ _ _ _ _ _ _ _ _ _ _ _ _ _ _ _ _ : Value,
  cond (decide ((x22 : Int) < x17.len)) (
  (0 : Int) ≤ x22 ∧ (
  cond (((bitAnd .i64 (shrI .i64 x8 x22) 1) : Int) == 1) (
  I6 x6 x7 x8 (IntKind.i64.wrap (x22 + 1)) w5 ∧ m6 x6 x7 x8 (IntKind.i64.wrap (x22 + 1)) w5 < m6 x6 x7 x8 x22 w5) (
  IX x17 x22 1 fun (px32 : Addr) =>
  LD [.int .i64] px32 w5 fun (x33 : Int) =>
  Calls Tryz.prog F.i_labelsIn #[.int .i64 x33] w5 (Ret [.at .sl] fun (x34 : Sl) w6 =>
  ∃ (I12 : Sl → Int → World → Prop) (m12 : Sl → Int → World → Nat), I12 (⟨none, 0, 0⟩) 0 w6 ∧ ∀ (x10 : Sl) (x36 : Int) w7, I12 x10 x36 w7 → ∀ _ _ _ _ _ _ _ _ _ _ _ _ _ _ _ _ _ : Value,
  cond (decide ((x36 : Int) < x34.len)) (
  IX x34 x36 1 fun (px38 : Addr) =>
  LD [.int .i64] px38 w7 fun (x39 : Int) =>
  IX x17 x39 1 fun (px42 : Addr) =>
  LD [.int .i64] px42 w7 fun (x43 : Int) =>
  (0 : Int) ≤ x22 ∧ (
  cond (((bitAnd .i64 (shrI .i64 x43 x22) 1) : Int) == 1) (
  RUN Tryz.prog (.at .sl) (Instr.buildSlice T.t_sl_int 1 #[(0, .int .i64 x39)]) w7 fun (x50 : Sl) w8 =>
  RUN Tryz.prog (.at .sl) (bsem .append #[T.t_sl_int, T.t_sl_int] T.t_sl_int #[x10.v, x50.v]) w8 fun (x51 : Sl) w9 =>
  I12 x51 (IntKind.i64.wrap (x36 + 1)) w9 ∧ m12 x51 (IntKind.i64.wrap (x36 + 1)) w9 < m12 x10 x36 w7) (
  I12 x10 (IntKind.i64.wrap (x36 + 1)) w7 ∧ m12 x10 (IntKind.i64.wrap (x36 + 1)) w7 < m12 x10 x36 w7))) (
  Calls Tryz.prog F.i_setOf #[x10.v] w7 (Ret [.at (.int .i64)] fun (x55 : Int) w10 =>
  ∃ (I19 : Bool → Int → World → Prop) (m19 : Bool → Int → World → Nat), I19 false 0 w10 ∧ ∀ (x11 : Bool) (x59 : Int) w11, I19 x11 x59 w11 → ∀ _ _ _ _ _ _ _ _ _ _ _ _ _ _ _ _ : Value,
  cond (decide ((x59 : Int) < x10.len)) (
  IX x10 x59 1 fun (px61 : Addr) =>
  LD [.int .i64] px61 w11 fun (x62 : Int) =>
  cond x11 (
  ∀ w12, Ext w11 w12 →
  I19 true (IntKind.i64.wrap (x59 + 1)) w12 ∧ m19 true (IntKind.i64.wrap (x59 + 1)) w12 < m19 x11 x59 w11) (
  IX x19 x62 1 fun (px67 : Addr) =>
  LD [.int .i64] px67 w11 fun (x68 : Int) =>
  QCALL Tryz.prog F.i_setOf #[x10.v] w11 [.at (.int .i64)] fun (x70 : Int) =>
  ∀ w13, Ext w11 w13 →
  I19 (((bitAnd .i64 x68 x70) : Int) != 0) (IntKind.i64.wrap (x59 + 1)) w13 ∧ m19 (((bitAnd .i64 x68 x70) : Int) != 0) (IntKind.i64.wrap (x59 + 1)) w13 < m19 x11 x59 w11)) (
  cond x11 (
  ∀ w14, Ext w11 w14 → w14.heap = w11.heap → ∃ (D14 : Nat → Prop),
  ¬ D14 px1.block ∧ (
  LD [.int .i64, .sl] px1 w14 fun (x81_0 : Int) (x81_1 : Sl) =>
  RUN Tryz.prog (.at .sl) (Instr.buildSlice T.t_sl_sl_int 1 #[(0, x10.v)]) w14 fun (x78 : Sl) w15 =>
  Chg w14 w15 D14 ∧ (
  RUN Tryz.prog (.at .sl) (bsem .append #[T.t_sl_sl_int, T.t_sl_sl_int] T.t_sl_sl_int #[x6.v, x78.v]) w15 fun (x79 : Sl) w16 =>
  Chg w14 w16 D14 ∧ (
  Calls Tryz.prog F.i_WalkProblem_periodOf #[.agg #[.int .i64 x81_0, x81_1.v], x10.v] w16 (Ret [.at (.int .i64)] fun (x83 : Int) w17 =>
  Chg w14 w17 D14 ∧ (
  RUN Tryz.prog (.at .sl) (Instr.buildSlice T.t_sl_int 1 #[(0, .int .i64 x83)]) w17 fun (x84 : Sl) w18 =>
  Chg w14 w18 D14 ∧ (
  RUN Tryz.prog (.at .sl) (bsem .append #[T.t_sl_int, T.t_sl_int] T.t_sl_int #[x7.v, x84.v]) w18 fun (x85 : Sl) w19 =>
  Chg w14 w19 D14 ∧ (
  Chg w14 w19 D14 ∧ (
  I6 x79 x85 (bitOr .i64 x8 x55) (IntKind.i64.wrap (x22 + 1)) w19 ∧ m6 x79 x85 (bitOr .i64 x8 x55) (IntKind.i64.wrap (x22 + 1)) w19 < m6 x6 x7 x8 x22 w5))))))))) (
  I6 x6 x7 (bitOr .i64 x8 x55) (IntKind.i64.wrap (x22 + 1)) w11 ∧ m6 x6 x7 (bitOr .i64 x8 x55) (IntKind.i64.wrap (x22 + 1)) w11 < m6 x6 x7 x8 x22 w5)))))))) (
  Q x6 x7 w5))))))

theorem C_i_WalkProblem_walkComponents {Q : Sl → Sl → World → Prop} {x0_0 : Int} {x0_1 : Sl} {w : World} (h : V_i_WalkProblem_walkComponents Q x0_0 x0_1 w) : Calls Tryz.prog F.i_WalkProblem_walkComponents #[.agg #[.int .i64 x0_0, x0_1.v]] w (Ret [.at .sl, .at .sl] Q) :=
  mkC (hint := hint) (ann := annOf [(6, ⟨[(6, .sl), (7, .sl), (8, .int .i64), (22, .int .i64)], [9, 10, 11, 13, 15, 23, 24, 25, 26, 27, 28, 29, 30, 31, 32, 33, 34, 35, 36, 37, 38, 39, 40, 41, 42, 43, 44, 45, 46, 47, 48, 49, 50, 51, 52, 53, 54, 55, 56, 57, 58, 59, 60, 61, 62, 63, 64, 65, 66, 67, 68, 69, 70, 71, 72, 73, 74, 75, 76, 77, 78, 79, 80, 81, 82, 83, 84, 85, 86]⟩), (12, ⟨[(10, .sl), (36, .int .i64)], [13, 37, 38, 39, 40, 41, 42, 43, 44, 45, 46, 47, 48, 49, 50, 51, 52]⟩), (19, ⟨[(11, .bool), (59, .int .i64)], [15, 60, 61, 62, 63, 64, 65, 66, 67, 68, 69, 70, 71, 72, 73, 74]⟩)]) (args := [.agg #[.int .i64 x0_0, x0_1.v]]) (rs := [.at .sl, .at .sl]) Tryz.func60 (by kernel_rfl) (by kernel_rfl) h

def V_s_waReach (Q : Sl → World → Prop) (p_0 : Int) (p_1 : Sl) (w : World) : Prop :=
  NEW T.t_i_WalkProblem #[.int .i64 p_0, p_1.v] w fun (p_p : Addr) w1 =>
  LD [.int .i64] (p_p.add 0) w1 fun (x10 : Int) =>
  Calls Tryz.prog F.s_waMay #[.agg #[.int .i64 x10, .slice none 0 0]] w1 (Ret [.at .sl] fun (x12 : Sl) w2 =>
  LD [.int .i64, .sl] p_p w2 fun (x13_0 : Int) (x13_1 : Sl) =>
  LD [.int .i64] (p_p.add 0) w2 fun (x15 : Int) =>
  Calls Tryz.prog F.s_waPowers #[.agg #[.int .i64 x13_0, x13_1.v], .int .i64 x15] w2 (Ret [.at .sl] fun (x16 : Sl) w3 =>
  ∃ (I3 : Int → World → Prop) (m3 : Int → World → Nat), I3 0 w3 ∧ ∀ (x18 : Int) w4, I3 x18 w4 → ∀ _ _ _ _ _ _ _ _ _ _ _ _ _ _ _ _ _ _ _ _ _ _ _ _ _ _ _ _ _ _ _ _ _ _ _ _ _ _ _ _ _ _ _ _ _ _ _ : Value,
  cond (decide ((x18 : Int) < x16.len)) (
  IX x16 x18 1 fun (px21 : Addr) =>
  LD [.sl] px21 w4 fun (x22 : Sl) =>
  ∃ (I6 : Int → World → Prop) (m6 : Int → World → Nat), I6 0 w4 ∧ ∀ (x25 : Int) w5, I6 x25 w5 → ∀ _ _ _ _ _ _ _ _ _ _ _ _ _ _ _ _ _ _ _ _ _ _ _ _ _ _ _ _ _ _ _ _ _ _ _ _ _ : Value,
  cond (decide ((x25 : Int) < x22.len)) (
  IX x22 x25 1 fun (px30 : Addr) =>
  LD [.sl] px30 w5 fun (x31 : Sl) =>
  ∃ (I9 : Int → World → Prop) (m9 : Int → World → Nat), I9 0 w5 ∧ ∀ (x33 : Int) w6, I9 x33 w6 → ∀ _ _ _ _ _ _ _ _ _ _ _ _ _ _ _ _ _ _ _ _ _ _ _ _ _ _ _ : Value,
  cond (decide ((x33 : Int) < x31.len)) (
  IX x31 x33 1 fun (px36 : Addr) =>
  LD [.bool] px36 w6 fun (x37 : Bool) =>
  ∀ w7, Ext w6 w7 → w7.heap = w6.heap → ∃ (D7 : Nat → Prop),
  IX x12 x25 1 fun (px40 : Addr) =>
  ¬ D7 px40.block ∧ (
  LD [.sl] px40 w7 fun (x41 : Sl) =>
  IX x12 x25 1 fun (px45 : Addr) =>
  ¬ D7 px45.block ∧ (
  LD [.sl] px45 w7 fun (x46 : Sl) =>
  Chg w7 w7 D7 ∧ (
  IX x46 x33 1 fun (px48 : Addr) =>
  Chg w7 w7 D7 ∧ (
  LD [.bool] px48 w7 fun (x49 : Bool) =>
  Chg w7 w7 D7 ∧ (
  Chg w7 w7 D7 ∧ (
  cond x49 (
  Chg w7 w7 D7 ∧ (
  IX x41 x33 1 fun (px57 : Addr) =>
  Chg w7 w7 D7 ∧ (
  ST px57 0 [.bool true] w7 fun w8 =>
  Chg w7 w8 D7 ∧ (
  I9 (IntKind.i64.wrap (x33 + 1)) w8 ∧ m9 (IntKind.i64.wrap (x33 + 1)) w8 < m9 x33 w6)))) (
  Chg w7 w7 D7 ∧ (
  Chg w7 w7 D7 ∧ (
  cond x37 (
  Chg w7 w7 D7 ∧ (
  Chg w7 w7 D7 ∧ (
  Chg w7 w7 D7 ∧ (
  Chg w7 w7 D7 ∧ (
  IX x41 x33 1 fun (px57_2 : Addr) =>
  Chg w7 w7 D7 ∧ (
  ST px57_2 0 [.bool (decide ((x18 : Int) > 0))] w7 fun w9 =>
  Chg w7 w9 D7 ∧ (
  I9 (IntKind.i64.wrap (x33 + 1)) w9 ∧ m9 (IntKind.i64.wrap (x33 + 1)) w9 < m9 x33 w6))))))) (
  Chg w7 w7 D7 ∧ (
  Chg w7 w7 D7 ∧ (
  IX x41 x33 1 fun (px57_3 : Addr) =>
  Chg w7 w7 D7 ∧ (
  ST px57_3 0 [.bool false] w7 fun w10 =>
  Chg w7 w10 D7 ∧ (
  I9 (IntKind.i64.wrap (x33 + 1)) w10 ∧ m9 (IntKind.i64.wrap (x33 + 1)) w10 < m9 x33 w6))))))))))))))) (
  I6 (IntKind.i64.wrap (x25 + 1)) w6 ∧ m6 (IntKind.i64.wrap (x25 + 1)) w6 < m6 x25 w5)) (
  I3 (IntKind.i64.wrap (x18 + 1)) w5 ∧ m3 (IntKind.i64.wrap (x18 + 1)) w5 < m3 x18 w4)) (
  Q x12 w4)))

theorem C_s_waReach {Q : Sl → World → Prop} {p_0 : Int} {p_1 : Sl} {w : World} (h : V_s_waReach Q p_0 p_1 w) : Calls Tryz.prog F.s_waReach #[.agg #[.int .i64 p_0, p_1.v]] w (Ret [.at .sl] Q) :=
  mkC (hint := hint) (ann := annOf [(3, ⟨[(18, .int .i64)], [4, 5, 6, 7, 8, 19, 20, 21, 22, 23, 24, 25, 26, 27, 28, 29, 30, 31, 32, 33, 34, 35, 36, 37, 38, 39, 40, 41, 42, 43, 44, 45, 46, 47, 48, 49, 50, 51, 52, 53, 54, 55, 56, 57, 58, 59, 60]⟩), (6, ⟨[(25, .int .i64)], [6, 7, 8, 26, 27, 28, 29, 30, 31, 32, 33, 34, 35, 36, 37, 38, 39, 40, 41, 42, 43, 44, 45, 46, 47, 48, 49, 50, 51, 52, 53, 54, 55, 56, 57, 58, 59]⟩), (9, ⟨[(33, .int .i64)], [7, 8, 34, 35, 36, 37, 38, 39, 40, 41, 42, 43, 44, 45, 46, 47, 48, 49, 50, 51, 52, 53, 54, 55, 56, 57, 58]⟩)]) (args := [.agg #[.int .i64 p_0, p_1.v]]) (rs := [.at .sl]) Tryz.func62 (by kernel_rfl) (by kernel_rfl) h

def V_s_waDepths_k7 (I12 : Bool → Int → World → Prop) (m12 : Bool → Int → World → Nat) (x7_2 : Bool) (x31 : Int) (w7 : World) (x7_3 : Bool) (w11 : World) : Prop :=
  I12 x7_3 (IntKind.i64.wrap (x31 + 1)) w11 ∧ m12 x7_3 (IntKind.i64.wrap (x31 + 1)) w11 < m12 x7_2 x31 w7

def V_s_waDepths (Q : Sl → World → Prop) (x0_0 : Int) (x0_1 : Sl) (x1 : Sl) (w : World) : Prop :=
  NEW T.t_i_WalkProblem #[.int .i64 x0_0, x0_1.v] w fun (px2 : Addr) w1 =>
  LD [.int .i64] (px2.add 0) w1 fun (x11 : Int) =>
  RUN Tryz.prog (.at .sl) (Instr.makeSlice T.t_sl_int (.int .i64 x11) (.int .i64 x11)) w1 fun (x12 : Sl) w2 =>
  ∃ (I3 : Int → World → Prop) (m3 : Int → World → Nat), I3 0 w2 ∧ ∀ (x15 : Int) w3, I3 x15 w3 → ∀ _ _ _ _ _ _ _ : Value,
  cond (decide ((x15 : Int) < x12.len)) (
  IX x12 x15 1 fun (px20 : Addr) =>
  ST px20 0 [.int .i64 (-1)] w3 fun w4 =>
  I3 (IntKind.i64.wrap (x15 + 1)) w4 ∧ m3 (IntKind.i64.wrap (x15 + 1)) w4 < m3 x15 w3) (
  IX x1 0 1 fun (px24 : Addr) =>
  LD [.int .i64] px24 w3 fun (x25 : Int) =>
  IX x12 x25 1 fun (px26 : Addr) =>
  ST px26 0 [.int .i64 0] w3 fun w5 =>
  ∃ (I9 : Bool → World → Prop) (m9 : Bool → World → Nat), I9 true w5 ∧ ∀ (x7 : Bool) w6, I9 x7 w6 → ∀ _ _ _ _ _ _ _ _ _ _ _ _ _ _ _ _ _ _ _ _ _ _ _ _ _ _ _ _ _ _ _ _ _ _ _ _ _ _ _ _ _ _ _ _ _ : Value,
  cond x7 (
  LD [.sl] (px2.add 1) w6 fun (x29 : Sl) =>
  ∃ (I12 : Bool → Int → World → Prop) (m12 : Bool → Int → World → Nat), I12 false 0 w6 ∧ ∀ (x7_2 : Bool) (x31 : Int) w7, I12 x7_2 x31 w7 → ∀ _ _ _ _ _ _ _ _ _ _ _ _ _ _ _ _ _ _ _ _ _ _ _ _ _ _ _ _ _ _ _ _ _ _ _ _ _ _ _ _ : Value,
  cond (decide ((x31 : Int) < x29.len)) (
  IX x29 x31 1 fun (px33 : Addr) =>
  LD [.sl] px33 w7 fun (x34 : Sl) =>
  IX x34 0 1 fun (px37 : Addr) =>
  LD [.int .i64] px37 w7 fun (x38 : Int) =>
  IX x12 x38 1 fun (px39 : Addr) =>
  LD [.int .i64] px39 w7 fun (x40 : Int) =>
  cond (decide ((x40 : Int) ≥ 0)) (
  IX x34 1 1 fun (px45 : Addr) =>
  LD [.int .i64] px45 w7 fun (x46 : Int) =>
  IX x12 x46 1 fun (px47 : Addr) =>
  LD [.int .i64] px47 w7 fun (x48 : Int) =>
  cond (decide ((x48 : Int) < 0)) (
  IX x34 1 1 fun (px54 : Addr) =>
  LD [.int .i64] px54 w7 fun (x55 : Int) =>
  Calls Tryz.prog F.s_l1Has #[x1.v, .int .i64 x55] w7 (Ret [.at .bool] fun (x56 : Bool) w8 =>
  cond x56 (
  ∀ w9, Ext w8 w9 → w9.heap = w8.heap → ∃ (D9 : Nat → Prop),
  IX x34 1 1 fun (px60 : Addr) =>
  ¬ D9 px60.block ∧ (
  LD [.int .i64] px60 w9 fun (x61 : Int) =>
  Chg w9 w9 D9 ∧ (
  IX x34 0 1 fun (px64 : Addr) =>
  Chg w9 w9 D9 ∧ (
  LD [.int .i64] px64 w9 fun (x65 : Int) =>
  Chg w9 w9 D9 ∧ (
  IX x12 x65 1 fun (px66 : Addr) =>
  Chg w9 w9 D9 ∧ (
  LD [.int .i64] px66 w9 fun (x67 : Int) =>
  Chg w9 w9 D9 ∧ (
  Chg w9 w9 D9 ∧ (
  IX x12 x61 1 fun (px69 : Addr) =>
  ST px69 0 [.int .i64 (IntKind.i64.wrap (x67 + 1))] w9 fun w10 =>
  V_s_waDepths_k7 I12 m12 x7_2 x31 w7 true w10)))))))) (
  V_s_waDepths_k7 I12 m12 x7_2 x31 w7 x7_2 w8))) (
  V_s_waDepths_k7 I12 m12 x7_2 x31 w7 x7_2 w7)) (
  V_s_waDepths_k7 I12 m12 x7_2 x31 w7 x7_2 w7)) (
  I9 x7_2 w7 ∧ m9 x7_2 w7 < m9 x7 w6)) (
  Q x12 w6))

theorem C_s_waDepths {Q : Sl → World → Prop} {x0_0 : Int} {x0_1 : Sl} {x1 : Sl} {w : World} (h : V_s_waDepths Q x0_0 x0_1 x1 w) : Calls Tryz.prog F.s_waDepths #[.agg #[.int .i64 x0_0, x0_1.v], x1.v] w (Ret [.at .sl] Q) :=
  mkC (hint := hint) (ann := annOf [(3, ⟨[(15, .int .i64)], [6, 16, 17, 18, 19, 20, 21]⟩), (9, ⟨[(7, .bool)], [9, 27, 28, 29, 30, 31, 32, 33, 34, 35, 36, 37, 38, 39, 40, 41, 42, 43, 44, 45, 46, 47, 48, 49, 50, 51, 52, 53, 54, 55, 56, 57, 58, 59, 60, 61, 62, 63, 64, 65, 66, 67, 68, 69, 70]⟩), (12, ⟨[(7, .bool), (31, .int .i64)], [9, 32, 33, 34, 35, 36, 37, 38, 39, 40, 41, 42, 43, 44, 45, 46, 47, 48, 49, 50, 51, 52, 53, 54, 55, 56, 57, 58, 59, 60, 61, 62, 63, 64, 65, 66, 67, 68, 69, 70]⟩)]) (args := [.agg #[.int .i64 x0_0, x0_1.v], x1.v]) (rs := [.at .sl]) Tryz.func63 (by kernel_rfl) (by kernel_rfl) h

def V_s_l1Has (Q : Bool → World → Prop) (l : Sl) (n : Int) (w : World) : Prop :=
  ∃ (I2 : Int → World → Prop) (m2 : Int → World → Nat), I2 0 w ∧ ∀ (x9 : Int) w1, I2 x9 w1 → ∀ _ _ _ _ _ _ _ _ _ : Value,
  cond (decide ((x9 : Int) < l.len)) (
  IX l x9 1 fun (px11 : Addr) =>
  LD [.int .i64] px11 w1 fun (x12 : Int) =>
  cond ((x12 : Int) == n) (
  Q true w1) (
  I2 (IntKind.i64.wrap (x9 + 1)) w1 ∧ m2 (IntKind.i64.wrap (x9 + 1)) w1 < m2 x9 w1)) (
  Q false w1)

theorem C_s_l1Has {Q : Bool → World → Prop} {l : Sl} {n : Int} {w : World} (h : V_s_l1Has Q l n w) : Calls Tryz.prog F.s_l1Has #[l.v, .int .i64 n] w (Ret [.at .bool] Q) :=
  mkC (hint := hint) (ann := annOf [(2, ⟨[(9, .int .i64)], [4, 6, 10, 11, 12, 13, 14, 15, 16]⟩)]) (args := [l.v, .int .i64 n]) (rs := [.at .bool]) Tryz.func64 (by kernel_rfl) (by kernel_rfl) h

def V_s_waGcd (Q : Int → World → Prop) (a : Int) (b : Int) (w : World) : Prop :=
  ∃ (I1 : Int → Int → World → Prop) (m1 : Int → Int → World → Nat), I1 a b w ∧ ∀ (a_2 : Int) (b_2 : Int) w1, I1 a_2 b_2 w1 → ∀ _ _ _ _ _ _ : Value,
  cond (decide ((b_2 : Int) > 0)) (
  (b_2 : Int) ≠ 0 ∧ (
  ∀ w2, Ext w1 w2 →
  I1 b_2 (Int.tmod a_2 b_2) w2 ∧ m1 b_2 (Int.tmod a_2 b_2) w2 < m1 a_2 b_2 w1)) (
  Q a_2 w1)

theorem C_s_waGcd {Q : Int → World → Prop} {a : Int} {b : Int} {w : World} (h : V_s_waGcd Q a b w) : Calls Tryz.prog F.s_waGcd #[.int .i64 a, .int .i64 b] w (Ret [.at (.int .i64)] Q) :=
  mkC (hint := hint) (ann := annOf [(1, ⟨[(0, .int .i64), (1, .int .i64)], [5, 6, 7, 8, 9, 10]⟩)]) (args := [.int .i64 a, .int .i64 b]) (rs := [.at (.int .i64)]) Tryz.func65 (by kernel_rfl) (by kernel_rfl) h

def V_s_l1Abs (Q : Int → World → Prop) (n : Int) (w : World) : Prop :=
  Calls Tryz.prog F.s_l1Most #[.int .i64 n, .int .i64 (IntKind.i64.wrap (0 - n))] w (Ret [.at (.int .i64)] fun (x6 : Int) w1 =>
  Q x6 w1)

theorem C_s_l1Abs {Q : Int → World → Prop} {n : Int} {w : World} (h : V_s_l1Abs Q n w) : Calls Tryz.prog F.s_l1Abs #[.int .i64 n] w (Ret [.at (.int .i64)] Q) :=
  mkC (hint := hint) (ann := annOf []) (args := [.int .i64 n]) (rs := [.at (.int .i64)]) Tryz.func66 (by kernel_rfl) (by kernel_rfl) h

def V_slices_ContainsFunc_sl_int_int (Q : Bool → World → Prop) (s : Sl) (f : Value) (w : World) : Prop :=
  Calls Tryz.prog F.slices_IndexFunc_sl_int_int #[s.v, f] w (Ret [.at (.int .i64)] fun (x7 : Int) w1 =>
  Q (decide ((x7 : Int) ≥ 0)) w1)

theorem C_slices_ContainsFunc_sl_int_int {Q : Bool → World → Prop} {s : Sl} {f : Value} {w : World} (h : V_slices_ContainsFunc_sl_int_int Q s f w) : Calls Tryz.prog F.slices_ContainsFunc_sl_int_int #[s.v, f] w (Ret [.at .bool] Q) :=
  mkC (hint := hint) (ann := annOf []) (args := [s.v, f]) (rs := [.at .bool]) Tryz.func67 (by kernel_rfl) (by kernel_rfl) h

def V_i_allWithin_1 (Q : Bool → World → Prop) (n : Int) (cap0 : Addr) (cap1 : Addr) (w : World) : Prop :=
  LD [.int .i64] cap0 w fun (x6 : Int) =>
  LD [.int .i64] cap1 w fun (x7 : Int) =>
  Calls Tryz.prog F.i_within #[.int .i64 n, .int .i64 x6, .int .i64 x7] w (Ret [.at .bool] fun (x8 : Bool) w1 =>
  Q (!x8) w1)

theorem C_i_allWithin_1 {Q : Bool → World → Prop} {n : Int} {cap0 : Addr} {cap1 : Addr} {w : World} (h : V_i_allWithin_1 Q n cap0 cap1 w) : Calls Tryz.prog F.i_allWithin_1 #[.int .i64 n, .pointer (some cap0), .pointer (some cap1)] w (Ret [.at .bool] Q) :=
  mkC (hint := hint) (ann := annOf []) (args := [.int .i64 n, .pointer (some cap0), .pointer (some cap1)]) (rs := [.at .bool]) Tryz.func68 (by kernel_rfl) (by kernel_rfl) h

def V_slices_Index_sl_int_int (Q : Int → World → Prop) (s : Sl) (v : Int) (w : World) : Prop :=
  ∃ (I2 : Int → World → Prop) (m2 : Int → World → Nat), I2 0 w ∧ ∀ (x8 : Int) w1, I2 x8 w1 → ∀ _ _ _ _ _ _ _ _ _ _ _ _ : Value,
  cond (decide ((x8 : Int) < s.len)) (
  IX s x8 1 fun (px14 : Addr) =>
  LD [.int .i64] px14 w1 fun (x15 : Int) =>
  cond ((v : Int) == x15) (
  Q x8 w1) (
  I2 (IntKind.i64.wrap (x8 + 1)) w1 ∧ m2 (IntKind.i64.wrap (x8 + 1)) w1 < m2 x8 w1)) (
  Q (-1) w1)

theorem C_slices_Index_sl_int_int {Q : Int → World → Prop} {s : Sl} {v : Int} {w : World} (h : V_slices_Index_sl_int_int Q s v w) : Calls Tryz.prog F.slices_Index_sl_int_int #[s.v, .int .i64 v] w (Ret [.at (.int .i64)] Q) :=
  mkC (hint := hint) (ann := annOf [(2, ⟨[(8, .int .i64)], [4, 5, 9, 10, 11, 12, 13, 14, 15, 16, 17, 18]⟩)]) (args := [s.v, .int .i64 v]) (rs := [.at (.int .i64)]) Tryz.func70 (by kernel_rfl) (by kernel_rfl) h

def V_i_onlyIn_1 (Q : Bool → World → Prop) (a : Int) (cap0 : Addr) (w : World) : Prop :=
  LD [.int .i64] cap0 w fun (x4 : Int) =>
  (0 : Int) ≤ a ∧ (
  Q (((bitAnd .i64 (shrI .i64 x4 a) 1) : Int) == 0) w)

theorem C_i_onlyIn_1 {Q : Bool → World → Prop} {a : Int} {cap0 : Addr} {w : World} (h : V_i_onlyIn_1 Q a cap0 w) : Calls Tryz.prog F.i_onlyIn_1 #[.int .i64 a, .pointer (some cap0)] w (Ret [.at .bool] Q) :=
  mkC (hint := hint) (ann := annOf []) (args := [.int .i64 a, .pointer (some cap0)]) (rs := [.at .bool]) Tryz.func71 (by kernel_rfl) (by kernel_rfl) h

def V_slices_CompactFunc_sl_sl_int_sl_int (Q : Sl → World → Prop) (x0 : Sl) (x1 : Value) (w : World) : Prop :=
  cond (decide ((x0.len : Int) < 2)) (
  Q x0 w) (
  ∃ (I4 : Int → World → Prop) (m4 : Int → World → Nat), I4 1 w ∧ ∀ (x5 : Int) w1, I4 x5 w1 → ∀ _ _ _ _ _ _ _ _ _ _ _ _ _ _ _ _ _ _ _ _ _ _ _ _ _ _ _ _ _ _ _ _ _ _ _ _ _ _ _ _ _ _ _ _ _ _ _ _ _ _ _ _ _ _ _ _ : Value,
  cond (decide ((x5 : Int) < x0.len)) (
  ∀ w2, Ext w1 w2 → w2.heap = w1.heap →
  IX x0 x5 1 fun (px21 : Addr) =>
  LD [.sl] px21 w2 fun (x22 : Sl) =>
  Ext w2 w2 ∧ (
  Ext w2 w2 ∧ (
  IX x0 (IntKind.i64.wrap (x5 - 1)) 1 fun (px26 : Addr) =>
  Ext w2 w2 ∧ (
  LD [.sl] px26 w2 fun (x27 : Sl) =>
  Ext w2 w2 ∧ (
  CALLV Tryz.prog x1 #[x22.v, x27.v] w2 (Ret [.at .bool] fun (x28 : Bool) w3 =>
  Ext w2 w3 ∧ (
  cond x28 (
  SLC x0 (some x5) none 1 fun (x31 : Sl) =>
  ∃ (I9 : Int → Int → World → Prop) (m9 : Int → Int → World → Nat), I9 x5 1 w3 ∧ ∀ (x5_2 : Int) (x7 : Int) w4, I9 x5_2 x7 w4 → ∀ _ _ _ _ _ _ _ _ _ _ _ _ _ _ _ _ _ _ _ _ _ _ _ _ _ _ _ : Value,
  cond (decide ((x7 : Int) < x31.len)) (
  ∀ w5, Ext w4 w5 → w5.heap = w4.heap →
  IX x31 x7 1 fun (px41 : Addr) =>
  LD [.sl] px41 w5 fun (x42 : Sl) =>
  Ext w5 w5 ∧ (
  Ext w5 w5 ∧ (
  IX x31 (IntKind.i64.wrap (x7 - 1)) 1 fun (px46 : Addr) =>
  Ext w5 w5 ∧ (
  LD [.sl] px46 w5 fun (x47 : Sl) =>
  Ext w5 w5 ∧ (
  CALLV Tryz.prog x1 #[x42.v, x47.v] w5 (Ret [.at .bool] fun (x48 : Bool) w6 =>
  Ext w5 w6 ∧ (
  Ext w5 w6 ∧ (
  cond (!x48) (
  IX x31 x7 1 fun (px54 : Addr) =>
  LD [.sl] px54 w6 fun (x55 : Sl) =>
  IX x0 x5_2 1 fun (px56 : Addr) =>
  ST px56 0 [x55.v] w6 fun w7 =>
  I9 (IntKind.i64.wrap (x5_2 + 1)) (IntKind.i64.wrap (x7 + 1)) w7 ∧ m9 (IntKind.i64.wrap (x5_2 + 1)) (IntKind.i64.wrap (x7 + 1)) w7 < m9 x5_2 x7 w4) (
  I9 x5_2 (IntKind.i64.wrap (x7 + 1)) w6 ∧ m9 x5_2 (IntKind.i64.wrap (x7 + 1)) w6 < m9 x5_2 x7 w4))))))))) (
  SLC x0 (some x5_2) none 1 fun (x61 : Sl) =>
  RUN Tryz.prog (.at .val) (bsem .clear #[T.t_sl_sl_int] T.t_unit #[x61.v]) w4 fun (x : Value) w8 =>
  SLC x0 none (some x5_2) 1 fun (x64 : Sl) =>
  Q x64 w8)) (
  I4 (IntKind.i64.wrap (x5 + 1)) w3 ∧ m4 (IntKind.i64.wrap (x5 + 1)) w3 < m4 x5 w1)))))))) (
  Q x0 w1))

theorem C_slices_CompactFunc_sl_sl_int_sl_int {Q : Sl → World → Prop} {x0 : Sl} {x1 : Value} {w : World} (h : V_slices_CompactFunc_sl_sl_int_sl_int Q x0 x1 w) : Calls Tryz.prog F.slices_CompactFunc_sl_sl_int_sl_int #[x0.v, x1] w (Ret [.at .sl] Q) :=
  mkC (hint := hint) (ann := annOf [(4, ⟨[(5, .int .i64)], [4, 6, 7, 12, 13, 14, 15, 16, 17, 18, 19, 20, 21, 22, 23, 24, 25, 26, 27, 28, 29, 30, 31, 32, 33, 34, 35, 36, 37, 38, 39, 40, 41, 42, 43, 44, 45, 46, 47, 48, 49, 50, 51, 52, 53, 54, 55, 56, 57, 58, 59, 60, 61, 62, 63, 64]⟩), (9, ⟨[(5, .int .i64), (7, .int .i64)], [32, 33, 34, 35, 36, 37, 38, 39, 40, 41, 42, 43, 44, 45, 46, 47, 48, 49, 50, 51, 52, 53, 54, 55, 56, 57, 58]⟩)]) (args := [x0.v, x1]) (rs := [.at .sl]) Tryz.func73 (by kernel_rfl) (by kernel_rfl) h

def V_slices_Equal_sl_int_int (Q : Bool → World → Prop) (s1 : Sl) (s2 : Sl) (w : World) : Prop :=
  cond ((s1.len : Int) != s2.len) (
  Q false w) (
  ∃ (I4 : Int → World → Prop) (m4 : Int → World → Nat), I4 0 w ∧ ∀ (x13 : Int) w1, I4 x13 w1 → ∀ _ _ _ _ _ _ _ _ _ _ _ _ _ _ : Value,
  cond (decide ((x13 : Int) < s1.len)) (
  IX s1 x13 1 fun (px18 : Addr) =>
  LD [.int .i64] px18 w1 fun (x19 : Int) =>
  IX s2 x13 1 fun (px22 : Addr) =>
  LD [.int .i64] px22 w1 fun (x23 : Int) =>
  ∀ w2, Ext w1 w2 →
  cond ((x19 : Int) != x23) (
  Q false w2) (
  I4 (IntKind.i64.wrap (x13 + 1)) w2 ∧ m4 (IntKind.i64.wrap (x13 + 1)) w2 < m4 x13 w1)) (
  Q true w1))

theorem C_slices_Equal_sl_int_int {Q : Bool → World → Prop} {s1 : Sl} {s2 : Sl} {w : World} (h : V_slices_Equal_sl_int_int Q s1 s2 w) : Calls Tryz.prog F.slices_Equal_sl_int_int #[s1.v, s2.v] w (Ret [.at .bool] Q) :=
  mkC (hint := hint) (ann := annOf [(4, ⟨[(13, .int .i64)], [4, 5, 14, 15, 16, 17, 18, 19, 20, 21, 22, 23, 24, 25]⟩)]) (args := [s1.v, s2.v]) (rs := [.at .bool]) Tryz.func74 (by kernel_rfl) (by kernel_rfl) h

def V_i_WalkProblem_closure (Q : Sl → World → Prop) (p_0 : Int) (p_1 : Sl) (w : World) : Prop :=
  NEW T.t_i_WalkProblem #[.int .i64 p_0, p_1.v] w fun (p_p : Addr) w1 =>
  LD [.int .i64] (p_p.add 0) w1 fun (x8 : Int) =>
  RUN Tryz.prog (.at .sl) (Instr.makeSlice T.t_sl_int (.int .i64 x8) (.int .i64 x8)) w1 fun (x9 : Sl) w2 =>
  ∃ (I3 : Int → World → Prop) (m3 : Int → World → Nat), I3 0 w2 ∧ ∀ (x12 : Int) w3, I3 x12 w3 → ∀ _ _ _ _ _ _ _ _ _ _ _ _ _ _ _ _ _ _ _ _ _ _ _ : Value,
  cond (decide ((x12 : Int) < x9.len)) (
  LD [.int .i64, .sl] p_p w3 fun (x15_0 : Int) (x15_1 : Sl) =>
  LD [.int .i64] (p_p.add 0) w3 fun (x18 : Int) =>
  Calls Tryz.prog F.i_WalkProblem_reached #[.agg #[.int .i64 x15_0, x15_1.v], .int .i64 x12, .int .i64 x18] w3 (Ret [.at .sl] fun (x19 : Sl) w4 =>
  ∃ (I6 : Int → World → Prop) (m6 : Int → World → Nat), I6 0 w4 ∧ ∀ (x21 : Int) w5, I6 x21 w5 → ∀ _ _ _ _ _ _ _ _ _ _ _ _ : Value,
  cond (decide ((x21 : Int) < x19.len)) (
  IX x19 x21 1 fun (px23 : Addr) =>
  LD [.int .i64] px23 w5 fun (x24 : Int) =>
  IX x9 x12 1 fun (px27 : Addr) =>
  LD [.int .i64] px27 w5 fun (x28 : Int) =>
  IX x9 x12 1 fun (px31 : Addr) =>
  ST px31 0 [.int .i64 (bitOr .i64 x28 x24)] w5 fun w6 =>
  I6 (IntKind.i64.wrap (x21 + 1)) w6 ∧ m6 (IntKind.i64.wrap (x21 + 1)) w6 < m6 x21 w5) (
  I3 (IntKind.i64.wrap (x12 + 1)) w5 ∧ m3 (IntKind.i64.wrap (x12 + 1)) w5 < m3 x12 w3))) (
  Q x9 w3)

theorem C_i_WalkProblem_closure {Q : Sl → World → Prop} {p_0 : Int} {p_1 : Sl} {w : World} (h : V_i_WalkProblem_closure Q p_0 p_1 w) : Calls Tryz.prog F.i_WalkProblem_closure #[.agg #[.int .i64 p_0, p_1.v]] w (Ret [.at .sl] Q) :=
  mkC (hint := hint) (ann := annOf [(3, ⟨[(12, .int .i64)], [4, 6, 13, 14, 15, 16, 17, 18, 19, 20, 21, 22, 23, 24, 25, 26, 27, 28, 29, 30, 31, 32, 33]⟩), (6, ⟨[(21, .int .i64)], [6, 22, 23, 24, 25, 26, 27, 28, 29, 30, 31, 32]⟩)]) (args := [.agg #[.int .i64 p_0, p_1.v]]) (rs := [.at .sl]) Tryz.func75 (by kernel_rfl) (by kernel_rfl) h

def V_i_WalkProblem_after (Q : Sl → World → Prop) (p_0 : Int) (p_1 : Sl) (w : World) : Prop :=
  NEW T.t_i_WalkProblem #[.int .i64 p_0, p_1.v] w fun (p_p : Addr) w1 =>
  LD [.int .i64] (p_p.add 0) w1 fun (x7 : Int) =>
  RUN Tryz.prog (.at .sl) (Instr.makeSlice T.t_sl_int (.int .i64 x7) (.int .i64 x7)) w1 fun (x8 : Sl) w2 =>
  LD [.sl] (p_p.add 1) w2 fun (x10 : Sl) =>
  ∃ (I3 : Int → World → Prop) (m3 : Int → World → Nat), I3 0 w2 ∧ ∀ (x12 : Int) w3, I3 x12 w3 → ∀ _ _ _ _ _ _ _ _ _ _ _ _ _ _ _ _ _ : Value,
  cond (decide ((x12 : Int) < x10.len)) (
  IX x10 x12 1 fun (px14 : Addr) =>
  LD [.sl] px14 w3 fun (x15 : Sl) =>
  ∀ w4, Ext w3 w4 → w4.heap = w3.heap → ∃ (D4 : Nat → Prop),
  IX x15 0 1 fun (px18 : Addr) =>
  ¬ D4 px18.block ∧ (
  LD [.int .i64] px18 w4 fun (x19 : Int) =>
  IX x8 x19 1 fun (px20 : Addr) =>
  ¬ D4 px20.block ∧ (
  LD [.int .i64] px20 w4 fun (x21 : Int) =>
  Chg w4 w4 D4 ∧ (
  IX x15 1 1 fun (px23 : Addr) =>
  Chg w4 w4 D4 ∧ (
  LD [.int .i64] px23 w4 fun (x24 : Int) =>
  Chg w4 w4 D4 ∧ (
  (0 : Int) ≤ x24 ∧ (
  Chg w4 w4 D4 ∧ (
  Chg w4 w4 D4 ∧ (
  IX x8 x19 1 fun (px27 : Addr) =>
  ST px27 0 [.int .i64 (bitOr .i64 x21 (shlI .i64 1 x24))] w4 fun w5 =>
  I3 (IntKind.i64.wrap (x12 + 1)) w5 ∧ m3 (IntKind.i64.wrap (x12 + 1)) w5 < m3 x12 w3))))))))) (
  Q x8 w3)

theorem C_i_WalkProblem_after {Q : Sl → World → Prop} {p_0 : Int} {p_1 : Sl} {w : World} (h : V_i_WalkProblem_after Q p_0 p_1 w) : Calls Tryz.prog F.i_WalkProblem_after #[.agg #[.int .i64 p_0, p_1.v]] w (Ret [.at .sl] Q) :=
  mkC (hint := hint) (ann := annOf [(3, ⟨[(12, .int .i64)], [5, 13, 14, 15, 16, 17, 18, 19, 20, 21, 22, 23, 24, 25, 26, 27, 28]⟩)]) (args := [.agg #[.int .i64 p_0, p_1.v]]) (rs := [.at .sl]) Tryz.func76 (by kernel_rfl) (by kernel_rfl) h

def V_i_labelsIn (Q : Sl → World → Prop) (set1 : Int) (w : World) : Prop :=
  ∃ (I3 : Sl → Int → World → Prop) (m3 : Sl → Int → World → Nat), I3 (⟨none, 0, 0⟩) 0 w ∧ ∀ (out : Sl) (a : Int) w1, I3 out a w1 → ∀ _ _ _ _ _ _ _ _ _ _ _ _ _ _ _ : Value,
  (0 : Int) ≤ a ∧ (
  cond (((shrI .i64 set1 a) : Int) != 0) (
  (0 : Int) ≤ a ∧ (
  cond (((bitAnd .i64 (shrI .i64 set1 a) 1) : Int) == 1) (
  RUN Tryz.prog (.at .sl) (Instr.buildSlice T.t_sl_int 1 #[(0, .int .i64 a)]) w1 fun (x18 : Sl) w2 =>
  RUN Tryz.prog (.at .sl) (bsem .append #[T.t_sl_int, T.t_sl_int] T.t_sl_int #[out.v, x18.v]) w2 fun (x19 : Sl) w3 =>
  I3 x19 (IntKind.i64.wrap (a + 1)) w3 ∧ m3 x19 (IntKind.i64.wrap (a + 1)) w3 < m3 out a w1) (
  I3 out (IntKind.i64.wrap (a + 1)) w1 ∧ m3 out (IntKind.i64.wrap (a + 1)) w1 < m3 out a w1))) (
  Q out w1))

theorem C_i_labelsIn {Q : Sl → World → Prop} {set1 : Int} {w : World} (h : V_i_labelsIn Q set1 w) : Calls Tryz.prog F.i_labelsIn #[.int .i64 set1] w (Ret [.at .sl] Q) :=
  mkC (hint := hint) (ann := annOf [(3, ⟨[(3, .sl), (4, .int .i64)], [5, 6, 7, 8, 9, 10, 11, 12, 13, 14, 15, 16, 17, 18, 19]⟩)]) (args := [.int .i64 set1]) (rs := [.at .sl]) Tryz.func77 (by kernel_rfl) (by kernel_rfl) h

def V_i_WalkProblem_periodOf (Q : Int → World → Prop) (p_0 : Int) (p_1 : Sl) (component : Sl) (w : World) : Prop :=
  NEW T.t_i_WalkProblem #[.int .i64 p_0, p_1.v] w fun (p_p : Addr) w1 =>
  ∀ w2, Ext w1 w2 → w2.heap = w1.heap →
  LD [.int .i64, .sl] p_p w2 fun (x10_0 : Int) (x10_1 : Sl) =>
  Ext w2 w2 ∧ (
  IX component 0 1 fun (px12 : Addr) =>
  Ext w2 w2 ∧ (
  LD [.int .i64] px12 w2 fun (x13 : Int) =>
  Ext w2 w2 ∧ (
  Calls Tryz.prog F.i_WalkProblem_distancesIn #[.agg #[.int .i64 x10_0, x10_1.v], .int .i64 x13] w2 (Ret [.at .sl] fun (x14 : Sl) w3 =>
  LD [.sl] (p_p.add 1) w3 fun (x16 : Sl) =>
  ∃ (I4 : Int → Int → World → Prop) (m4 : Int → Int → World → Nat), I4 0 0 w3 ∧ ∀ (d : Int) (x18 : Int) w4, I4 d x18 w4 → ∀ _ _ _ _ _ _ _ _ _ _ _ _ _ _ _ _ _ _ _ _ _ _ _ _ _ _ _ _ _ _ _ _ _ _ _ _ _ _ _ : Value,
  cond (decide ((x18 : Int) < x16.len)) (
  IX x16 x18 1 fun (px20 : Addr) =>
  LD [.sl] px20 w4 fun (x21 : Sl) =>
  IX x21 0 1 fun (px24 : Addr) =>
  LD [.int .i64] px24 w4 fun (x25 : Int) =>
  Calls Tryz.prog F.slices_Contains_sl_int_int #[component.v, .int .i64 x25] w4 (Ret [.at .bool] fun (x26 : Bool) w5 =>
  cond x26 (
  IX x21 1 1 fun (px30 : Addr) =>
  LD [.int .i64] px30 w5 fun (x31 : Int) =>
  Calls Tryz.prog F.slices_Contains_sl_int_int #[component.v, .int .i64 x31] w5 (Ret [.at .bool] fun (x32 : Bool) w6 =>
  cond x32 (
  IX x21 0 1 fun (px36 : Addr) =>
  LD [.int .i64] px36 w6 fun (x37 : Int) =>
  IX x14 x37 1 fun (px38 : Addr) =>
  LD [.int .i64] px38 w6 fun (x39 : Int) =>
  IX x21 1 1 fun (px43 : Addr) =>
  LD [.int .i64] px43 w6 fun (x44 : Int) =>
  IX x14 x44 1 fun (px45 : Addr) =>
  LD [.int .i64] px45 w6 fun (x46 : Int) =>
  ∀ w7, Ext w6 w7 →
  RUN Tryz.prog (.at (.int .i64)) (bsem .max #[T.t_int, T.t_int] T.t_int #[.int .i64 (IntKind.i64.wrap ((IntKind.i64.wrap (x39 + 1)) - x46)), .int .i64 (IntKind.i64.wrap (0 - (IntKind.i64.wrap ((IntKind.i64.wrap (x39 + 1)) - x46))))]) w7 fun (x52 : Int) w8 =>
  RUN Tryz.prog (.at .sl) (Instr.buildSlice T.t_sl_int 2 #[(0, .int .i64 d), (1, .int .i64 x52)]) w8 fun (x53 : Sl) w9 =>
  Calls Tryz.prog F.i_gcd #[x53.v] w9 (Ret [.at (.int .i64)] fun (x54 : Int) w10 =>
  I4 x54 (IntKind.i64.wrap (x18 + 1)) w10 ∧ m4 x54 (IntKind.i64.wrap (x18 + 1)) w10 < m4 d x18 w4)) (
  I4 d (IntKind.i64.wrap (x18 + 1)) w6 ∧ m4 d (IntKind.i64.wrap (x18 + 1)) w6 < m4 d x18 w4))) (
  I4 d (IntKind.i64.wrap (x18 + 1)) w5 ∧ m4 d (IntKind.i64.wrap (x18 + 1)) w5 < m4 d x18 w4))) (
  Q d w4)))))

theorem C_i_WalkProblem_periodOf {Q : Int → World → Prop} {p_0 : Int} {p_1 : Sl} {component : Sl} {w : World} (h : V_i_WalkProblem_periodOf Q p_0 p_1 component w) : Calls Tryz.prog F.i_WalkProblem_periodOf #[.agg #[.int .i64 p_0, p_1.v], component.v] w (Ret [.at (.int .i64)] Q) :=
  mkC (hint := hint) (ann := annOf [(4, ⟨[(6, .int .i64), (18, .int .i64)], [8, 9, 19, 20, 21, 22, 23, 24, 25, 26, 27, 28, 29, 30, 31, 32, 33, 34, 35, 36, 37, 38, 39, 40, 41, 42, 43, 44, 45, 46, 47, 48, 49, 50, 51, 52, 53, 54, 55]⟩)]) (args := [.agg #[.int .i64 p_0, p_1.v], component.v]) (rs := [.at (.int .i64)]) Tryz.func78 (by kernel_rfl) (by kernel_rfl) h

def V_s_waMay (Q : Sl → World → Prop) (p_0 : Int) (p_1 : Sl) (w : World) : Prop :=
  NEW T.t_i_WalkProblem #[.int .i64 p_0, p_1.v] w fun (p_p : Addr) w1 =>
  ∃ (I3 : Sl → Int → World → Prop) (m3 : Sl → Int → World → Nat), I3 (⟨none, 0, 0⟩) 0 w1 ∧ ∀ (out : Sl) (a : Int) w2, I3 out a w2 → ∀ _ _ _ _ _ _ _ _ _ _ _ _ : Value,
  LD [.int .i64] (p_p.add 0) w2 fun (x9 : Int) =>
  cond (decide ((a : Int) < x9)) (
  LD [.int .i64] (p_p.add 0) w2 fun (x15 : Int) =>
  RUN Tryz.prog (.at .sl) (Instr.makeSlice T.t_sl_bool (.int .i64 x15) (.int .i64 x15)) w2 fun (x16 : Sl) w3 =>
  RUN Tryz.prog (.at .sl) (Instr.buildSlice T.t_sl_sl_bool 1 #[(0, x16.v)]) w3 fun (x17 : Sl) w4 =>
  RUN Tryz.prog (.at .sl) (bsem .append #[T.t_sl_sl_bool, T.t_sl_sl_bool] T.t_sl_sl_bool #[out.v, x17.v]) w4 fun (x18 : Sl) w5 =>
  I3 x18 (IntKind.i64.wrap (a + 1)) w5 ∧ m3 x18 (IntKind.i64.wrap (a + 1)) w5 < m3 out a w2) (
  LD [.sl] (p_p.add 1) w2 fun (x20 : Sl) =>
  ∃ (I7 : Int → World → Prop) (m7 : Int → World → Nat), I7 0 w2 ∧ ∀ (x22 : Int) w6, I7 x22 w6 → ∀ _ _ _ _ _ _ _ _ _ _ _ _ _ _ _ : Value,
  cond (decide ((x22 : Int) < x20.len)) (
  IX x20 x22 1 fun (px24 : Addr) =>
  LD [.sl] px24 w6 fun (x25 : Sl) =>
  ∀ w7, Ext w6 w7 → w7.heap = w6.heap → ∃ (D7 : Nat → Prop),
  IX x25 0 1 fun (px28 : Addr) =>
  ¬ D7 px28.block ∧ (
  LD [.int .i64] px28 w7 fun (x29 : Int) =>
  IX out x29 1 fun (px30 : Addr) =>
  ¬ D7 px30.block ∧ (
  LD [.sl] px30 w7 fun (x31 : Sl) =>
  Chg w7 w7 D7 ∧ (
  IX x25 1 1 fun (px33 : Addr) =>
  Chg w7 w7 D7 ∧ (
  LD [.int .i64] px33 w7 fun (x34 : Int) =>
  Chg w7 w7 D7 ∧ (
  IX x31 x34 1 fun (px35 : Addr) =>
  ST px35 0 [.bool true] w7 fun w8 =>
  I7 (IntKind.i64.wrap (x22 + 1)) w8 ∧ m7 (IntKind.i64.wrap (x22 + 1)) w8 < m7 x22 w6)))))) (
  Q out w6))

theorem C_s_waMay {Q : Sl → World → Prop} {p_0 : Int} {p_1 : Sl} {w : World} (h : V_s_waMay Q p_0 p_1 w) : Calls Tryz.prog F.s_waMay #[.agg #[.int .i64 p_0, p_1.v]] w (Ret [.at .sl] Q) :=
  mkC (hint := hint) (ann := annOf [(3, ⟨[(3, .sl), (4, .int .i64)], [7, 8, 9, 10, 11, 12, 13, 14, 15, 16, 17, 18]⟩), (7, ⟨[(22, .int .i64)], [6, 23, 24, 25, 26, 27, 28, 29, 30, 31, 32, 33, 34, 35, 36]⟩)]) (args := [.agg #[.int .i64 p_0, p_1.v]]) (rs := [.at .sl]) Tryz.func81 (by kernel_rfl) (by kernel_rfl) h

def V_s_waPowers (Q : Sl → World → Prop) (p_0 : Int) (p_1 : Sl) (most : Int) (w : World) : Prop :=
  NEW T.t_i_WalkProblem #[.int .i64 p_0, p_1.v] w fun (p_p : Addr) w1 =>
  LD [.int .i64] (p_p.add 0) w1 fun (x10 : Int) =>
  Calls Tryz.prog F.s_waMay #[.agg #[.int .i64 x10, .slice none 0 0]] w1 (Ret [.at .sl] fun (x12 : Sl) w2 =>
  ∃ (I3 : Int → World → Prop) (m3 : Int → World → Nat), I3 0 w2 ∧ ∀ (x15 : Int) w3, I3 x15 w3 → ∀ _ _ _ _ _ _ _ _ _ _ : Value,
  cond (decide ((x15 : Int) < x12.len)) (
  IX x12 x15 1 fun (px20 : Addr) =>
  LD [.sl] px20 w3 fun (x21 : Sl) =>
  IX x21 x15 1 fun (px23 : Addr) =>
  ST px23 0 [.bool true] w3 fun w4 =>
  I3 (IntKind.i64.wrap (x15 + 1)) w4 ∧ m3 (IntKind.i64.wrap (x15 + 1)) w4 < m3 x15 w3) (
  RUN Tryz.prog (.at .sl) (Instr.buildSlice T.t_sl_sl_sl_bool 1 #[(0, x12.v)]) w3 fun (x26 : Sl) w5 =>
  LD [.int .i64, .sl] p_p w5 fun (x27_0 : Int) (x27_1 : Sl) =>
  Calls Tryz.prog F.s_waMay #[.agg #[.int .i64 x27_0, x27_1.v]] w5 (Ret [.at .sl] fun (x28 : Sl) w6 =>
  ∃ (I9 : Sl → World → Prop) (m9 : Sl → World → Nat), I9 x26 w6 ∧ ∀ (out : Sl) w7, I9 out w7 → ∀ _ _ _ _ _ _ _ _ _ _ _ _ _ _ _ : Value,
  cond (decide ((out.len : Int) ≤ most)) (
  IX out (IntKind.i64.wrap (out.len - 1)) 1 fun (px38 : Addr) =>
  LD [.sl] px38 w7 fun (x39 : Sl) =>
  Calls Tryz.prog F.s_waTimes #[x39.v, x28.v] w7 (Ret [.at .sl] fun (x41 : Sl) w8 =>
  RUN Tryz.prog (.at .sl) (Instr.buildSlice T.t_sl_sl_sl_bool 1 #[(0, x41.v)]) w8 fun (x42 : Sl) w9 =>
  RUN Tryz.prog (.at .sl) (bsem .append #[T.t_sl_sl_sl_bool, T.t_sl_sl_sl_bool] T.t_sl_sl_sl_bool #[out.v, x42.v]) w9 fun (x43 : Sl) w10 =>
  I9 x43 w10 ∧ m9 x43 w10 < m9 out w7)) (
  Q out w7))))

theorem C_s_waPowers {Q : Sl → World → Prop} {p_0 : Int} {p_1 : Sl} {most : Int} {w : World} (h : V_s_waPowers Q p_0 p_1 most w) : Calls Tryz.prog F.s_waPowers #[.agg #[.int .i64 p_0, p_1.v], .int .i64 most] w (Ret [.at .sl] Q) :=
  mkC (hint := hint) (ann := annOf [(3, ⟨[(15, .int .i64)], [6, 16, 17, 18, 19, 20, 21, 22, 23, 24]⟩), (9, ⟨[(7, .sl)], [29, 30, 31, 32, 33, 34, 35, 36, 37, 38, 39, 40, 41, 42, 43]⟩)]) (args := [.agg #[.int .i64 p_0, p_1.v], .int .i64 most]) (rs := [.at .sl]) Tryz.func82 (by kernel_rfl) (by kernel_rfl) h

def V_s_l1Most (Q : Int → World → Prop) (a : Int) (b : Int) (w : World) : Prop :=
  cond (decide ((a : Int) > b)) (
  Q a w) (
  Q b w)

theorem C_s_l1Most {Q : Int → World → Prop} {a : Int} {b : Int} {w : World} (h : V_s_l1Most Q a b w) : Calls Tryz.prog F.s_l1Most #[.int .i64 a, .int .i64 b] w (Ret [.at (.int .i64)] Q) :=
  mkC (hint := hint) (ann := annOf []) (args := [.int .i64 a, .int .i64 b]) (rs := [.at (.int .i64)]) Tryz.func83 (by kernel_rfl) (by kernel_rfl) h

def V_slices_IndexFunc_sl_int_int (Q : Int → World → Prop) (s : Sl) (f : Value) (w : World) : Prop :=
  ∃ (I2 : Int → World → Prop) (m2 : Int → World → Nat), I2 0 w ∧ ∀ (x8 : Int) w1, I2 x8 w1 → ∀ _ _ _ _ _ _ _ _ _ _ _ _ : Value,
  cond (decide ((x8 : Int) < s.len)) (
  IX s x8 1 fun (px14 : Addr) =>
  LD [.int .i64] px14 w1 fun (x15 : Int) =>
  CALLV Tryz.prog f #[.int .i64 x15] w1 (Ret [.at .bool] fun (x16 : Bool) w2 =>
  cond x16 (
  Q x8 w2) (
  I2 (IntKind.i64.wrap (x8 + 1)) w2 ∧ m2 (IntKind.i64.wrap (x8 + 1)) w2 < m2 x8 w1))) (
  Q (-1) w1)

theorem C_slices_IndexFunc_sl_int_int {Q : Int → World → Prop} {s : Sl} {f : Value} {w : World} (h : V_slices_IndexFunc_sl_int_int Q s f w) : Calls Tryz.prog F.slices_IndexFunc_sl_int_int #[s.v, f] w (Ret [.at (.int .i64)] Q) :=
  mkC (hint := hint) (ann := annOf [(2, ⟨[(8, .int .i64)], [4, 5, 9, 10, 11, 12, 13, 14, 15, 16, 17, 18]⟩)]) (args := [s.v, f]) (rs := [.at (.int .i64)]) Tryz.func84 (by kernel_rfl) (by kernel_rfl) h

def V_i_WalkProblem_reached (Q : Sl → World → Prop) (p_0 : Int) (p_1 : Sl) (a : Int) (most : Int) (w : World) : Prop :=
  NEW T.t_i_WalkProblem #[.int .i64 p_0, p_1.v] w fun (p_p : Addr) w1 =>
  LD [.int .i64, .sl] p_p w1 fun (x13_0 : Int) (x13_1 : Sl) =>
  Calls Tryz.prog F.i_WalkProblem_after #[.agg #[.int .i64 x13_0, x13_1.v]] w1 (Ret [.at .sl] fun (x14 : Sl) w2 =>
  (0 : Int) ≤ a ∧ (
  RUN Tryz.prog (.at .sl) (Instr.buildSlice T.t_sl_int 1 #[(0, .int .i64 (shlI .i64 1 a))]) w2 fun (x17 : Sl) w3 =>
  ∃ (I4 : Sl → Int → World → Prop) (m4 : Sl → Int → World → Nat), I4 x17 0 w3 ∧ ∀ (out : Sl) (x19 : Int) w4, I4 out x19 w4 → ∀ _ _ _ _ _ _ _ _ _ _ _ _ _ _ _ _ _ _ _ _ _ _ _ _ _ _ _ : Value,
  cond (decide ((x19 : Int) < most)) (
  IX out x19 1 fun (px24 : Addr) =>
  LD [.int .i64] px24 w4 fun (x25 : Int) =>
  Calls Tryz.prog F.i_labelsIn #[.int .i64 x25] w4 (Ret [.at .sl] fun (x26 : Sl) w5 =>
  ∃ (I8 : Int → Int → World → Prop) (m8 : Int → Int → World → Nat), I8 0 0 w5 ∧ ∀ (next1 : Int) (x28 : Int) w6, I8 next1 x28 w6 → ∀ _ _ _ _ _ _ _ _ _ _ _ : Value,
  cond (decide ((x28 : Int) < x26.len)) (
  IX x26 x28 1 fun (px30 : Addr) =>
  LD [.int .i64] px30 w6 fun (x31 : Int) =>
  IX x14 x31 1 fun (px35 : Addr) =>
  LD [.int .i64] px35 w6 fun (x36 : Int) =>
  I8 (bitOr .i64 next1 x36) (IntKind.i64.wrap (x28 + 1)) w6 ∧ m8 (bitOr .i64 next1 x36) (IntKind.i64.wrap (x28 + 1)) w6 < m8 next1 x28 w6) (
  RUN Tryz.prog (.at .sl) (Instr.buildSlice T.t_sl_int 1 #[(0, .int .i64 next1)]) w6 fun (x41 : Sl) w7 =>
  RUN Tryz.prog (.at .sl) (bsem .append #[T.t_sl_int, T.t_sl_int] T.t_sl_int #[out.v, x41.v]) w7 fun (x42 : Sl) w8 =>
  I4 x42 (IntKind.i64.wrap (x19 + 1)) w8 ∧ m4 x42 (IntKind.i64.wrap (x19 + 1)) w8 < m4 out x19 w4))) (
  Q out w4)))

theorem C_i_WalkProblem_reached {Q : Sl → World → Prop} {p_0 : Int} {p_1 : Sl} {a : Int} {most : Int} {w : World} (h : V_i_WalkProblem_reached Q p_0 p_1 a most w) : Calls Tryz.prog F.i_WalkProblem_reached #[.agg #[.int .i64 p_0, p_1.v], .int .i64 a, .int .i64 most] w (Ret [.at .sl] Q) :=
  mkC (hint := hint) (ann := annOf [(4, ⟨[(8, .sl), (19, .int .i64)], [9, 10, 12, 20, 21, 22, 23, 24, 25, 26, 27, 28, 29, 30, 31, 32, 33, 34, 35, 36, 37, 38, 39, 40, 41, 42, 43]⟩), (8, ⟨[(10, .int .i64), (28, .int .i64)], [12, 29, 30, 31, 32, 33, 34, 35, 36, 37, 38]⟩)]) (args := [.agg #[.int .i64 p_0, p_1.v], .int .i64 a, .int .i64 most]) (rs := [.at .sl]) Tryz.func86 (by kernel_rfl) (by kernel_rfl) h

def V_i_WalkProblem_distancesIn (Q : Sl → World → Prop) (p_0 : Int) (p_1 : Sl) (a : Int) (w : World) : Prop :=
  NEW T.t_i_WalkProblem #[.int .i64 p_0, p_1.v] w fun (p_p : Addr) w1 =>
  RUN Tryz.prog (.at .sl) (Instr.buildSlice T.t_sl_int 1 #[(0, .int .i64 (-1))]) w1 fun (x10 : Sl) w2 =>
  LD [.int .i64] (p_p.add 0) w2 fun (x12 : Int) =>
  Calls Tryz.prog F.slices_Repeat_sl_int_int #[x10.v, .int .i64 x12] w2 (Ret [.at .sl] fun (x13 : Sl) w3 =>
  LD [.int .i64, .sl] p_p w3 fun (x14_0 : Int) (x14_1 : Sl) =>
  LD [.int .i64] (p_p.add 0) w3 fun (x17 : Int) =>
  Calls Tryz.prog F.i_WalkProblem_reached #[.agg #[.int .i64 x14_0, x14_1.v], .int .i64 a, .int .i64 x17] w3 (Ret [.at .sl] fun (x18 : Sl) w4 =>
  ∃ (I3 : Int → World → Prop) (m3 : Int → World → Nat), I3 0 w4 ∧ ∀ (x20 : Int) w5, I3 x20 w5 → ∀ _ _ _ _ _ _ _ _ _ _ _ _ _ _ _ _ _ _ _ _ _ _ _ _ _ : Value,
  cond (decide ((x20 : Int) < x18.len)) (
  IX x18 x20 1 fun (px23 : Addr) =>
  LD [.int .i64] px23 w5 fun (x24 : Int) =>
  Calls Tryz.prog F.i_labelsIn #[.int .i64 x24] w5 (Ret [.at .sl] fun (x26 : Sl) w6 =>
  ∃ (I6 : Int → World → Prop) (m6 : Int → World → Nat), I6 0 w6 ∧ ∀ (x28 : Int) w7, I6 x28 w7 → ∀ _ _ _ _ _ _ _ _ _ _ _ _ _ _ : Value,
  cond (decide ((x28 : Int) < x26.len)) (
  IX x26 x28 1 fun (px30 : Addr) =>
  LD [.int .i64] px30 w7 fun (x31 : Int) =>
  IX x13 x31 1 fun (px34 : Addr) =>
  LD [.int .i64] px34 w7 fun (x35 : Int) =>
  cond (decide ((x35 : Int) < 0)) (
  IX x13 x31 1 fun (px40 : Addr) =>
  ST px40 0 [.int .i64 x20] w7 fun w8 =>
  I6 (IntKind.i64.wrap (x28 + 1)) w8 ∧ m6 (IntKind.i64.wrap (x28 + 1)) w8 < m6 x28 w7) (
  I6 (IntKind.i64.wrap (x28 + 1)) w7 ∧ m6 (IntKind.i64.wrap (x28 + 1)) w7 < m6 x28 w7)) (
  I3 (IntKind.i64.wrap (x20 + 1)) w7 ∧ m3 (IntKind.i64.wrap (x20 + 1)) w7 < m3 x20 w5))) (
  Q x13 w5)))

theorem C_i_WalkProblem_distancesIn {Q : Sl → World → Prop} {p_0 : Int} {p_1 : Sl} {a : Int} {w : World} (h : V_i_WalkProblem_distancesIn Q p_0 p_1 a w) : Calls Tryz.prog F.i_WalkProblem_distancesIn #[.agg #[.int .i64 p_0, p_1.v], .int .i64 a] w (Ret [.at .sl] Q) :=
  mkC (hint := hint) (ann := annOf [(3, ⟨[(20, .int .i64)], [6, 7, 9, 21, 22, 23, 24, 25, 26, 27, 28, 29, 30, 31, 32, 33, 34, 35, 36, 37, 38, 39, 40, 41, 42]⟩), (6, ⟨[(28, .int .i64)], [9, 29, 30, 31, 32, 33, 34, 35, 36, 37, 38, 39, 40, 41]⟩)]) (args := [.agg #[.int .i64 p_0, p_1.v], .int .i64 a]) (rs := [.at .sl]) Tryz.func87 (by kernel_rfl) (by kernel_rfl) h

def V_i_gcd (Q : Int → World → Prop) (list : Sl) (w : World) : Prop :=
  ∃ (I3 : Int → Int → World → Prop) (m3 : Int → Int → World → Nat), I3 0 0 w ∧ ∀ (d : Int) (x8 : Int) w1, I3 d x8 w1 → ∀ _ _ _ _ _ _ _ _ _ _ _ : Value,
  cond (decide ((x8 : Int) < list.len)) (
  IX list x8 1 fun (px10 : Addr) =>
  LD [.int .i64] px10 w1 fun (x11 : Int) =>
  ∃ (I5 : Int → Int → World → Prop) (m5 : Int → Int → World → Nat), I5 d x11 w1 ∧ ∀ (d_2 : Int) (n : Int) w2, I5 d_2 n w2 → ∀ _ _ _ _ _ _ : Value,
  cond ((n : Int) != 0) (
  (n : Int) ≠ 0 ∧ (
  ∀ w3, Ext w2 w3 →
  I5 n (Int.tmod d_2 n) w3 ∧ m5 n (Int.tmod d_2 n) w3 < m5 d_2 n w2)) (
  I3 d_2 (IntKind.i64.wrap (x8 + 1)) w2 ∧ m3 d_2 (IntKind.i64.wrap (x8 + 1)) w2 < m3 d x8 w1)) (
  Q d w1)

theorem C_i_gcd {Q : Int → World → Prop} {list : Sl} {w : World} (h : V_i_gcd Q list w) : Calls Tryz.prog F.i_gcd #[list.v] w (Ret [.at (.int .i64)] Q) :=
  mkC (hint := hint) (ann := annOf [(3, ⟨[(3, .int .i64), (8, .int .i64)], [5, 9, 10, 11, 12, 13, 14, 15, 16, 17, 18]⟩), (5, ⟨[(3, .int .i64), (5, .int .i64)], [12, 13, 14, 15, 16, 17]⟩)]) (args := [list.v]) (rs := [.at (.int .i64)]) Tryz.func88 (by kernel_rfl) (by kernel_rfl) h

def V_s_waTimes (Q : Sl → World → Prop) (a : Sl) (b : Sl) (w : World) : Prop :=
  ∃ (I3 : Sl → Int → World → Prop) (m3 : Sl → Int → World → Nat), I3 (⟨none, 0, 0⟩) 0 w ∧ ∀ (out : Sl) (x14 : Int) w1, I3 out x14 w1 → ∀ _ _ _ _ _ _ _ _ _ _ _ _ _ _ _ _ _ _ _ _ _ _ _ _ _ _ _ _ _ _ _ _ _ _ _ _ _ _ _ _ _ _ _ _ _ _ _ _ _ : Value,
  cond (decide ((x14 : Int) < a.len)) (
  IX a x14 1 fun (px16 : Addr) =>
  LD [.sl] px16 w1 fun (x17 : Sl) =>
  RUN Tryz.prog (.at .sl) (Instr.makeSlice T.t_sl_bool (.int .i64 x17.len) (.int .i64 x17.len)) w1 fun (x20 : Sl) w2 =>
  ∃ (I7 : Int → World → Prop) (m7 : Int → World → Nat), I7 0 w2 ∧ ∀ (x23 : Int) w3, I7 x23 w3 → ∀ _ _ _ _ _ _ _ _ _ _ _ _ _ _ _ _ _ _ _ _ _ _ _ _ _ _ _ _ _ _ _ _ _ : Value,
  cond (decide ((x23 : Int) < x17.len)) (
  IX x17 x23 1 fun (px26 : Addr) =>
  LD [.bool] px26 w3 fun (x27 : Bool) =>
  ∃ (I10 : Int → World → Prop) (m10 : Int → World → Nat), I10 0 w3 ∧ ∀ (x30 : Int) w4, I10 x30 w4 → ∀ _ _ _ _ _ _ _ _ _ _ _ _ _ _ _ _ _ _ _ _ _ _ _ : Value,
  cond (decide ((x30 : Int) < x20.len)) (
  IX x20 x30 1 fun (px37 : Addr) =>
  LD [.bool] px37 w4 fun (x38 : Bool) =>
  cond x38 (
  IX x20 x30 1 fun (px51 : Addr) =>
  ST px51 0 [.bool true] w4 fun w5 =>
  I10 (IntKind.i64.wrap (x30 + 1)) w5 ∧ m10 (IntKind.i64.wrap (x30 + 1)) w5 < m10 x30 w4) (
  cond x27 (
  IX b x23 1 fun (px44 : Addr) =>
  LD [.sl] px44 w4 fun (x45 : Sl) =>
  IX x45 x30 1 fun (px47 : Addr) =>
  LD [.bool] px47 w4 fun (x48 : Bool) =>
  IX x20 x30 1 fun (px51_2 : Addr) =>
  ST px51_2 0 [.bool x48] w4 fun w6 =>
  I10 (IntKind.i64.wrap (x30 + 1)) w6 ∧ m10 (IntKind.i64.wrap (x30 + 1)) w6 < m10 x30 w4) (
  IX x20 x30 1 fun (px51_3 : Addr) =>
  ST px51_3 0 [.bool false] w4 fun w7 =>
  I10 (IntKind.i64.wrap (x30 + 1)) w7 ∧ m10 (IntKind.i64.wrap (x30 + 1)) w7 < m10 x30 w4))) (
  I7 (IntKind.i64.wrap (x23 + 1)) w4 ∧ m7 (IntKind.i64.wrap (x23 + 1)) w4 < m7 x23 w3)) (
  RUN Tryz.prog (.at .sl) (Instr.buildSlice T.t_sl_sl_bool 1 #[(0, x20.v)]) w3 fun (x56 : Sl) w8 =>
  RUN Tryz.prog (.at .sl) (bsem .append #[T.t_sl_sl_bool, T.t_sl_sl_bool] T.t_sl_sl_bool #[out.v, x56.v]) w8 fun (x57 : Sl) w9 =>
  I3 x57 (IntKind.i64.wrap (x14 + 1)) w9 ∧ m3 x57 (IntKind.i64.wrap (x14 + 1)) w9 < m3 out x14 w1)) (
  Q out w1)

theorem C_s_waTimes {Q : Sl → World → Prop} {a : Sl} {b : Sl} {w : World} (h : V_s_waTimes Q a b w) : Calls Tryz.prog F.s_waTimes #[a.v, b.v] w (Ret [.at .sl] Q) :=
  mkC (hint := hint) (ann := annOf [(3, ⟨[(5, .sl), (14, .int .i64)], [7, 8, 9, 10, 11, 15, 16, 17, 18, 19, 20, 21, 22, 23, 24, 25, 26, 27, 28, 29, 30, 31, 32, 33, 34, 35, 36, 37, 38, 39, 40, 41, 42, 43, 44, 45, 46, 47, 48, 49, 50, 51, 52, 53, 54, 55, 56, 57, 58]⟩), (7, ⟨[(23, .int .i64)], [9, 10, 11, 24, 25, 26, 27, 28, 29, 30, 31, 32, 33, 34, 35, 36, 37, 38, 39, 40, 41, 42, 43, 44, 45, 46, 47, 48, 49, 50, 51, 52, 53]⟩), (10, ⟨[(30, .int .i64)], [11, 31, 32, 33, 34, 35, 36, 37, 38, 39, 40, 41, 42, 43, 44, 45, 46, 47, 48, 49, 50, 51, 52]⟩)]) (args := [a.v, b.v]) (rs := [.at .sl]) Tryz.func99 (by kernel_rfl) (by kernel_rfl) h

def V_slices_Repeat_sl_int_int_k2 (x : Sl) (Q : Sl → World → Prop) (x18_1 : Int) (w2 : World) : Prop :=
  RUN Tryz.prog (.at .sl) (Instr.makeSlice T.t_sl_int (.int .i64 (IntKind.i64.wrap x18_1)) (.int .i64 (IntKind.i64.wrap x18_1))) w2 fun (x30 : Sl) w3 =>
  RUN Tryz.prog (.at (.int .i64)) (bsem .copy #[T.t_sl_int, T.t_sl_int] T.t_int #[x30.v, x.v]) w3 fun (x33 : Int) w4 =>
  ∃ (I8 : Int → World → Prop) (m8 : Int → World → Nat), I8 x33 w4 ∧ ∀ (n : Int) w5, I8 n w5 → ∀ _ _ _ _ _ _ _ _ _ _ _ _ _ : Value,
  cond (decide ((n : Int) < x30.len)) (
  ∀ w6, Ext w5 w6 → w6.heap = w5.heap → ∃ (D6 : Nat → Prop),
  SLC x30 (some n) none 1 fun (x41 : Sl) =>
  Chg w6 w6 D6 ∧ (
  SLC x30 none (some n) 1 fun (x44 : Sl) =>
  Chg w6 w6 D6 ∧ (
  RUN Tryz.prog (.at (.int .i64)) (bsem .copy #[T.t_sl_int, T.t_sl_int] T.t_int #[x41.v, x44.v]) w6 fun (x45 : Int) w7 =>
  Chg w6 w7 D6 ∧ (
  Chg w6 w7 D6 ∧ (
  I8 (IntKind.i64.wrap (n + x45)) w7 ∧ m8 (IntKind.i64.wrap (n + x45)) w7 < m8 n w5))))) (
  Q x30 w5)

def V_slices_Repeat_sl_int_int (Q : Sl → World → Prop) (x : Sl) (count : Int) (w : World) : Prop :=
  cond (decide ((count : Int) < 0)) (
  False) (
  Calls Tryz.prog F.math_bits_Mul #[.int .u64 (IntKind.u64.wrap x.len), .int .u64 (IntKind.u64.wrap count)] w (Ret [.at (.int .u64), .at (.int .u64)] fun (x18_0 : Int) (x18_1 : Int) w1 =>
  cond (decide ((x18_0 : Int) > 0)) (
  False) (
  cond (decide ((x18_1 : Int) > 9223372036854775807)) (
  False) (
  V_slices_Repeat_sl_int_int_k2 x Q x18_1 w1))))

theorem C_slices_Repeat_sl_int_int {Q : Sl → World → Prop} {x : Sl} {count : Int} {w : World} (h : V_slices_Repeat_sl_int_int Q x count w) : Calls Tryz.prog F.slices_Repeat_sl_int_int #[x.v, .int .i64 count] w (Ret [.at .sl] Q) :=
  mkC (hint := hint) (ann := annOf [(8, ⟨[(8, .int .i64)], [34, 35, 36, 37, 38, 39, 40, 41, 42, 43, 44, 45, 46]⟩)]) (args := [x.v, .int .i64 count]) (rs := [.at .sl]) Tryz.func108 (by kernel_rfl) (by kernel_rfl) h

def V_math_bits_Mul (Q : Int → Int → World → Prop) (x : Int) (y : Int) (w : World) : Prop :=
  Calls Tryz.prog F.math_bits_Mul64 #[.int .u64 x, .int .u64 y] w (Ret [.at (.int .u64), .at (.int .u64)] fun (x25_0 : Int) (x25_1 : Int) w1 =>
  Q x25_0 x25_1 w1)

theorem C_math_bits_Mul {Q : Int → Int → World → Prop} {x : Int} {y : Int} {w : World} (h : V_math_bits_Mul Q x y w) : Calls Tryz.prog F.math_bits_Mul #[.int .u64 x, .int .u64 y] w (Ret [.at (.int .u64), .at (.int .u64)] Q) :=
  mkC (hint := hint) (ann := annOf []) (args := [.int .u64 x, .int .u64 y]) (rs := [.at (.int .u64), .at (.int .u64)]) Tryz.func117 (by kernel_rfl) (by kernel_rfl) h

def V_math_bits_Mul64 (Q : Int → Int → World → Prop) (x : Int) (y : Int) (w : World) : Prop :=
  (0 : Int) ≤ 32 ∧ (
  (0 : Int) ≤ 32 ∧ (
  (0 : Int) ≤ 32 ∧ (
  (0 : Int) ≤ 32 ∧ (
  (0 : Int) ≤ 32 ∧ (
  Q (IntKind.u64.wrap ((IntKind.u64.wrap ((IntKind.u64.wrap ((shrI .u64 x 32) * (shrI .u64 y 32))) + (shrI .u64 (IntKind.u64.wrap ((IntKind.u64.wrap ((shrI .u64 x 32) * (bitAnd .u64 y 4294967295))) + (shrI .u64 (IntKind.u64.wrap ((bitAnd .u64 x 4294967295) * (bitAnd .u64 y 4294967295))) 32))) 32))) + (shrI .u64 (IntKind.u64.wrap ((bitAnd .u64 (IntKind.u64.wrap ((IntKind.u64.wrap ((shrI .u64 x 32) * (bitAnd .u64 y 4294967295))) + (shrI .u64 (IntKind.u64.wrap ((bitAnd .u64 x 4294967295) * (bitAnd .u64 y 4294967295))) 32))) 4294967295) + (IntKind.u64.wrap ((bitAnd .u64 x 4294967295) * (shrI .u64 y 32))))) 32))) (IntKind.u64.wrap (x * y)) w)))))

theorem C_math_bits_Mul64 {Q : Int → Int → World → Prop} {x : Int} {y : Int} {w : World} (h : V_math_bits_Mul64 Q x y w) : Calls Tryz.prog F.math_bits_Mul64 #[.int .u64 x, .int .u64 y] w (Ret [.at (.int .u64), .at (.int .u64)] Q) :=
  mkC (hint := hint) (ann := annOf []) (args := [.int .u64 x, .int .u64 y]) (rs := [.at (.int .u64), .at (.int .u64)]) Tryz.func121 (by kernel_rfl) (by kernel_rfl) h

end Go.Proofs.YtfiginahjofdnaaGreat
end

section
/- What the code of the comparison of integers computes to. Printed by a program. -/
namespace Go.Proofs.YtfiginahjofdnaaGreat
open Go.GX Go.RowKit
set_option linter.unusedVariables false
set_option maxRecDepth 100000

def V_cmp_Less_int (Q : Bool → World → Prop) (x : Int) (y : Int) (w : World) : Prop :=
  Calls Tryz.prog F.cmp_isNaN_int #[.int .i64 x] w (Ret [.at .bool] fun (x6 : Bool) w1 =>
  cond x6 (
  Calls Tryz.prog F.cmp_isNaN_int #[.int .i64 y] w1 (Ret [.at .bool] fun (x9 : Bool) w2 =>
  cond (!x9) (
  Q true w2) (
  Q (decide ((x : Int) < y)) w2))) (
  Q (decide ((x : Int) < y)) w1))

theorem C_cmp_Less_int {Q : Bool → World → Prop} {x : Int} {y : Int} {w : World} (h : V_cmp_Less_int Q x y w) : Calls Tryz.prog F.cmp_Less_int #[.int .i64 x, .int .i64 y] w (Ret [.at .bool] Q) :=
  mkC (hint := hint) (ann := annOf []) (args := [.int .i64 x, .int .i64 y]) (rs := [.at .bool]) Tryz.func55 (by kernel_rfl) (by kernel_rfl) h

def V_cmp_Compare_int (Q : Int → World → Prop) (x : Int) (y : Int) (w : World) : Prop :=
  Calls Tryz.prog F.cmp_isNaN_int #[.int .i64 x] w (Ret [.at .bool] fun (x8 : Bool) w1 =>
  Calls Tryz.prog F.cmp_isNaN_int #[.int .i64 y] w1 (Ret [.at .bool] fun (x10 : Bool) w2 =>
  cond x8 (
  cond x10 (
  Q 0 w2) (
  Q (-1) w2)) (
  cond x10 (
  Q 1 w2) (
  cond (decide ((x : Int) < y)) (
  Q (-1) w2) (
  cond (decide ((x : Int) > y)) (
  Q 1 w2) (
  Q 0 w2))))))

theorem C_cmp_Compare_int {Q : Int → World → Prop} {x : Int} {y : Int} {w : World} (h : V_cmp_Compare_int Q x y w) : Calls Tryz.prog F.cmp_Compare_int #[.int .i64 x, .int .i64 y] w (Ret [.at (.int .i64)] Q) :=
  mkC (hint := hint) (ann := annOf []) (args := [.int .i64 x, .int .i64 y]) (rs := [.at (.int .i64)]) Tryz.func56 (by kernel_rfl) (by kernel_rfl) h

def V_cmp_isNaN_int (Q : Bool → World → Prop) (x : Int) (w : World) : Prop :=
  Q ((x : Int) != x) w

theorem C_cmp_isNaN_int {Q : Bool → World → Prop} {x : Int} {w : World} (h : V_cmp_isNaN_int Q x w) : Calls Tryz.prog F.cmp_isNaN_int #[.int .i64 x] w (Ret [.at .bool] Q) :=
  mkC (hint := hint) (ann := annOf []) (args := [.int .i64 x]) (rs := [.at .bool]) Tryz.func69 (by kernel_rfl) (by kernel_rfl) h

end Go.Proofs.YtfiginahjofdnaaGreat
end

section
/- What the code of the stable sort computes to. Printed by a program. -/
namespace Go.Proofs.YtfiginahjofdnaaGreat
open Go.GX Go.RowKit
set_option linter.unusedVariables false
set_option maxRecDepth 100000

end Go.Proofs.YtfiginahjofdnaaGreat
end

section
/- All functions' propositions of this seat. -/
end

section
/- Contracts of the small functions. -/
namespace Go.Proofs.YtfiginahjofdnaaGreat
open Go.GX Go.RowKit

def inR (n lo hi : Int) : Bool := decide (lo ≤ n) && decide (n ≤ hi)

theorem inR_true {n lo hi : Int} (h : inR n lo hi = true) : lo ≤ n ∧ n ≤ hi := by simpa [inR] using h
theorem inR_false {n lo hi : Int} (h : inR n lo hi = false) : ¬ (lo ≤ n ∧ n ≤ hi) := by
  intro ⟨h1, h2⟩; simp [inR, h1, h2] at h

theorem within_ok (n lo hi : Int) (w : World) : Calls Tryz.prog F.i_within #[.int .i64 n, .int .i64 lo, .int .i64 hi] w (Ret [.at .bool] fun (b : Bool) w' => b = inR n lo hi ∧ w = w') := by
  refine C_i_within ?_
  unfold V_i_within inR
  by_cases h : lo ≤ n <;> simp [h]

theorem l1In_ok (n lo hi : Int) (w : World) : Calls Tryz.prog F.s_l1In #[.int .i64 n, .int .i64 lo, .int .i64 hi] w (Ret [.at .bool] fun (b : Bool) w' => b = inR n lo hi ∧ w = w') := by
  refine C_s_l1In ?_
  unfold V_s_l1In inR
  by_cases h : lo ≤ n <;> simp [h]

theorem l1Has_ok {w : World} {s : Sl} {l : List Int} (h : R w s l) (n : Int) :
    Calls Tryz.prog F.s_l1Has #[s.v, .int .i64 n] w (Ret [.at .bool] fun (b : Bool) w' => b = l.contains n ∧ w = w') := by
  refine C_s_l1Has ?_
  unfold V_s_l1Has
  refine ⟨IN l.length fun i w' => w' = w ∧ n ∉ l.take i, MN l.length, IN_zero ⟨rfl, by simp⟩, ?_⟩
  rintro x w1 ⟨i, rfl, hi, rfl, hn⟩
  intros
  rw [h.len]
  refine cond_dec (fun hlt => ?_) (fun hge => ⟨?_, rfl⟩)
  · have hlt' : i < l.length := by omega
    refine h.ixI hlt' fun p _ hc => ?_
    refine LD_int hc ?_
    refine cond_eq (fun he => ⟨?_, rfl⟩) (fun he => ?_)
    · simp [← he]
    · exact IN_next h.le hlt' ⟨rfl, not_mem_take_succ hlt' hn he⟩
  · have hil : i = l.length := by omega
    subst hil
    simp at hn
    simp [hn]

end Go.Proofs.YtfiginahjofdnaaGreat
end

section
/- Networks: how they lie in memory, and the contracts of the functions that copy, weigh and compare them. -/
namespace Go.Proofs.YtfiginahjofdnaaGreat
open Go.GX Go.RowKit
set_option maxRecDepth 100000

structure Net where
  ends : List (List (Int × Int))
  ids : List Int
  inputs : List Int

/-- Three slices read as a network. -/
def RNet (w : World) (a b c : Sl) (n : Net) : Prop := R w a n.ends ∧ R w b n.ids ∧ R w c n.inputs

theorem RNet.ext {w w' : World} {a b c : Sl} {n : Net} (h : RNet w a b c n) (hE : Ext w w') : RNet w' a b c n := ⟨h.1.ext hE, h.2.1.ext hE, h.2.2.ext hE⟩

theorem slt_int : SlT Tryz.prog T.t_sl_int T.t_int 1 8 (.int .i64 0) := ⟨by kernel_rfl, by kernel_rfl, rfl, by decide⟩

theorem flat_ok {w : World} {s : Sl} {l : List Int} (h : R w s l) : ∀ x ∈ l, I64 x := fun x hx => by
  obtain ⟨i, hi, rfl⟩ := List.mem_iff_getElem.1 hx
  obtain ⟨_, _, _, _, ⟨_, h1⟩, _⟩ := h.2.2 i l[i] (by simp [hi])
  exact h1

theorem toIntS_ok {w : World} {a : Sl} {l : List Int} (h : R w a l) (hb : l.length ≤ 1048576) :
    Calls Tryz.prog F.l_toIntS #[a.v] w (Ret [.at .sl] fun (s : Sl) w' => Ext w w' ∧ OwnL w' w.heap.size T.t_int s l) := by
  refine C_l_toIntS ?_
  unfold V_l_toIntS
  rw [h.len]
  refine RUN_make (α := Int) slt_int (d := 0) rfl (by omega) (by unfold maxLen; omega) fun s w1 hE1 hO1 => ?_
  refine ⟨IN l.length fun i w' => Ext w w' ∧ OwnL w' w.heap.size T.t_int s (l.take i ++ List.replicate (l.length - i) 0), MN l.length, IN_zero ⟨hE1, by simpa using hO1⟩, ?_⟩
  rintro x w2 ⟨i, rfl, hi, hE, hO⟩
  intros
  refine cond_dec (fun hlt => ?_) (fun hge => ?_)
  · have hlt' : i < l.length := by omega
    refine (h.ext hE).ixI hlt' fun p h64 hc => LD_int hc ?_
    refine IX_own hO (by rw [fill_len hi]; exact hlt') rfl fun p hp => ?_
    refine ST_own hO (by rw [fill_len hi]; exact hlt') hp l[i] rfl fun w3 hO3 hs => ?_
    refine IN_next (by omega) hlt' ⟨hs.ext0 hE (fun k hk => (hO.blk k hk).1), ?_⟩
    rw [← fill_step hlt']; exact hO3
  · have : i = l.length := by omega
    subst this
    exact ⟨hE, by simpa using hO⟩

theorem eqIntS_ok {w : World} {a b : Sl} {l m : List Int} (ha : R w a l) (hb : R w b m) :
    Calls Tryz.prog F.l_eqIntS #[a.v, b.v] w (Ret [.at .bool] fun (x : Bool) w' => x = decide (l = m) ∧ Ext w w') := by
  refine C_l_eqIntS ?_
  unfold V_l_eqIntS
  rw [ha.len, hb.len]
  refine cond_ne (fun hne => ⟨?_, Ext.refl _⟩) (fun he => ?_)
  · rw [decide_eq_false]; intro h; subst h; exact hne rfl
  · have hl : l.length = m.length := by omega
    refine ⟨IN l.length fun i w' => Ext w w' ∧ l.take i = m.take i, MN l.length, IN_zero ⟨Ext.refl _, by simp⟩, ?_⟩
    rintro x w1 ⟨i, rfl, hi, hE, ht⟩
    intros
    refine cond_dec (fun hlt => ?_) (fun hge => ⟨?_, hE⟩)
    · have h1 : i < l.length := by omega
      have h2 : i < m.length := by omega
      refine (ha.ext hE).ixI h1 fun p _ hc => LD_int hc ?_
      refine (hb.ext hE).ixI h2 fun p _ hc => LD_int hc ?_
      intro w2 hE2
      refine cond_ne (fun hne => ⟨?_, hE.trans hE2⟩) (fun heq => ?_)
      · rw [decide_eq_false]; intro h; subst h; exact hne rfl
      · exact IN_next ha.le h1 ⟨hE.trans hE2, by rw [List.take_succ_eq_append_getElem h1, List.take_succ_eq_append_getElem h2, ht, heq]⟩
    · have h3 : i = l.length := by omega
      subst h3
      rw [decide_eq_true]
      have h4 : m.take l.length = m := List.take_of_length_le (by omega)
      rw [h4, List.take_length] at ht
      exact ht



/-- A network that fits the law's bound. -/
def Small (n : Net) : Prop := n.ends.length ≤ 1048576 ∧ (∀ r ∈ n.ends, r.length ≤ 1048576) ∧ n.ids.length ≤ 1048576 ∧ n.inputs.length ≤ 1048576


end Go.Proofs.YtfiginahjofdnaaGreat
end

section
/- The contract of slices.Sort at []int (the kit's shelf, laid at this program by the kit's own tools, in plain words): for every slice the cells are then in order. -/
namespace Go.Proofs.YtfiginahjofdnaaGreat
open Go.Shelf
def Srt.lays189_ren : Go.Shelf.Ren := ⟨fun | 189 => 61 | 125 => 80 | 257 => 79 | 128 => 97 | 129 => 98 | 294 => 89 | 295 => 90 | 296 => 91 | 297 => 92 | 298 => 93 | 299 => 94 | 216 => 55 | 300 => 95 | 301 => 96 | 328 => 109 | 329 => 110 | 330 => 111 | 331 => 112 | 332 => 113 | 215 => 69 | 343 => 118 | n => n, fun | 28 => 42 | 3 => 3 | 46 => 86 | 0 => 0 | 51 => 100 | 53 => 102 | 4 => 4 | 183 => 95 | 182 => 94 | 131 => 35 | 5 => 5 | 9 => 9 | 218 => 109 | 222 => 113 | 228 => 119 | 229 => 120 | n => n, fun | n => n⟩
theorem Srt.lays189 : Go.Proofs.Lays.n189 Tryz.prog Srt.lays189_ren := {
  mixed := by kernel_rfl
  f125 := Tryz.func80.trans (congrArg some (by kernel_rfl))
  f128 := Tryz.func97.trans (congrArg some (by kernel_rfl))
  f129 := Tryz.func98.trans (congrArg some (by kernel_rfl))
  f189 := Tryz.func61.trans (congrArg some (by kernel_rfl))
  f215 := Tryz.func69.trans (congrArg some (by kernel_rfl))
  f216 := Tryz.func55.trans (congrArg some (by kernel_rfl))
  f257 := Tryz.func79.trans (congrArg some (by kernel_rfl))
  f294 := Tryz.func89.trans (congrArg some (by kernel_rfl))
  f295 := Tryz.func90.trans (congrArg some (by kernel_rfl))
  f296 := Tryz.func91.trans (congrArg some (by kernel_rfl))
  f297 := Tryz.func92.trans (congrArg some (by kernel_rfl))
  f298 := Tryz.func93.trans (congrArg some (by kernel_rfl))
  f299 := Tryz.func94.trans (congrArg some (by kernel_rfl))
  f300 := Tryz.func95.trans (congrArg some (by kernel_rfl))
  f301 := Tryz.func96.trans (congrArg some (by kernel_rfl))
  f328 := Tryz.func109.trans (congrArg some (by kernel_rfl))
  f329 := Tryz.func110.trans (congrArg some (by kernel_rfl))
  f330 := Tryz.func111.trans (congrArg some (by kernel_rfl))
  f331 := Tryz.func112.trans (congrArg some (by kernel_rfl))
  f332 := Tryz.func113.trans (congrArg some (by kernel_rfl))
  f343 := Tryz.func118.trans (congrArg some (by kernel_rfl))
  t0 := Tryz.underlying0
  a0 := Tryz.isAgg0
  z0 := Tryz.sizeOf0
  v0 := Tryz.zeroValue0
  t3 := Tryz.underlying3
  a3 := Tryz.isAgg3
  z3 := Tryz.sizeOf3
  v3 := Tryz.zeroValue3
  t4 := Tryz.underlying4
  a4 := Tryz.isAgg4
  z4 := Tryz.sizeOf4
  v4 := Tryz.zeroValue4
  t5 := Tryz.underlying5
  a5 := Tryz.isAgg5
  z5 := Tryz.sizeOf5
  v5 := Tryz.zeroValue5
  t9 := Tryz.underlying9
  a9 := Tryz.isAgg9
  z9 := Tryz.sizeOf9
  v9 := Tryz.zeroValue9
  t28 := Tryz.underlying42
  a28 := Tryz.isAgg42
  z28 := Tryz.sizeOf42
  v28 := Tryz.zeroValue42
  t46 := Tryz.underlying86
  a46 := Tryz.isAgg86
  z46 := Tryz.sizeOf86
  v46 := Tryz.zeroValue86
  t51 := Tryz.underlying100
  a51 := Tryz.isAgg100
  z51 := Tryz.sizeOf100
  v51 := Tryz.zeroValue100
  t53 := Tryz.underlying102
  a53 := Tryz.isAgg102
  z53 := Tryz.sizeOf102
  v53 := Tryz.zeroValue102
  t131 := Tryz.underlying35
  a131 := Tryz.isAgg35
  z131 := Tryz.sizeOf35
  v131 := Tryz.zeroValue35
  t182 := Tryz.underlying94
  a182 := Tryz.isAgg94
  z182 := Tryz.sizeOf94
  v182 := Tryz.zeroValue94
  t183 := Tryz.underlying95
  a183 := Tryz.isAgg95
  z183 := Tryz.sizeOf95
  v183 := Tryz.zeroValue95
  t218 := Tryz.underlying109
  a218 := Tryz.isAgg109
  z218 := Tryz.sizeOf109
  v218 := Tryz.zeroValue109
  t222 := Tryz.underlying113
  a222 := Tryz.isAgg113
  z222 := Tryz.sizeOf113
  v222 := Tryz.zeroValue113
  t228 := Tryz.underlying119
  a228 := Tryz.isAgg119
  z228 := Tryz.sizeOf119
  v228 := Tryz.zeroValue119
  t229 := Tryz.underlying120
  a229 := Tryz.isAgg120
  z229 := Tryz.sizeOf120
  v229 := Tryz.zeroValue120 }
open Go.Sort Go.RowKit in
theorem Srt.slices_Sort_int (blk off cap : Nat) (zs : List Int) (w : World) (hH : Holds (Value.int .i64) w blk off zs.toArray) (hblk : blk < w.heap.size) (hsz : zs.length < 4611686018427387904) :
    Calls Tryz.prog 61 #[.slice (some ⟨blk, off, none⟩) zs.length cap] w fun e w' =>
      e = .returned (.tuple #[]) ∧ ∃ n os, w' = grow (putRow (Value.int .i64) (Sort.ahead w n) blk off (zs.mergeSort fun x y => decide (x ≤ y)).toArray) os := Any.slices_Sort_int Srt.lays189 blk off cap zs w hH hblk hsz
open Go.RowKit Go.Sort in
/-- .. and plain. (LAID: no walk: one application.) -/
theorem Srt.slices_Sort_int_none (p : Option Addr) (cap : Nat) (w : World) :
    Calls Tryz.prog 61 #[.slice p 0 cap] w fun e w' => e = .returned (.tuple #[]) ∧ w' = w := Any.slices_Sort_int_none Srt.lays189 p cap w
end Go.Proofs.YtfiginahjofdnaaGreat
end

section
/- Contracts of the functions on lists of numbers: sorting, copying, searching, ranges. -/
namespace Go.Proofs.YtfiginahjofdnaaGreat
open Go.GX Go.RowKit
set_option maxRecDepth 100000

/-! ### slices.Sort, slices.Clone -/

def sortI (l : List Int) : List Int := l.mergeSort fun x y => decide (x ≤ y)

theorem flatI (l : List Int) : l.flatMap Flat.cells = l.map (Value.int .i64) := by
  induction l with
  | nil => rfl
  | cons x r ih => rw [List.flatMap_cons, ih]; rfl

theorem Ret_nil {Q : World → Prop} {w : World} (h : Q w) : Ret [] Q (.returned (.tuple #[])) w := h

theorem sort_ok {w : World} {base : Nat} {s : Sl} {l : List Int} (h : OwnL w base T.t_int s l) (hl : l.length ≤ 1048576) :
    Calls Tryz.prog F.slices_Sort_sl_int_int #[s.v] w (Ret [] fun w' => OwnL w' base T.t_int s (sortI l) ∧ Step w w' s.v.ownBlock) := by
  rcases h.2.2 with ⟨hv, h0⟩ | ⟨g, cap, cur, hv, hb, hg, hle, hmx, hsz, htake⟩
  · have hnil : l = [] := by rw [h.1] at h0; exact List.length_eq_zero_iff.1 h0
    subst hnil
    have hlen : s.len = 0 := h0
    have hsv : s.v = .slice s.a 0 s.cap := by rw [← hlen]
    rw [hsv]
    refine (Srt.slices_Sort_int_none s.a s.cap w).mono ?_
    rintro e w' ⟨rfl, rfl⟩
    exact Ret_nil ⟨by simpa [sortI] using h, Step.refl _ _⟩
  · have htake' : cur.toList.take l.length = l.map (Value.int .i64) := by rw [← flatI, ← htake, h.1]; simp [Rep.sz]
    have hsv : s.v = .slice (some ⟨g, 0, none⟩) l.length cap := by rw [← h.1]; exact hv
    rw [hsv]
    refine (Srt.slices_Sort_int g 0 cap l w (holds_of_blockI hg htake') (Array.getElem?_eq_some_iff.1 hg).1 (by omega)).mono ?_
    rintro e w' ⟨rfl, n, os, rfl⟩
    refine Ret_nil ⟨⟨by simp [sortI, h.1], ?_⟩, Step.of_grown (grownBy_sortedI _)⟩
    unfold Go.GX.Own
    rw [h.1, hsv, flatI]
    exact ownsRow_sortedI (by simp) hb hg (by rw [← h.1]; exact hle) hmx hsz

/-! ### Ranges -/

/-- Strictly increasing, step by step. -/
def Incr (l : List Int) : Prop := ∀ i, (h : i + 1 < l.length) → l[i] < l[i + 1]

def AllIn (l : List Int) (lo hi : Int) : Prop := ∀ x ∈ l, lo ≤ x ∧ x ≤ hi

theorem allIn_take_succ {l : List Int} {lo hi : Int} {i : Nat} (hi' : i < l.length) (h : AllIn (l.take i) lo hi) (hx : lo ≤ l[i] ∧ l[i] ≤ hi) : AllIn (l.take (i + 1)) lo hi := fun x hm => by
  rw [List.take_succ_eq_append_getElem hi'] at hm
  rcases List.mem_append.1 hm with h1 | h1
  · exact h x h1
  · rw [List.mem_singleton.1 h1]; exact hx

theorem l1All_ok {w : World} {s : Sl} {l : List Int} (h : R w s l) (lo hi : Int) :
    Calls Tryz.prog F.s_l1All #[s.v, .int .i64 lo, .int .i64 hi] w (Ret [.at .bool] fun (b : Bool) w' => (b = true ↔ AllIn l lo hi) ∧ w = w') := by
  refine C_s_l1All ?_
  unfold V_s_l1All
  rw [h.len]
  refine ⟨IN l.length fun i w' => w = w' ∧ AllIn (l.take i) lo hi, MN l.length, IN_zero ⟨rfl, fun x hx => by simp at hx⟩, ?_⟩
  rintro x _ ⟨i, rfl, hi', rfl, ha⟩
  intros
  refine cond_dec (fun hlt => ?_) (fun hge => ⟨?_, rfl⟩)
  · have hlt' : i < l.length := by omega
    refine h.ixI hlt' fun p _ hc => LD_int hc ?_
    refine call (l1In_ok _ _ _ _) ?_
    rintro b _ ⟨hb, rfl⟩
    refine cond_not (fun hf => ⟨?_, rfl⟩) (fun ht => IN_next h.le hlt' ⟨rfl, allIn_take_succ hlt' ha (inR_true (hb ▸ ht))⟩)
    simp only [Bool.false_eq_true, false_iff]
    intro hall
    exact inR_false (hb ▸ hf) (hall _ (List.getElem_mem hlt'))
  · have : i = l.length := by omega
    subst this
    simpa using ha

/-- What both sides' test of increasing lists comes to. -/
def Rising (l : List Int) (lo hi : Int) : Prop := AllIn l lo hi ∧ Incr l

/-! ### Searching with a function -/

/-- A function value that answers p for each element of a list, whatever the world that goes on from this one. -/
def Answers (w : World) (f : Value) (l : List Int) (p : Int → Bool) : Prop :=
  ∀ x ∈ l, ∀ w', Ext w w' → CALLV Tryz.prog f #[.int .i64 x] w' (Ret [.at .bool] fun (b : Bool) w'' => b = p x ∧ Ext w' w'')

theorem callv {P : Program} {f : Value} {args : Array Value} {w : World} {rs : List Sh} {Q Q' : Cur (World → Prop) (atsR rs)} (h : CALLV P f args w (Ret rs Q)) (hk : CurLe (atsR rs) Q Q') : CALLV P f args w (Ret rs Q') := by
  obtain ⟨g, caps, h1, h2, h3⟩ := h
  exact ⟨g, caps, h1, h2, call h3 hk⟩

theorem indexFuncI_ok {w : World} {s : Sl} {l : List Int} (h : R w s l) {f : Value} {p : Int → Bool} (hf : Answers w f l p) :
    Calls Tryz.prog F.slices_IndexFunc_sl_int_int #[s.v, f] w (Ret [.at (.int .i64)] fun (i : Int) w' => (match l.findIdx? p with | some k => i = k | none => i = -1) ∧ Ext w w') := by
  refine C_slices_IndexFunc_sl_int_int ?_
  unfold V_slices_IndexFunc_sl_int_int
  rw [h.len]
  refine ⟨IN l.length fun i w' => Ext w w' ∧ ∀ x ∈ l.take i, p x = false, MN l.length, IN_zero ⟨Ext.refl _, by simp⟩, ?_⟩
  rintro x w1 ⟨i, rfl, hi', hE, ha⟩
  intros
  refine cond_dec (fun hlt => ?_) (fun hge => ⟨?_, hE⟩)
  · have hlt' : i < l.length := by omega
    refine (h.ext hE).ixI hlt' fun q _ hc => LD_int hc ?_
    refine callv (hf _ (List.getElem_mem hlt') w1 hE) ?_
    rintro b w2 ⟨rfl, hE2⟩
    refine cond_b (fun ht => ⟨?_, hE.trans hE2⟩) (fun hf => ?_)
    · have : l.findIdx? p = some i := by
        rw [List.findIdx?_eq_some_iff_getElem]
        refine ⟨hlt', ht, fun j hj => ?_⟩
        have := ha l[j] (by rw [List.mem_take_iff_getElem]; exact ⟨j, by omega, rfl⟩)
        simp [this]
      rw [this]
    · refine IN_next h.le hlt' ⟨hE.trans hE2, fun y hy => ?_⟩
      rw [List.take_succ_eq_append_getElem hlt'] at hy
      rcases List.mem_append.1 hy with h1 | h1
      · exact ha y h1
      · rw [List.mem_singleton.1 h1]; exact hf
  · have : i = l.length := by omega
    subst this
    have : l.findIdx? p = none := by
      rw [List.findIdx?_eq_none_iff]
      intro y hy
      exact ha y (by simpa using hy)
    rw [this]

theorem containsFuncI_ok {w : World} {s : Sl} {l : List Int} (h : R w s l) {f : Value} {p : Int → Bool} (hf : Answers w f l p) :
    Calls Tryz.prog F.slices_ContainsFunc_sl_int_int #[s.v, f] w (Ret [.at .bool] fun (b : Bool) w' => b = l.any p ∧ Ext w w') := by
  refine C_slices_ContainsFunc_sl_int_int ?_
  unfold V_slices_ContainsFunc_sl_int_int
  refine call (indexFuncI_ok h hf) ?_
  rintro i w1 ⟨hi, hE⟩
  refine ⟨?_, hE⟩
  cases hf : l.findIdx? p with
  | none =>
    rw [hf] at hi
    simp only at hi
    subst hi
    have h1 := List.findIdx?_eq_none_iff.1 hf
    have : l.any p = false := by
      rw [List.any_eq_false]; intro x hx; simp [h1 x hx]
    rw [this]; rfl
  | some k =>
    rw [hf] at hi
    simp only at hi
    subst hi
    obtain ⟨hk, hp, _⟩ := List.findIdx?_eq_some_iff_getElem.1 hf
    have : l.any p = true := List.any_eq_true.2 ⟨l[k], List.getElem_mem hk, hp⟩
    rw [this]
    simp

theorem allWithin_ok {w : World} {s : Sl} {l : List Int} (h : R w s l) (lo hi : Int) :
    Calls Tryz.prog F.i_allWithin #[s.v, .int .i64 lo, .int .i64 hi] w (Ret [.at .bool] fun (b : Bool) w' => (b = true ↔ AllIn l lo hi) ∧ Ext w w') := by
  refine C_i_allWithin ?_
  unfold V_i_allWithin
  refine NEW_intro fun p1 w1 hp1 hs1 hE1 hb1 => ?_
  refine NEW_intro fun p2 w2 hp2 hs2 hE2 hb2 => ?_
  have hb1' := hb1.ext hE2
  have hE := hE1.trans hE2
  refine call (containsFuncI_ok (p := fun x => !inR x lo hi) (h.ext hE) ?_) ?_
  · intro x hx w' hw'
    refine CALLV_mk (by kernel_rfl) (C_i_allWithin_1 ?_)
    unfold V_i_allWithin_1
    refine LD_bi (hb1'.ext hw') (LD_bi (hb2.ext hw') ?_)
    refine call (within_ok _ _ _ _) ?_
    rintro b _ ⟨rfl, rfl⟩
    exact ⟨rfl, Ext.refl _⟩
  · rintro b w3 ⟨rfl, hE3⟩
    refine ⟨?_, hE.trans hE3⟩
    simp [AllIn, inR]

/-! ### Identifiers, inputs -/

def IdsOk (ids : List Int) (k : Nat) : Prop := AllIn ids 1 999999 ∧ ids.Nodup ∧ (ids.length = 0 ∨ ids.length = k)

theorem incr_iff_pairwise {l : List Int} : Incr l ↔ l.Pairwise (· < ·) := by
  constructor
  · intro h
    rw [List.pairwise_iff_getElem]
    intro i j hi hj hij
    induction j with
    | zero => omega
    | succ j ih =>
      rcases Nat.lt_or_eq_of_le (Nat.le_of_lt_succ hij) with h1 | h1
      · exact Int.lt_trans (ih (by omega) h1) (h j hj)
      · subst h1; exact h i hj
  · intro h i hi
    exact (List.pairwise_iff_getElem.1 h) i (i + 1) (by omega) hi (by omega)

theorem sortI_perm (l : List Int) : (sortI l).Perm l := List.mergeSort_perm _ _

theorem sortI_sorted (l : List Int) : (sortI l).Pairwise (· ≤ ·) := by
  have := List.pairwise_mergeSort (le := fun x y : Int => decide (x ≤ y)) (fun a b c h1 h2 => by simp at *; omega) (fun a b => by simp; omega) l
  exact this.imp (by intro a b h; simpa using h)

theorem incr_sortI {l : List Int} : Incr (sortI l) ↔ l.Nodup := by
  rw [incr_iff_pairwise, ← (sortI_perm l).nodup_iff]
  constructor
  · intro h; exact h.imp (fun h => by omega)
  · intro h
    exact (List.pairwise_and_iff.2 ⟨sortI_sorted l, h⟩).imp (fun ⟨h1, h2⟩ => by omega)

end Go.Proofs.YtfiginahjofdnaaGreat
end

section
/- Copying between slices, digits of numbers. No program is named here. -/
namespace Go.GX
open Go.RowKit

/-! ### Digits -/

theorem wrap_u64 {n : Int} (h0 : 0 ≤ n) (h1 : n < 18446744073709551616) : IntKind.u64.wrap n = n := by
  have e1 : (2 : Int) ^ 64 = 18446744073709551616 := rfl
  have hs : IntKind.u64.signed = false := rfl
  simp only [IntKind.wrap, IntKind.bits, hs, Bool.false_and, e1]
  rw [Int.emod_eq_of_lt h0 h1]; simp

theorem ofInt_toNat (n : Nat) (h : n < 18446744073709551616) : (BitVec.ofInt 64 (n : Int)).toNat = n := by
  rw [BitVec.toNat_ofInt]
  have : ((2 ^ 64 : Nat) : Int) = 18446744073709551616 := rfl
  rw [this]
  omega

theorem bitAnd_u64 (a b : Nat) (ha : a < 18446744073709551616) (hb : b < 18446744073709551616) : bitAnd .u64 a b = ((a &&& b : Nat) : Int) := by
  unfold bitAnd
  have h1 : (BitVec.ofInt IntKind.u64.bits (a : Int) &&& BitVec.ofInt IntKind.u64.bits (b : Int)).toNat = a &&& b := by
    show (BitVec.ofInt 64 (a : Int) &&& BitVec.ofInt 64 (b : Int)).toNat = a &&& b
    rw [BitVec.toNat_and, ofInt_toNat a ha, ofInt_toNat b hb]
  rw [h1]
  have := Nat.and_le_left (n := a) (m := b)
  exact wrap_u64 (by omega) (by omega)

theorem bitAnd_u64_low (a : Nat) (ha : a < 4294967296) : bitAnd .u64 a 4294967295 = a := by
  have := bitAnd_u64 a 4294967295 (by omega) (by omega)
  rw [show ((4294967295 : Nat) : Int) = 4294967295 from rfl] at this
  rw [this]
  congr 1
  have := Nat.and_two_pow_sub_one_eq_mod a 32
  rw [show (2 : Nat) ^ 32 - 1 = 4294967295 from rfl, show (2 : Nat) ^ 32 = 4294967296 from rfl] at this
  rw [this]
  exact Nat.mod_eq_of_lt ha

theorem shr_nat (k : IntKind) (a j : Nat) (hj : j ≤ k.bits) : shrI k a j = ((a / 2 ^ j : Nat) : Int) := by
  unfold shrI
  rw [Int.toNat_natCast, Nat.min_eq_left hj, Int.fdiv_eq_ediv_of_nonneg _ (Int.le_of_lt (Int.pow_pos (by decide)))]
  simp

/-! ### Cutting -/

/-- s[lo:] of a slice of the call's own. -/
theorem SLC_from {s : Sl} {lo : Nat} {sz : Nat} (hle : s.len ≤ s.cap) (hlo : lo ≤ s.len) {K : Sl → Prop}
    (hk : ∀ d : Sl, d.len = s.len - lo → (lo < s.len → d.a = s.a.map (·.add (lo * sz))) → K d) : SLC s (some (lo : Int)) none sz K := by
  refine ⟨by simp, by simp; omega, by simp; omega, hk _ ?_ ?_⟩
  · simp
  · intro hlt
    simp
    intro h; omega

theorem SLC_from' {s : Sl} {lo : Nat} {sz : Nat} (hle : s.len ≤ s.cap) (hlo : lo ≤ s.len) {K : Sl → Prop}
    (hk : ∀ d : Sl, d.len = s.len - lo → d.cap = s.cap - lo → (lo < s.len → d.a = s.a.map (·.add (lo * sz))) → K d) : SLC s (some (lo : Int)) none sz K := by
  refine ⟨by simp, by simp; omega, by simp; omega, hk _ ?_ ?_ ?_⟩
  · simp
  · simp
  · intro hlt
    simp
    intro h; omega

/-- s[:hi]. -/
theorem SLC_to {s : Sl} {hi : Nat} {sz : Nat} (hhi : hi ≤ s.cap) {K : Sl → Prop}
    (hk : ∀ d : Sl, d.len = hi → d.a = s.a → d.cap = s.cap → K d) : SLC s none (some (hi : Int)) sz K := by
  refine ⟨by simp, by simp, by simp; omega, hk _ (by simp) ?_ (by simp)⟩
  simp
  intro _
  cases s.a <;> simp [add_zero']

/-! ### copy -/

theorem flat1 {α : Type} [Flat α] (h1 : Rep.sz α = 1) (l : List α) : ∃ f : α → Value, l.flatMap Flat.cells = l.map f ∧ ∀ x ∈ l, Flat.cells x = [f x] := by
  refine ⟨fun x => (Flat.cells x).headD undef, ?_, ?_⟩
  · induction l with
    | nil => rfl
    | cons x r ih =>
      rw [List.flatMap_cons, List.map_cons, ih]
      have hx : (Flat.cells x).length = 1 := by rw [Flat.size]; exact h1
      match hc : Flat.cells x, hx with
      | [v], _ => rfl
  · intro x _
    have hx : (Flat.cells x).length = 1 := by rw [Flat.size]; exact h1
    match hc : Flat.cells x, hx with
    | [v], _ => simp [hc]

/-- copy(d, y): d a part, from place off on, of a slice of the call's own. -/
theorem RUN_copy {α : Type} [Flat α] (hα : Rep.sz α = 1) {P : Program} {t ti e : TypeId} {bytes : Nat} {z : Value} (hT : SlT P t e 1 bytes z) {w : World} {base : Nat} {s d y : Sl} {l m : List α} (h : OwnL w base e s l)
    {off : Nat} (hd : 0 < d.len → d.a = s.a.map (·.add off)) (hfit : off + d.len ≤ l.length) {D : Nat → Prop} (hy : SlR D w y m) {K : Int → World → Prop}
    (hk : ∀ w', OwnL w' base e s (l.take off ++ m.take d.len ++ l.drop (off + min m.length d.len)) → Step w w' s.v.ownBlock → w'.heap.size = w.heap.size → K ((min m.length d.len : Nat) : Int) w') :
    RUN P (.at (.int .i64)) (bsem .copy #[t, t] ti #[d.v, y.v]) w K := by
  obtain ⟨i, hi, hz0, hsz, hby⟩ := hT.parts
  have hs1 : (P.info? e).map (·.size) = some 1 := by rw [hi]; simp [hsz]
  have fin : ∀ n w', (Builtin.copy_ #[t, t] ti #[d.v, y.v]).run P w = .ok (goInt n) w' → K (n : Int) w' → RUN P (.at (.int .i64)) (bsem .copy #[t, t] ti #[d.v, y.v]) w K := by
    intro n w' hr hK
    unfold RUN
    show (match (Builtin.copy_ #[t, t] ti #[d.v, y.v]).run P w with | .ok v w' => _ | .halt _ _ => False)
    rw [hr]
    exact hK
  have hyl := hy.len
  by_cases hmin : min m.length d.len = 0
  · refine fin 0 w ?_ ?_
    · exact run_copy_none (P := P) w t t ti e d.a y.a d.len d.cap y.len y.cap hT.under hs1 (by rw [hyl]; exact hmin)
    · have := hk w ?_ (Step.refl _ _) rfl
      · rwa [hmin] at this
      · rw [hmin]
        have : m.take d.len = [] := by
          apply List.eq_nil_of_length_eq_zero; rw [List.length_take]; omega
        rw [this]
        simpa using h
  · have hm0 : 0 < m.length := by omega
    have hd0 : 0 < d.len := by omega
    rcases h.2.2 with ⟨hv, h0⟩ | ⟨g, cap, cur, hv, hb, hg, hle, hmx, hcs, htake⟩
    · have := h.1; omega
    · have hv' := hv
      simp [Sl.v] at hv
      obtain ⟨hsa, rfl⟩ := hv
      have hda : d.a = some ⟨g, off, none⟩ := by
        rw [hd hd0, hsa]
        simp only [Option.map_some, Addr.add]
        split <;> simp_all
      obtain ⟨ya, _, hya, _⟩ := hy.2.2 0 m[0] (by simp [hm0])
      obtain ⟨f, hf, hf1⟩ := flat1 hα m
      obtain ⟨fl, hfl, hl1⟩ := flat1 hα l
      have hsrc := hy.flat hya
      rw [hf] at hsrc
      have hll := h.1
      rw [hα] at hcs htake
      rw [hfl] at htake
      have hcsz : cur.size = s.cap := by omega
      have hone : ∀ v ∈ m.map f, v.oneCell' = true := by
        intro v hv
        obtain ⟨x, hx, rfl⟩ := List.mem_map.1 hv
        exact Flat.one x _ (by rw [hf1 x hx]; simp)
      have hr := run_copy_row (P := P) w t t ti e g off d.len d.cap ya y.len y.cap cur e ((m.map f).take d.len) hT.under hs1 hg (by rw [List.length_take, List.length_map, hyl]; exact Nat.min_comm _ _) (fun j v hj => hsrc j v (by
          rw [List.getElem?_take] at hj
          split at hj
          · exact hj
          · cases hj)) (by rw [List.length_take, List.length_map]; omega) (fun v hv => hone v (List.mem_of_mem_take hv))
      have hdv : d.v = .slice (some ⟨g, off, none⟩) d.len d.cap := by simp [Sl.v, hda]
      have hyv : y.v = .slice (some ya) y.len y.cap := by simp [Sl.v, hya]
      rw [← hdv, ← hyv] at hr
      have hlen : ((m.map f).take d.len).length = min m.length d.len := by rw [List.length_take, List.length_map]; exact Nat.min_comm _ _
      refine fin _ _ hr ?_
      rw [hlen]
      refine hk _ ?_ ⟨rfl, rfl, rfl, by simp, fun k _ hne => setRow_other _ _ _ _ (by intro he; subst he; exact hne (by rw [hv']; rfl))⟩ (by simp)
      refine ⟨?_, ?_, ?_⟩
      · simp only [List.length_append, List.length_take, List.length_drop]; omega
      · have hall : ∀ q : List α, (q.flatMap Flat.cells).length = q.length := by
          intro q
          obtain ⟨fq, hfq, _⟩ := flat1 hα q
          rw [hfq]; simp
        rw [hall, hα]
        simp only [List.length_append, List.length_take, List.length_drop]; omega
      · refine .inr ⟨g, s.cap, _, hv', hb, setRow_heap _ _ _ _ _ _ hg, hle, hmx, ?_, ?_⟩
        · rw [hα]
          simp only [List.size_toArray, List.length_append, List.length_take, List.length_drop, List.length_map, Array.length_toList]
          omega
        · rw [hα, Nat.mul_one]
          have e1 : (l.take off ++ m.take d.len ++ l.drop (off + min m.length d.len)).flatMap Flat.cells = (l.map fl).take off ++ (m.map f).take d.len ++ (l.map fl).drop (off + min m.length d.len) := by
            rw [List.flatMap_append, List.flatMap_append]
            have hsub : ∀ (q : List α) (g : α → Value), (∀ x ∈ q, Flat.cells x = [g x]) → q.flatMap Flat.cells = q.map g := by
              intro q g hq
              induction q with
              | nil => rfl
              | cons x r ih => rw [List.flatMap_cons, hq x (by simp), ih (fun y hy => hq y (by simp [hy]))]; rfl
            rw [hsub (l.take off) fl (fun x hx => hl1 x (List.mem_of_mem_take hx)), hsub (m.take d.len) f (fun x hx => hf1 x (List.mem_of_mem_take hx)), hsub (l.drop _) fl (fun x hx => hl1 x (List.mem_of_mem_drop hx)), List.map_take, List.map_take, List.map_drop]
          rw [e1]
          have hcl : (l.map fl) = cur.toList.take s.len := by rw [← htake, Nat.mul_one]
          rw [hcl]
          have hcl2 : cur.toList.length = s.cap := by simp [hcsz]
          apply List.ext_getElem?
          intro j
          simp only [List.getElem?_take, List.getElem?_append, List.getElem?_drop, List.length_append, List.length_take, List.length_map, hcl2]
          by_cases hj : j < s.len
          · by_cases h1 : j < off
            · have a1 : j < min off s.cap := by omega
              have a2 : j < min off s.cap + min d.len m.length := by omega
              have a3 : j < min off (min s.len s.cap) := by omega
              have a4 : j < min off (min s.len s.cap) + min d.len m.length := by omega
              simp only [hj, h1, a1, a2, a3, a4, if_true]
            · by_cases h2 : j < off + min m.length d.len
              · have a1 : ¬ j < min off s.cap := by omega
                have a2 : j < min off s.cap + min d.len m.length := by omega
                have a3 : ¬ j < min off (min s.len s.cap) := by omega
                have a4 : j < min off (min s.len s.cap) + min d.len m.length := by omega
                simp only [hj, a1, a2, a3, a4, if_true, if_false]
                rw [show j - min off s.cap = j - min off (min s.len s.cap) by omega]
              · have a2 : ¬ j < min off s.cap + min d.len m.length := by omega
                have a4 : ¬ j < min off (min s.len s.cap) + min d.len m.length := by omega
                simp only [hj, a2, a4, if_true, if_false]
                rw [show off + min m.length d.len + (j - (min off s.cap + min d.len m.length)) = j by omega, show off + min m.length d.len + (j - (min off (min s.len s.cap) + min d.len m.length)) = j by omega, if_pos hj]
          · have a4 : ¬ j < min off (min s.len s.cap) + min d.len m.length := by omega
            simp only [hj, a4, if_false]
            rw [if_neg (by omega)]

/-! ### clear, and the first part of a slice of the call's own -/

theorem RUN_clear {P : Program} {t ti e : TypeId} {bytes : Nat} {z : Value} (hT : SlT P t e 1 bytes z) (hz : z.cells = #[z]) {w : World} {d : Sl} {a : Addr} (hd : d.a = some a) (hn : 0 < d.len) {K : Value → World → Prop}
    (h : ST a 0 (List.replicate d.len z) w (K (.tuple #[]))) : RUN P (.at .val) (bsem .clear #[t] ti #[d.v]) w K := by
  obtain ⟨i, hi, hz0, hsz, hby⟩ := hT.parts
  obtain ⟨w', hr, hk⟩ := ST_run (P := P) h
  have hzv : (zeroValue e).run P w = .ok z w := by simp [zeroValue, typeInfo, program, Sem.run, hi, hz0]
  have hzc : (Builtin.zeroCells z.cells d.len).toList = List.replicate d.len z := by
    rw [hz]
    simp [Builtin.zeroCells]
    apply List.ext_getElem
    · simp
    · intro i h1 h2
      simp [Nat.mod_one]
  have hrun : (Builtin.clear_ #[t] ti #[d.v]).run P w = .ok (.tuple #[]) w' := by
    obtain ⟨m, hm⟩ : ∃ m, d.len = m + 1 := ⟨d.len - 1, by omega⟩
    rw [hm] at hzc hr
    have hdv : d.v = .slice (some a) (m + 1) d.cap := by simp [Sl.v, hd, hm]
    rw [hdv]
    simp [Builtin.clear_, underlying_run hT.under, hzv, hzc, hr]
  unfold RUN
  show (match (Builtin.clear_ #[t] ti #[d.v]).run P w with | .ok v w' => _ | .halt _ _ => False)
  rw [hrun]
  exact hk

theorem OwnL.front {α : Type} [Flat α] {w : World} {base : Nat} {e : TypeId} {s : Sl} {l : List α} (h : OwnL w base e s l) {k : Nat} (hk : k ≤ l.length) : OwnL w base e ⟨s.a, k, s.cap⟩ (l.take k) := by
  have hlen : ∀ q : List α, (q.flatMap Flat.cells).length = q.length * Rep.sz α := by
    intro q
    induction q with
    | nil => simp
    | cons x r ih => rw [List.flatMap_cons, List.length_append, ih, Flat.size x, List.length_cons, Nat.succ_mul, Nat.add_comm]
  refine ⟨by simp; omega, ?_, ?_⟩
  · rw [hlen, List.length_take, Nat.min_eq_left hk]
  · rcases h.2.2 with ⟨hv, h0⟩ | ⟨g, cap, cur, hv, hb, hg, hle, hmx, hsz, htake⟩
    · simp [Sl.v] at hv
      have := h.1
      refine .inl ⟨?_, by simp only; omega⟩
      simp [Sl.v, hv.1]
      omega
    · have hv' := hv
      simp [Sl.v] at hv
      have hl := h.1
      refine .inr ⟨g, cap, cur, ?_, hb, hg, by simp only; omega, hmx, hsz, ?_⟩
      · simp [Sl.v, hv.1, hv.2]
      · have hk2 : ((l.take k).flatMap Flat.cells).length = k * Rep.sz α := by rw [hlen, List.length_take, Nat.min_eq_left hk]
        have e2 : (l.take k).flatMap Flat.cells = (l.flatMap Flat.cells).take (k * Rep.sz α) := by
          have e3 : l.flatMap Flat.cells = (l.take k).flatMap Flat.cells ++ (l.drop k).flatMap Flat.cells := by rw [← List.flatMap_append, List.take_append_drop]
          rw [e3, ← hk2, List.take_left]
        rw [e2, ← htake, List.take_take]
        have : k * Rep.sz α ≤ s.len * Rep.sz α := Nat.mul_le_mul_right _ (by omega)
        rw [Nat.min_eq_left this]

end Go.GX
end

section
/- Sets of labels by predicates; labels of a set, up to twelve. -/
namespace Go.Proofs.YtfiginahjofdnaaGreat
open Go.GX Go.RowKit
set_option maxRecDepth 100000

noncomputable def maskP (n : Nat) (P : Nat → Prop) : Nat := by
  classical exact maskOf n fun a => decide (P a)
theorem testBit_maskP {n : Nat} {P : Nat → Prop} {a : Nat} : (maskP n P).testBit a = true ↔ a < n ∧ P a := by
  classical
  unfold maskP
  rw [testBit_maskOf]
  simp
theorem maskP_lt (n : Nat) (P : Nat → Prop) : maskP n P < 2 ^ n := maskOf_lt _ _
theorem maskP_small {n : Nat} (hn : n ≤ 12) (P : Nat → Prop) : maskP n P < 4096 := Nat.lt_of_lt_of_le (maskP_lt n P) (Nat.pow_le_pow_right (n := 2) (by decide) hn)
theorem maskP_eq {n : Nat} {P : Nat → Prop} {m : Nat} (hm : m < 2 ^ n) (h : ∀ a < n, m.testBit a = true ↔ P a) : m = maskP n P := by
  apply mask_ext hm (maskP_lt n P)
  intro a ha
  rw [Bool.eq_iff_iff, h a ha, testBit_maskP]
  exact ⟨fun hp => ⟨ha, hp⟩, fun hp => hp.2⟩
theorem maskP_congr {n : Nat} {P Q : Nat → Prop} (h : ∀ a < n, P a ↔ Q a) : maskP n P = maskP n Q :=
  maskP_eq (maskP_lt n P) fun a ha => by rw [testBit_maskP]; exact ⟨fun hp => (h a ha).1 hp.2, fun hq => ⟨ha, (h a ha).2 hq⟩⟩
theorem maskP_none {n : Nat} {P : Nat → Prop} (h : ∀ a < n, ¬ P a) : maskP n P = 0 := (maskP_eq (m := 0) (Nat.two_pow_pos n) fun a ha => by simp [h a ha]).symm
theorem maskP_zero {n : Nat} {P : Nat → Prop} (h : maskP n P = 0) : ∀ a < n, ¬ P a := fun a ha hp => by
  have := testBit_maskP.2 ⟨ha, hp⟩
  rw [h] at this
  simp at this
theorem maskP_or {n : Nat} (P Q : Nat → Prop) : maskP n P ||| maskP n Q = maskP n fun a => P a ∨ Q a := by
  refine maskP_eq (Nat.or_lt_two_pow (maskP_lt n P) (maskP_lt n Q)) fun a ha => ?_
  rw [Nat.testBit_or, Bool.or_eq_true, testBit_maskP, testBit_maskP]
  exact ⟨fun h => h.imp (·.2) (·.2), fun h => h.imp (fun h => ⟨ha, h⟩) (fun h => ⟨ha, h⟩)⟩
theorem maskP_and {n : Nat} (P Q : Nat → Prop) : maskP n P &&& maskP n Q = maskP n fun a => P a ∧ Q a := by
  refine maskP_eq (Nat.lt_of_le_of_lt Nat.and_le_left (maskP_lt n P)) fun a ha => ?_
  rw [Nat.testBit_and, Bool.and_eq_true, testBit_maskP, testBit_maskP]
  exact ⟨fun h => ⟨h.1.2, h.2.2⟩, fun h => ⟨⟨ha, h.1⟩, ha, h.2⟩⟩
theorem maskP_bit {n b : Nat} (hb : b < n) : 2 ^ b = maskP n fun a => a = b := by
  refine maskP_eq (Nat.pow_lt_pow_right (by decide) hb) fun a ha => ?_
  rw [Nat.testBit_two_pow]
  simp only [decide_eq_true_eq]
  exact ⟨fun h => h.symm, fun h => h.symm⟩

/-- The bit operations at sets. -/
theorem or_maskP {n : Nat} (hn : n ≤ 12) (P Q : Nat → Prop) : bitOr .i64 ((maskP n P : Nat) : Int) ((maskP n Q : Nat) : Int) = ((maskP n (fun a => P a ∨ Q a) : Nat) : Int) := by
  have h1 := maskP_small hn P
  have h2 := maskP_small hn Q
  rw [or_nat (by omega) (by omega), maskP_or]
theorem and_maskP {n : Nat} (hn : n ≤ 12) (P Q : Nat → Prop) : bitAnd .i64 ((maskP n P : Nat) : Int) ((maskP n Q : Nat) : Int) = ((maskP n (fun a => P a ∧ Q a) : Nat) : Int) := by
  have h1 := maskP_small hn P
  have h2 := maskP_small hn Q
  rw [and_nat (by omega) (by omega), maskP_and]
theorem shl_maskP {n b : Nat} (hn : n ≤ 12) (hb : b < n) : shlI .i64 1 (b : Int) = ((maskP n (fun a => a = b) : Nat) : Int) := by
  rw [shl_one (by omega), maskP_bit hb]
theorem shrM {m a : Nat} (ha : a ≤ 60) : shrI .i64 (m : Int) (a : Int) = ((m / 2 ^ a : Nat) : Int) := shr_nat .i64 m a (by show a ≤ 64; omega)
theorem bitM {m a : Nat} (hm : m < 4611686018427387904) : bitAnd .i64 ((m / 2 ^ a : Nat) : Int) 1 = if m.testBit a then 1 else 0 := by
  have h1 : m / 2 ^ a ≤ m := Nat.div_le_self _ _
  have h2 := and_nat (a := m / 2 ^ a) (b := 1) (by omega) (by omega)
  have e : ((1 : Nat) : Int) = 1 := rfl
  rw [e] at h2
  rw [h2, Nat.and_one_is_mod, Nat.testBit_eq_decide_div_mod_eq]
  have h3 : m / 2 ^ a % 2 < 2 := Nat.mod_lt _ (by decide)
  by_cases h : m / 2 ^ a % 2 = 1
  · simp [h]
  · have : m / 2 ^ a % 2 = 0 := by omega
    simp [this]
/-- set>>a&1 -/
theorem bit_maskP {n a : Nat} (hn : n ≤ 12) (ha : a < n) (P : Nat → Prop) [Decidable (P a)] : bitAnd .i64 (shrI .i64 ((maskP n P : Nat) : Int) (a : Int)) 1 = if P a then 1 else 0 := by
  have h1 := maskP_small hn P
  rw [shrM (by omega), bitM (by omega)]
  by_cases hp : P a
  · rw [if_pos hp, if_pos (testBit_maskP.2 ⟨ha, hp⟩)]
  · rw [if_neg hp, if_neg fun h => hp (testBit_maskP.1 h).2]

/-! ### The labels of a set -/

def labsN (m a : Nat) : List Int := ((List.range a).filter fun a => m.testBit a).map fun (a : Nat) => (a : Int)
def labs (m : Nat) : List Int := labsN m 12
theorem labsN_succ (m a : Nat) : labsN m (a + 1) = labsN m a ++ (if m.testBit a then [(a : Int)] else []) := by
  unfold labsN
  rw [List.range_succ, List.filter_append, List.map_append]
  by_cases h : m.testBit a = true
  · simp [h]
  · simp [h]
theorem labsN_end {m a : Nat} (h : m < 2 ^ a) : ∀ b, a ≤ b → labsN m b = labsN m a := by
  intro b hb
  induction b with
  | zero => have : a = 0 := by omega
            subst this; rfl
  | succ b ih =>
    by_cases he : a = b + 1
    · rw [he]
    · have hab : a ≤ b := by omega
      have h2 : m < 2 ^ b := Nat.lt_of_lt_of_le h (Nat.pow_le_pow_right (by decide) hab)
      rw [labsN_succ, Nat.testBit_lt_two_pow h2, ih hab]
      simp
theorem mem_labs {m : Nat} {x : Int} : x ∈ labs m ↔ ∃ a : Nat, x = a ∧ a < 12 ∧ m.testBit a = true := by
  unfold labs labsN
  rw [List.mem_map]
  constructor
  · rintro ⟨a, ha, rfl⟩
    rw [List.mem_filter, List.mem_range] at ha
    exact ⟨a, rfl, ha.1, ha.2⟩
  · rintro ⟨a, rfl, h1, h2⟩
    exact ⟨a, List.mem_filter.2 ⟨List.mem_range.2 h1, h2⟩, rfl⟩
theorem labs_sorted (m : Nat) : (labs m).Pairwise (· < ·) := by
  unfold labs labsN
  rw [List.pairwise_map]
  exact (List.pairwise_lt_range.filter _).imp fun h => by omega
theorem mem_labsP {n : Nat} (hn : n ≤ 12) {P : Nat → Prop} {x : Int} : x ∈ labs (maskP n P) ↔ ∃ a : Nat, x = a ∧ a < n ∧ P a := by
  rw [mem_labs]
  constructor
  · rintro ⟨a, h1, _, h3⟩
    obtain ⟨h4, h5⟩ := testBit_maskP.1 h3
    exact ⟨a, h1, h4, h5⟩
  · rintro ⟨a, h1, h2, h3⟩
    exact ⟨a, h1, by omega, testBit_maskP.2 ⟨h2, h3⟩⟩
theorem labs_I64 (m : Nat) : ∀ x ∈ labs m, I64 x := fun x hx => by
  obtain ⟨a, rfl, h, _⟩ := mem_labs.1 hx
  unfold I64; omega
theorem labsN_len (m a : Nat) : (labsN m a).length ≤ a := by
  unfold labsN
  rw [List.length_map]
  have := List.length_filter_le (fun a => m.testBit a) (List.range a)
  rwa [List.length_range] at this
theorem labs_len (m : Nat) : (labs m).length ≤ 12 := labsN_len m 12
theorem divM_zero {m a : Nat} : m / 2 ^ a = 0 ↔ m < 2 ^ a := by
  rw [Nat.div_eq_zero_iff]
  have := Nat.two_pow_pos a
  omega

theorem labels12_ok {m : Nat} (hm : m < 4096) (w : World) :
    Calls Tryz.prog F.i_labelsIn #[.int .i64 m] w (Ret [.at .sl] fun (r : Sl) w' => Ext w w' ∧ OwnL w' w.heap.size T.t_int r (labs m)) := by
  refine C_i_labelsIn ?_
  unfold V_i_labelsIn
  refine ⟨fun (out : Sl) (x : Int) w' => ∃ a : Nat, x = a ∧ a ≤ 12 ∧ Ext w w' ∧ OwnL w' w.heap.size T.t_int out (labsN m a), fun _ x _ => 12 - x.toNat, ⟨0, rfl, by omega, Ext.refl _, OwnL.nil _ _ _⟩, ?_⟩
  rintro out _ w1 ⟨a, rfl, ha, hE1, hO⟩
  intros
  rw [shrM (by omega)]
  refine ⟨by omega, cond_ne (fun hne => ⟨by omega, ?_⟩) (fun heq => ?_)⟩
  · have ha8 : a < 12 := by
      have h1 : m / 2 ^ a ≠ 0 := fun h => hne (by rw [h]; rfl)
      rcases Nat.lt_or_eq_of_le ha with h | h
      · exact h
      · subst h; exact absurd (divM_zero.2 (by omega)) h1
    rw [bitM (by omega)]
    have hlen := labsN_len m a
    have hz := hE1.size_le
    by_cases hb : m.testBit a = true
    · rw [if_pos hb]
      refine cond_t (by rfl) ?_
      refine RUN_lit1 (α := Int) slt_int _ rfl (by decide) fun x w2 hE2 hO2 => ?_
      have hO1 := hO.ext hE2
      refine RUN_append (α := Int) slt_int hO1 (by have := hE2.size_le; omega) (hO2.rep (by intro x hx; rw [List.mem_singleton.1 hx]; show I64 _; unfold I64; omega)).any (by simp; omega) (by simp [maxLen]; omega) fun r w3 hO3 hs3 => ?_
      rw [wrap_of (by omega) (by omega)]
      refine ⟨⟨a + 1, by omega, by omega, hs3.ext0 (hE1.trans hE2) fun k hk => (hO1.blk k hk).1, ?_⟩, by simp only []; omega⟩
      rw [labsN_succ, if_pos hb]; exact hO3
    · rw [if_neg hb]
      refine cond_f (by rfl) ?_
      rw [wrap_of (by omega) (by omega)]
      refine ⟨⟨a + 1, by omega, by omega, hE1, ?_⟩, by simp only []; omega⟩
      rw [labsN_succ, if_neg hb, List.append_nil]; exact hO
  · have h1 : m / 2 ^ a = 0 := by have : ((m / 2 ^ a : Nat) : Int) = 0 := heq; omega
    have e := labsN_end (divM_zero.1 h1) 12 ha
    unfold labs
    rw [e]
    exact ⟨hE1, hO⟩

end Go.Proofs.YtfiginahjofdnaaGreat
end

section
/- When a network is a network: both sides' tests, and the laws' tests of nodes and ports. -/
namespace Go.Proofs.YtfiginahjofdnaaGreat
open Go.GX Go.RowKit
set_option maxRecDepth 100000

abbrev Ends := List (List (Int × Int))

/-- The far end of port i of node v. -/
def port (E : Ends) (v i : Nat) : Option (Int × Int) := (E[v]?).bind (·[i]?)

theorem port_get {E : Ends} {v i : Nat} (hv : v < E.length) (hi : i < E[v].length) : port E v i = some E[v][i] := by
  simp [port, hv, hi]

theorem port_some {E : Ends} {v i : Nat} {e : Int × Int} (h : port E v i = some e) : ∃ (hv : v < E.length) (hi : i < E[v].length), E[v][i] = e := by
  unfold port at h
  by_cases hv : v < E.length
  · by_cases hi : i < E[v].length
    · simp [hv, hi] at h; exact ⟨hv, hi, h⟩
    · simp [hv, hi] at h
  · simp [hv] at h

/-- The far end leads back. -/
def Back (E : Ends) (v i : Nat) (e : Int × Int) : Prop := ∃ a b : Nat, e = ((a : Int), (b : Int)) ∧ port E a b = some ((v : Int), (i : Int))

def RowOk (E : Ends) (v : Nat) : Prop := (∀ r, E[v]? = some r → r.length ≤ 6) ∧ ∀ i e, port E v i = some e → Back E v i e

structure Good (n : Net) : Prop where
  size : 1 ≤ n.ends.length ∧ n.ends.length ≤ 40
  ids : IdsOk n.ids n.ends.length
  inputs : n.inputs.length = n.ends.length ∧ AllIn n.inputs 0 9
  rows : ∀ v < n.ends.length, RowOk n.ends v

theorem Good.deg {n : Net} (h : Good n) {v : Nat} (hv : v < n.ends.length) : n.ends[v].length ≤ 6 := (h.rows v hv).1 _ (by simp [hv])
theorem Good.back {n : Net} (h : Good n) {v i : Nat} (hv : v < n.ends.length) (hi : i < n.ends[v].length) : Back n.ends v i n.ends[v][i] := (h.rows v hv).2 i _ (port_get hv hi)

/-- Port numbers as whole numbers. -/
def portZ (E : Ends) (v i : Int) : Option (Int × Int) := if 0 ≤ v ∧ 0 ≤ i then port E v.toNat i.toNat else none

/-- Two answers of a test: the answer, and whether it was asked rightly. -/
def Ans2 (g p : Prop) (x ok : Bool) : Prop := (x = true ↔ g ∧ p) ∧ (ok = true ↔ g)

theorem Ans2.eq {g p : Prop} {x ok x' ok' : Bool} (h : Ans2 g p x ok) (h' : Ans2 g p x' ok') : x = x' ∧ ok = ok' :=
  ⟨Bool.eq_iff_iff.2 (h.1.trans h'.1.symm), Bool.eq_iff_iff.2 (h.2.trans h'.2.symm)⟩

theorem Ans2.no {g p : Prop} (h : ¬ g) : Ans2 g p false false := ⟨by simp [h], by simp [h]⟩
theorem Ans2.mk {g p : Prop} {x : Bool} (h : g) (hx : x = true ↔ p) : Ans2 g p x true := ⟨by simp [h, hx], by simp [h]⟩

end Go.Proofs.YtfiginahjofdnaaGreat
end

section
/- What a node's neighbours bear: both sides' walks over ports; the tests IsDefective and IsWeak. -/
namespace Go.Proofs.YtfiginahjofdnaaGreat
open Go.GX Go.RowKit
set_option maxRecDepth 100000

def rowOf (E : Ends) (v : Nat) : List (Int × Int) := E.getD v []
theorem rowOf_get {E : Ends} {v : Nat} (h : v < E.length) : rowOf E v = E[v] := by simp [rowOf, h]

/-- What lies at the far ends of a node's ports. -/
def nearOf (E : Ends) (l : List Int) (v : Nat) : List Int := (rowOf E v).map fun e => l.getD e.1.toNat 0
/-- The nodes at the far ends of a node's ports. -/
def adjOf (E : Ends) (v : Nat) : List Int := (rowOf E v).map (·.1)

theorem Good.far {n : Net} (hg : Good n) {v i : Nat} (hv : v < n.ends.length) (hi : i < n.ends[v].length) : ∃ x y : Nat, n.ends[v][i] = ((x : Int), (y : Int)) ∧ x < n.ends.length ∧ port n.ends x y = some ((v : Int), (i : Int)) := by
  obtain ⟨x, y, hxy, hb⟩ := hg.back hv hi
  obtain ⟨hx, _⟩ := port_some hb
  exact ⟨x, y, hxy, hx, hb⟩

theorem adj_len {n : Net} (_ : Good n) {v : Nat} (hv : v < n.ends.length) : (adjOf n.ends v).length = n.ends[v].length := by
  unfold adjOf; rw [rowOf_get hv]; simp

theorem near_adj (E : Ends) (l : List Int) (v : Nat) : nearOf E l v = (adjOf E v).map fun u => l.getD u.toNat 0 := by
  unfold nearOf adjOf; rw [List.map_map]; rfl

/-! ### Colours -/

structure ColoursOk (n : Net) (l : List Int) : Prop where
  good : Good n
  len : l.length = n.ends.length
  all : AllIn l 0 1000000000000

/-! ### IsDefective -/

/-! ### IsWeak -/

end Go.Proofs.YtfiginahjofdnaaGreat
end
