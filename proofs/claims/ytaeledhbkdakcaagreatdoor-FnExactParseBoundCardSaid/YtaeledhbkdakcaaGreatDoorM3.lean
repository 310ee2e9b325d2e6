/- Own texts, merged: V2, VCmp, VStable, AllV, Leaf, Net, Sort, Coll, Copy, Lib, TxtRead. -/
import Derived.Test.YtaeledhbkdakcaaGreatDoorM2
import Derived.Shelf.Sort.Plain
import Derived.Shelf.Slices.In.SortNone
import Derived.Test.YtaeledhbkdakcaaGreatDoorProg
import Derived.Sort.OwnSortedInts
import Derived.Laws.IdiomCopy
set_option linter.unusedVariables false
section
/- What each function's code computes to. Printed by a program. -/
namespace Go.Proofs.YtaeledhbkdakcaaGreatDoor
open Go.GX Go.RowKit
set_option linter.unusedVariables false
set_option maxRecDepth 100000

def V_s_zeTwo (Q : Bool → World → Prop) (p_0 : Int) (p_1 : Int) (p_2 : Sl) (p_3 : Sl) (l : Sl) (x : Sl) (y : Sl) (w : World) : Prop :=
  NEW T.t_i_Problem #[.int .i64 p_0, .int .i64 p_1, p_2.v, p_3.v] w fun (p_p : Addr) w1 =>
  cond ((l.len : Int) == 2) (
  IX l 0 1 fun (px15 : Addr) =>
  LD [.int .i64] px15 w1 fun (x16 : Int) =>
  QCALL Tryz.prog F.s_l1Has #[x.v, .int .i64 x16] w1 [.at .bool] fun (x17 : Bool) =>
  cond x17 (
  IX l 1 1 fun (px22 : Addr) =>
  LD [.int .i64] px22 w1 fun (x23 : Int) =>
  QCALL Tryz.prog F.s_l1Has #[y.v, .int .i64 x23] w1 [.at .bool] fun (x24 : Bool) =>
  cond x24 (
  LD [.int .i64, .int .i64, .sl, .sl] p_p w1 fun (x27_0 : Int) (x27_1 : Int) (x27_2 : Sl) (x27_3 : Sl) =>
  IX l 0 1 fun (px29 : Addr) =>
  LD [.int .i64] px29 w1 fun (x30 : Int) =>
  IX l 1 1 fun (px32 : Addr) =>
  LD [.int .i64] px32 w1 fun (x33 : Int) =>
  QCALL Tryz.prog F.s_prEdge #[.agg #[.int .i64 x27_0, .int .i64 x27_1, x27_2.v, x27_3.v], .int .i64 x30, .int .i64 x33] w1 [.at .bool] fun (x34 : Bool) =>
  ∀ w2, Ext w1 w2 →
  Q (!x34) w2) (
  ∀ w3, Ext w1 w3 →
  Q false w3)) (
  ∀ w4, Ext w1 w4 →
  Q false w4)) (
  ∀ w5, Ext w1 w5 →
  Q false w5)

theorem C_s_zeTwo {Q : Bool → World → Prop} {p_0 : Int} {p_1 : Int} {p_2 : Sl} {p_3 : Sl} {l : Sl} {x : Sl} {y : Sl} {w : World} (h : V_s_zeTwo Q p_0 p_1 p_2 p_3 l x y w) : Calls Tryz.prog F.s_zeTwo #[.agg #[.int .i64 p_0, .int .i64 p_1, p_2.v, p_3.v], l.v, x.v, y.v] w (Ret [.at .bool] Q) :=
  mkC (hint := hint) (ann := annOf []) (args := [.agg #[.int .i64 p_0, .int .i64 p_1, p_2.v, p_3.v], l.v, x.v, y.v]) (rs := [.at .bool]) Tryz.func187 (by kernel_rfl) (by kernel_rfl) h

def V_s_EdgeStep (Q : Int → Int → Sl → Sl → Sl → Bool → World → Prop) (p_0 : Int) (p_1 : Int) (p_2 : Sl) (p_3 : Sl) (w : World) : Prop :=
  NEW T.t_i_Problem #[.int .i64 p_0, .int .i64 p_1, p_2.v, p_3.v] w fun (p_p : Addr) w1 =>
  NEW T.t_i_Problem #[.int .i64 0, .int .i64 0, .slice none 0 0, .slice none 0 0] w1 fun (px2 : Addr) w2 =>
  LD [.int .i64, .int .i64, .sl, .sl] p_p w2 fun (x5_0 : Int) (x5_1 : Int) (x5_2 : Sl) (x5_3 : Sl) =>
  Calls Tryz.prog F.s_prGood #[.agg #[.int .i64 x5_0, .int .i64 x5_1, x5_2.v, x5_3.v]] w2 (Ret [.at .bool] fun (x6 : Bool) w3 =>
  cond (!x6) (
  ST px2 0 [.int .i64 0, .int .i64 0, .slice none 0 0, .slice none 0 0] w3 fun w4 =>
  LD [.int .i64, .int .i64, .sl, .sl] px2 w4 fun (r0_0 : Int) (r0_1 : Int) (r0_2 : Sl) (r0_3 : Sl) =>
  Q r0_0 r0_1 r0_2 r0_3 (⟨none, 0, 0⟩) false w4) (
  LD [.int .i64, .int .i64, .sl, .sl] p_p w3 fun (x9_0 : Int) (x9_1 : Int) (x9_2 : Sl) (x9_3 : Sl) =>
  Calls Tryz.prog F.s_elEdge #[.agg #[.int .i64 x9_0, .int .i64 x9_1, x9_2.v, x9_3.v]] w3 (Ret [.agg [.int .i64, .int .i64, .sl, .sl], .at .sl, .at .bool] fun (x10_0_0 : Int) (x10_0_1 : Int) (x10_0_2 : Sl) (x10_0_3 : Sl) (x10_1 : Sl) (x10_2 : Bool) w5 =>
  ST px2 0 [.int .i64 x10_0_0, .int .i64 x10_0_1, x10_0_2.v, x10_0_3.v] w5 fun w6 =>
  LD [.int .i64, .int .i64, .sl, .sl] px2 w6 fun (r0_0_2 : Int) (r0_1_2 : Int) (r0_2_2 : Sl) (r0_3_2 : Sl) =>
  Q r0_0_2 r0_1_2 r0_2_2 r0_3_2 x10_1 x10_2 w6)))

theorem C_s_EdgeStep {Q : Int → Int → Sl → Sl → Sl → Bool → World → Prop} {p_0 : Int} {p_1 : Int} {p_2 : Sl} {p_3 : Sl} {w : World} (h : V_s_EdgeStep Q p_0 p_1 p_2 p_3 w) : Calls Tryz.prog F.s_EdgeStep #[.agg #[.int .i64 p_0, .int .i64 p_1, p_2.v, p_3.v]] w (Ret [.agg [.int .i64, .int .i64, .sl, .sl], .at .sl, .at .bool] Q) :=
  mkC (hint := hint) (ann := annOf []) (args := [.agg #[.int .i64 p_0, .int .i64 p_1, p_2.v, p_3.v]]) (rs := [.agg [.int .i64, .int .i64, .sl, .sl], .at .sl, .at .bool]) Tryz.func188 (by kernel_rfl) (by kernel_rfl) h

def V_s_elNode_k5 (I6 : Sl → Int → World → Prop) (m6 : Sl → Int → World → Nat) (x6 : Sl) (x33 : Int) (w10 : World) (x6_2 : Sl) (w21 : World) : Prop :=
  I6 x6_2 (IntKind.i64.wrap (x33 + 1)) w21 ∧ m6 x6_2 (IntKind.i64.wrap (x33 + 1)) w21 < m6 x6 x33 w10

def V_s_elNode_k9 (I6 : Sl → Int → World → Prop) (m6 : Sl → Int → World → Nat) (x33 : Int) (w10 : World) (px5 : Addr) (x6 : Sl) (x9 : Sl) (x51 : Int) (w15 : World) : Prop :=
  RUN Tryz.prog (.at .sl) (Instr.buildSlice T.t_sl_int 1 #[(0, .int .i64 x51)]) w15 fun (x71 : Sl) w16 =>
  RUN Tryz.prog (.at .sl) (bsem .append #[T.t_sl_int, T.t_sl_int] T.t_sl_int #[x9.v, x71.v]) w16 fun (x72 : Sl) w17 =>
  LD [.int .i64, .int .i64, .sl, .sl, .sl] px5 w17 fun (x73_0 : Int) (x73_1 : Int) (x73_2 : Sl) (x73_3 : Sl) (x73_4 : Sl) =>
  Calls Tryz.prog F.s_elTable_full #[.agg #[.int .i64 x73_0, .int .i64 x73_1, x73_2.v, x73_3.v, x73_4.v], x72.v] w17 (Ret [.at .bool] fun (x75 : Bool) w18 =>
  cond x75 (
  RUN Tryz.prog (.at .sl) (Instr.buildSlice T.t_sl_sl_int 1 #[(0, x72.v)]) w18 fun (x78 : Sl) w19 =>
  RUN Tryz.prog (.at .sl) (bsem .append #[T.t_sl_sl_int, T.t_sl_sl_int] T.t_sl_sl_int #[x6.v, x78.v]) w19 fun (x79 : Sl) w20 =>
  V_s_elNode_k5 I6 m6 x6 x33 w10 x79 w20) (
  V_s_elNode_k5 I6 m6 x6 x33 w10 x6 w18))

def V_s_elNode_k1 (Q : Int → Int → Sl → Sl → Sl → Bool → World → Prop) (px1 : Addr) (px2 : Addr) (w4 : World) : Prop :=
  LD [.int .i64, .int .i64, .sl, .sl] px1 w4 fun (x22_0 : Int) (x22_1 : Int) (x22_2 : Sl) (x22_3 : Sl) =>
  Calls Tryz.prog F.s_elTabled #[.agg #[.int .i64 x22_0, .int .i64 x22_1, x22_2.v, x22_3.v]] w4 (Ret [.agg [.int .i64, .int .i64, .sl, .sl, .sl]] fun (x23_0 : Int) (x23_1 : Int) (x23_2 : Sl) (x23_3 : Sl) (x23_4 : Sl) w5 =>
  NEW T.t_s_elTable #[.int .i64 0, .int .i64 0, .slice none 0 0, .slice none 0 0, .slice none 0 0] w5 fun (px5 : Addr) w6 =>
  ST px5 0 [.int .i64 x23_0, .int .i64 x23_1, x23_2.v, x23_3.v, x23_4.v] w6 fun w7 =>
  ∀ w8, Ext w7 w8 → w8.heap = w7.heap →
  LD [.int .i64] (px1.add 0) w8 fun (x25 : Int) =>
  (0 : Int) ≤ x25 ∧ (
  LD [.int .i64] (px1.add 1) w8 fun (x29 : Int) =>
  Calls Tryz.prog F.s_reChoices #[.int .i64 (IntKind.i64.wrap ((shlI .i64 1 x25) - 1)), .int .i64 (IntKind.i64.wrap (x29 - 1))] w8 (Ret [.at .sl] fun (x31 : Sl) w9 =>
  Ext w8 w9 ∧ (
  Ext w8 w9 ∧ (
  ∃ (I6 : Sl → Int → World → Prop) (m6 : Sl → Int → World → Nat), I6 (⟨none, 0, 0⟩) 0 w9 ∧ ∀ (x6 : Sl) (x33 : Int) w10, I6 x6 x33 w10 → ∀ _ _ _ _ _ _ _ _ _ _ _ _ _ _ _ _ _ _ _ _ _ _ _ _ _ _ _ _ _ _ _ _ _ _ _ _ _ _ _ _ _ _ _ _ _ _ _ _ _ _ _ : Value,
  cond (decide ((x33 : Int) < x31.len)) (
  IX x31 x33 1 fun (px35 : Addr) =>
  LD [.sl] px35 w10 fun (x36 : Sl) =>
  ∃ (I10 : Sl → Int → World → Prop) (m10 : Sl → Int → World → Nat), I10 (⟨none, 0, 0⟩) 0 w10 ∧ ∀ (x9 : Sl) (x39 : Int) w11, I10 x9 x39 w11 → ∀ _ _ _ _ _ _ _ _ _ _ : Value,
  cond (decide ((x39 : Int) < x36.len)) (
  IX x36 x39 1 fun (px41 : Addr) =>
  LD [.int .i64] px41 w11 fun (x42 : Int) =>
  RUN Tryz.prog (.at .sl) (Instr.buildSlice T.t_sl_int 1 #[(0, .int .i64 (IntKind.i64.wrap (x42 + 1)))]) w11 fun (x46 : Sl) w12 =>
  RUN Tryz.prog (.at .sl) (bsem .append #[T.t_sl_int, T.t_sl_int] T.t_sl_int #[x9.v, x46.v]) w12 fun (x47 : Sl) w13 =>
  I10 x47 (IntKind.i64.wrap (x39 + 1)) w13 ∧ m10 x47 (IntKind.i64.wrap (x39 + 1)) w13 < m10 x9 x39 w11) (
  LD [.int .i64, .int .i64, .sl, .sl, .sl] px5 w11 fun (x49_0 : Int) (x49_1 : Int) (x49_2 : Sl) (x49_3 : Sl) (x49_4 : Sl) =>
  Calls Tryz.prog F.s_elTable_rest #[.agg #[.int .i64 x49_0, .int .i64 x49_1, x49_2.v, x49_3.v, x49_4.v], x9.v, .int .i64 0] w11 (Ret [.at (.int .i64)] fun (x51 : Int) w14 =>
  cond ((x51 : Int) == 0) (
  V_s_elNode_k5 I6 m6 x6 x33 w10 x6 w14) (
  cond (decide ((x9.len : Int) > 0)) (
  IX x9 (IntKind.i64.wrap (x9.len - 1)) 1 fun (px64 : Addr) =>
  LD [.int .i64] px64 w14 fun (x65 : Int) =>
  cond (decide ((x51 : Int) < x65)) (
  V_s_elNode_k5 I6 m6 x6 x33 w10 x6 w14) (
  V_s_elNode_k9 I6 m6 x33 w10 px5 x6 x9 x51 w14)) (
  V_s_elNode_k9 I6 m6 x33 w10 px5 x6 x9 x51 w14))))) (
  LD [.int .i64, .int .i64, .sl, .sl] px1 w10 fun (x81_0 : Int) (x81_1 : Int) (x81_2 : Sl) (x81_3 : Sl) =>
  Calls Tryz.prog F.s_elMade #[.agg #[.int .i64 x81_0, .int .i64 x81_1, x81_2.v, x81_3.v], x6.v, .bool false] w10 (Ret [.agg [.int .i64, .int .i64, .sl, .sl], .at .sl, .at .bool] fun (x83_0_0 : Int) (x83_0_1 : Int) (x83_0_2 : Sl) (x83_0_3 : Sl) (x83_1 : Sl) (x83_2 : Bool) w22 =>
  ST px2 0 [.int .i64 x83_0_0, .int .i64 x83_0_1, x83_0_2.v, x83_0_3.v] w22 fun w23 =>
  LD [.int .i64, .int .i64, .sl, .sl] px2 w23 fun (r0_0_2 : Int) (r0_1_2 : Int) (r0_2_2 : Sl) (r0_3_2 : Sl) =>
  Q r0_0_2 r0_1_2 r0_2_2 r0_3_2 x83_1 x83_2 w23)))))))

def V_s_elNode (Q : Int → Int → Sl → Sl → Sl → Bool → World → Prop) (x0_0 : Int) (x0_1 : Int) (x0_2 : Sl) (x0_3 : Sl) (w : World) : Prop :=
  NEW T.t_i_Problem #[.int .i64 x0_0, .int .i64 x0_1, x0_2.v, x0_3.v] w fun (px1 : Addr) w1 =>
  NEW T.t_i_Problem #[.int .i64 0, .int .i64 0, .slice none 0 0, .slice none 0 0] w1 fun (px2 : Addr) w2 =>
  LD [.int .i64] (px1.add 1) w2 fun (x14 : Int) =>
  cond ((x14 : Int) == 4) (
  LD [.int .i64] (px1.add 0) w2 fun (x18 : Int) =>
  cond (decide ((x18 : Int) > 6)) (
  ST px2 0 [.int .i64 0, .int .i64 0, .slice none 0 0, .slice none 0 0] w2 fun w3 =>
  LD [.int .i64, .int .i64, .sl, .sl] px2 w3 fun (r0_0 : Int) (r0_1 : Int) (r0_2 : Sl) (r0_3 : Sl) =>
  Q r0_0 r0_1 r0_2 r0_3 (⟨none, 0, 0⟩) false w3) (
  V_s_elNode_k1 Q px1 px2 w2)) (
  V_s_elNode_k1 Q px1 px2 w2)

theorem C_s_elNode {Q : Int → Int → Sl → Sl → Sl → Bool → World → Prop} {x0_0 : Int} {x0_1 : Int} {x0_2 : Sl} {x0_3 : Sl} {w : World} (h : V_s_elNode Q x0_0 x0_1 x0_2 x0_3 w) : Calls Tryz.prog F.s_elNode #[.agg #[.int .i64 x0_0, .int .i64 x0_1, x0_2.v, x0_3.v]] w (Ret [.agg [.int .i64, .int .i64, .sl, .sl], .at .sl, .at .bool] Q) :=
  mkC (hint := hint) (ann := annOf [(6, ⟨[(6, .sl), (33, .int .i64)], [8, 9, 11, 12, 34, 35, 36, 37, 38, 39, 40, 41, 42, 43, 44, 45, 46, 47, 48, 49, 50, 51, 52, 53, 54, 55, 56, 57, 58, 59, 60, 61, 62, 63, 64, 65, 66, 67, 68, 69, 70, 71, 72, 73, 74, 75, 76, 77, 78, 79, 80]⟩), (10, ⟨[(9, .sl), (39, .int .i64)], [11, 40, 41, 42, 43, 44, 45, 46, 47, 48]⟩)]) (args := [.agg #[.int .i64 x0_0, .int .i64 x0_1, x0_2.v, x0_3.v]]) (rs := [.agg [.int .i64, .int .i64, .sl, .sl], .at .sl, .at .bool]) Tryz.func189 (by kernel_rfl) (by kernel_rfl) h

def V_s_reInto (Q : Bool → World → Prop) (l : Sl) (m : Sl) (f : Sl) (w : World) : Prop :=
  ∃ (I2 : Int → World → Prop) (m2 : Int → World → Nat), I2 0 w ∧ ∀ (x11 : Int) w1, I2 x11 w1 → ∀ _ _ _ _ _ _ _ _ _ _ _ _ _ : Value,
  cond (decide ((x11 : Int) < l.len)) (
  IX l x11 1 fun (px13 : Addr) =>
  LD [.sl] px13 w1 fun (x14 : Sl) =>
  Calls Tryz.prog F.s_coThrough #[f.v, x14.v] w1 (Ret [.at .sl] fun (x18 : Sl) w2 =>
  Calls Tryz.prog F.s_prSorted #[x18.v] w2 (Ret [.at .sl] fun (x19 : Sl) w3 =>
  Calls Tryz.prog F.s_prHas #[m.v, x19.v] w3 (Ret [.at .bool] fun (x20 : Bool) w4 =>
  cond (!x20) (
  Q false w4) (
  I2 (IntKind.i64.wrap (x11 + 1)) w4 ∧ m2 (IntKind.i64.wrap (x11 + 1)) w4 < m2 x11 w1))))) (
  Q true w1)

theorem C_s_reInto {Q : Bool → World → Prop} {l : Sl} {m : Sl} {f : Sl} {w : World} (h : V_s_reInto Q l m f w) : Calls Tryz.prog F.s_reInto #[l.v, m.v, f.v] w (Ret [.at .bool] Q) :=
  mkC (hint := hint) (ann := annOf [(2, ⟨[(11, .int .i64)], [6, 8, 12, 13, 14, 15, 16, 17, 18, 19, 20, 21, 22]⟩)]) (args := [l.v, m.v, f.v]) (rs := [.at .bool]) Tryz.func190 (by kernel_rfl) (by kernel_rfl) h

def V_slices_ContainsFunc_sl_i_Problem_i_Problem (Q : Bool → World → Prop) (s : Sl) (f : Value) (w : World) : Prop :=
  Calls Tryz.prog F.slices_IndexFunc_sl_i_Problem_i_Problem #[s.v, f] w (Ret [.at (.int .i64)] fun (x7 : Int) w1 =>
  Q (decide ((x7 : Int) ≥ 0)) w1)

theorem C_slices_ContainsFunc_sl_i_Problem_i_Problem {Q : Bool → World → Prop} {s : Sl} {f : Value} {w : World} (h : V_slices_ContainsFunc_sl_i_Problem_i_Problem Q s f w) : Calls Tryz.prog F.slices_ContainsFunc_sl_i_Problem_i_Problem #[s.v, f] w (Ret [.at .bool] Q) :=
  mkC (hint := hint) (ann := annOf []) (args := [s.v, f]) (rs := [.at .bool]) Tryz.func197 (by kernel_rfl) (by kernel_rfl) h

def V_i_problemsOk_1 (Q : Bool → World → Prop) (p_0 : Int) (p_1 : Int) (p_2 : Sl) (p_3 : Sl) (cap0 : Addr) (w : World) : Prop :=
  NEW T.t_i_Problem #[.int .i64 p_0, .int .i64 p_1, p_2.v, p_3.v] w fun (p_p : Addr) w1 =>
  LD [.int .i64, .int .i64, .sl, .sl] p_p w1 fun (x4_0 : Int) (x4_1 : Int) (x4_2 : Sl) (x4_3 : Sl) =>
  QCALL Tryz.prog F.i_IsProblem #[.agg #[.int .i64 x4_0, .int .i64 x4_1, x4_2.v, x4_3.v]] w1 [.at .bool] fun (x5 : Bool) =>
  cond (!x5) (
  ∀ w2, Ext w1 w2 →
  Q true w2) (
  LD [.int .i64] (p_p.add 1) w1 fun (x9 : Int) =>
  LD [.sl] cap0 w1 fun (x10 : Sl) =>
  IX x10 0 4 fun (px11 : Addr) =>
  LD [.int .i64] (px11.add 1) w1 fun (x13 : Int) =>
  ∀ w3, Ext w1 w3 →
  Q ((x9 : Int) != x13) w3)

theorem C_i_problemsOk_1 {Q : Bool → World → Prop} {p_0 : Int} {p_1 : Int} {p_2 : Sl} {p_3 : Sl} {cap0 : Addr} {w : World} (h : V_i_problemsOk_1 Q p_0 p_1 p_2 p_3 cap0 w) : Calls Tryz.prog F.i_problemsOk_1 #[.agg #[.int .i64 p_0, .int .i64 p_1, p_2.v, p_3.v], .pointer (some cap0)] w (Ret [.at .bool] Q) :=
  mkC (hint := hint) (ann := annOf []) (args := [.agg #[.int .i64 p_0, .int .i64 p_1, p_2.v, p_3.v], .pointer (some cap0)]) (rs := [.at .bool]) Tryz.func198 (by kernel_rfl) (by kernel_rfl) h

def V_i_IsProblem (Q : Bool → World → Prop) (p_0 : Int) (p_1 : Int) (p_2 : Sl) (p_3 : Sl) (w : World) : Prop :=
  NEW T.t_i_Problem #[.int .i64 p_0, .int .i64 p_1, p_2.v, p_3.v] w fun (p_p : Addr) w1 =>
  LD [.int .i64] (p_p.add 0) w1 fun (x4 : Int) =>
  Calls Tryz.prog F.i_within #[.int .i64 x4, .int .i64 1, .int .i64 8] w1 (Ret [.at .bool] fun (x5 : Bool) w2 =>
  cond x5 (
  LD [.int .i64] (p_p.add 1) w2 fun (x8 : Int) =>
  Calls Tryz.prog F.i_within #[.int .i64 x8, .int .i64 1, .int .i64 4] w2 (Ret [.at .bool] fun (x9 : Bool) w3 =>
  cond x9 (
  LD [.sl] (p_p.add 2) w3 fun (x13 : Sl) =>
  LD [.int .i64] (p_p.add 1) w3 fun (x15 : Int) =>
  LD [.int .i64] (p_p.add 0) w3 fun (x17 : Int) =>
  Calls Tryz.prog F.i_configurationsOk #[x13.v, .int .i64 x15, .int .i64 x17] w3 (Ret [.at .bool] fun (x18 : Bool) w4 =>
  cond x18 (
  LD [.sl] (p_p.add 3) w4 fun (x22 : Sl) =>
  LD [.int .i64] (p_p.add 0) w4 fun (x24 : Int) =>
  Calls Tryz.prog F.i_configurationsOk #[x22.v, .int .i64 2, .int .i64 x24] w4 (Ret [.at .bool] fun (x25 : Bool) w5 =>
  Q x25 w5)) (
  Q false w4))) (
  Q false w3))) (
  Q false w2))

theorem C_i_IsProblem {Q : Bool → World → Prop} {p_0 : Int} {p_1 : Int} {p_2 : Sl} {p_3 : Sl} {w : World} (h : V_i_IsProblem Q p_0 p_1 p_2 p_3 w) : Calls Tryz.prog F.i_IsProblem #[.agg #[.int .i64 p_0, .int .i64 p_1, p_2.v, p_3.v]] w (Ret [.at .bool] Q) :=
  mkC (hint := hint) (ann := annOf []) (args := [.agg #[.int .i64 p_0, .int .i64 p_1, p_2.v, p_3.v]]) (rs := [.at .bool]) Tryz.func199 (by kernel_rfl) (by kernel_rfl) h

def V_i_eliminate (Q : Int → Int → Sl → Sl → Sl → Sl → Bool → World → Prop) (p_0 : Int) (p_1 : Int) (p_2 : Sl) (p_3 : Sl) (w : World) : Prop :=
  NEW T.t_i_Problem #[.int .i64 p_0, .int .i64 p_1, p_2.v, p_3.v] w fun (p_p : Addr) w1 =>
  NEW T.t_i_Problem #[.int .i64 0, .int .i64 0, .slice none 0 0, .slice none 0 0] w1 fun (px2 : Addr) w2 =>
  LD [.int .i64, .int .i64, .sl, .sl] p_p w2 fun (x12_0 : Int) (x12_1 : Int) (x12_2 : Sl) (x12_3 : Sl) =>
  Calls Tryz.prog F.i_edgeStep #[.agg #[.int .i64 x12_0, .int .i64 x12_1, x12_2.v, x12_3.v]] w2 (Ret [.agg [.int .i64, .int .i64, .sl, .sl], .at .sl, .at .bool] fun (x13_0_0 : Int) (x13_0_1 : Int) (x13_0_2 : Sl) (x13_0_3 : Sl) (x13_1 : Sl) (x13_2 : Bool) w3 =>
  NEW T.t_i_Problem #[.int .i64 0, .int .i64 0, .slice none 0 0, .slice none 0 0] w3 fun (p_q : Addr) w4 =>
  ST p_q 0 [.int .i64 x13_0_0, .int .i64 x13_0_1, x13_0_2.v, x13_0_3.v] w4 fun w5 =>
  cond (!x13_2) (
  ST px2 0 [.int .i64 0, .int .i64 0, .slice none 0 0, .slice none 0 0] w5 fun w6 =>
  LD [.int .i64, .int .i64, .sl, .sl] px2 w6 fun (r0_0 : Int) (r0_1 : Int) (r0_2 : Sl) (r0_3 : Sl) =>
  Q r0_0 r0_1 r0_2 r0_3 (⟨none, 0, 0⟩) (⟨none, 0, 0⟩) false w6) (
  LD [.int .i64, .int .i64, .sl, .sl] p_q w5 fun (x21_0 : Int) (x21_1 : Int) (x21_2 : Sl) (x21_3 : Sl) =>
  Calls Tryz.prog F.i_nodeStep #[.agg #[.int .i64 x21_0, .int .i64 x21_1, x21_2.v, x21_3.v]] w5 (Ret [.agg [.int .i64, .int .i64, .sl, .sl], .at .sl, .at .bool] fun (x22_0_0 : Int) (x22_0_1 : Int) (x22_0_2 : Sl) (x22_0_3 : Sl) (x22_1 : Sl) (x22_2 : Bool) w7 =>
  NEW T.t_i_Problem #[.int .i64 0, .int .i64 0, .slice none 0 0, .slice none 0 0] w7 fun (p_r : Addr) w8 =>
  ST p_r 0 [.int .i64 x22_0_0, .int .i64 x22_0_1, x22_0_2.v, x22_0_3.v] w8 fun w9 =>
  cond (!x22_2) (
  ST px2 0 [.int .i64 0, .int .i64 0, .slice none 0 0, .slice none 0 0] w9 fun w10 =>
  LD [.int .i64, .int .i64, .sl, .sl] px2 w10 fun (r0_0_2 : Int) (r0_1_2 : Int) (r0_2_2 : Sl) (r0_3_2 : Sl) =>
  Q r0_0_2 r0_1_2 r0_2_2 r0_3_2 (⟨none, 0, 0⟩) (⟨none, 0, 0⟩) false w10) (
  LD [.int .i64, .int .i64, .sl, .sl] p_r w9 fun (x29_0 : Int) (x29_1 : Int) (x29_2 : Sl) (x29_3 : Sl) =>
  ST px2 0 [.int .i64 x29_0, .int .i64 x29_1, x29_2.v, x29_3.v] w9 fun w11 =>
  LD [.int .i64, .int .i64, .sl, .sl] px2 w11 fun (r0_0_3 : Int) (r0_1_3 : Int) (r0_2_3 : Sl) (r0_3_3 : Sl) =>
  Q r0_0_3 r0_1_3 r0_2_3 r0_3_3 x13_1 x22_1 true w11))))

theorem C_i_eliminate {Q : Int → Int → Sl → Sl → Sl → Sl → Bool → World → Prop} {p_0 : Int} {p_1 : Int} {p_2 : Sl} {p_3 : Sl} {w : World} (h : V_i_eliminate Q p_0 p_1 p_2 p_3 w) : Calls Tryz.prog F.i_eliminate #[.agg #[.int .i64 p_0, .int .i64 p_1, p_2.v, p_3.v]] w (Ret [.agg [.int .i64, .int .i64, .sl, .sl], .at .sl, .at .sl, .at .bool] Q) :=
  mkC (hint := hint) (ann := annOf []) (args := [.agg #[.int .i64 p_0, .int .i64 p_1, p_2.v, p_3.v]]) (rs := [.agg [.int .i64, .int .i64, .sl, .sl], .at .sl, .at .sl, .at .bool]) Tryz.func200 (by kernel_rfl) (by kernel_rfl) h

def V_i_isLabelMap_k1 (Q : Bool → World → Prop) (p_p : Addr) (p_q : Addr) (p_f : Addr) (w5 : World) : Prop :=
  LD [.sl] (p_p.add 2) w5 fun (x21 : Sl) =>
  ∃ (I4 : Int → World → Prop) (m4 : Int → World → Nat), I4 0 w5 ∧ ∀ (x23 : Int) w6, I4 x23 w6 → ∀ _ _ _ _ _ _ _ _ _ _ _ _ : Value,
  cond (decide ((x23 : Int) < x21.len)) (
  IX x21 x23 1 fun (px25 : Addr) =>
  LD [.sl] px25 w6 fun (x26 : Sl) =>
  ∀ w7, Ext w6 w7 → w7.heap = w6.heap →
  LD [.int .i64, .int .i64, .sl, .sl] p_q w7 fun (x27_0 : Int) (x27_1 : Int) (x27_2 : Sl) (x27_3 : Sl) =>
  LD [.sl] p_f w7 fun (x29 : Sl) =>
  Ext w7 w7 ∧ (
  Calls Tryz.prog F.i_images #[x26.v, x29.v] w7 (Ret [.at .sl] fun (x30 : Sl) w8 =>
  Ext w7 w8 ∧ (
  Calls Tryz.prog F.i_Problem_node #[.agg #[.int .i64 x27_0, .int .i64 x27_1, x27_2.v, x27_3.v], x30.v] w8 (Ret [.at .bool] fun (x31 : Bool) w9 =>
  Ext w7 w9 ∧ (
  Ext w7 w9 ∧ (
  cond (!x31) (
  Q false w9) (
  I4 (IntKind.i64.wrap (x23 + 1)) w9 ∧ m4 (IntKind.i64.wrap (x23 + 1)) w9 < m4 x23 w6)))))))) (
  LD [.sl] (p_p.add 3) w6 fun (x35 : Sl) =>
  Calls Tryz.prog F.slices_ContainsFunc_sl_sl_int_sl_int #[x35.v, .func (.func F.i_isLabelMap_1) #[] #[.pointer (some p_q), .pointer (some p_f)]] w6 (Ret [.at .bool] fun (x37 : Bool) w10 =>
  Q (!x37) w10))

def V_i_isLabelMap (Q : Bool → World → Prop) (p_0 : Int) (p_1 : Int) (p_2 : Sl) (p_3 : Sl) (q_0 : Int) (q_1 : Int) (q_2 : Sl) (q_3 : Sl) (f : Sl) (w : World) : Prop :=
  NEW T.t_i_Problem #[.int .i64 p_0, .int .i64 p_1, p_2.v, p_3.v] w fun (p_p : Addr) w1 =>
  NEW T.t_i_Problem #[.int .i64 q_0, .int .i64 q_1, q_2.v, q_3.v] w1 fun (p_q : Addr) w2 =>
  NEW T.t_sl_int #[f.v] w2 fun (p_f : Addr) w3 =>
  LD [.sl] p_f w3 fun (x9 : Sl) =>
  LD [.int .i64] (p_p.add 0) w3 fun (x12 : Int) =>
  cond ((x9.len : Int) != x12) (
  Q false w3) (
  LD [.int .i64, .int .i64, .sl, .sl] p_q w3 fun (x15_0 : Int) (x15_1 : Int) (x15_2 : Sl) (x15_3 : Sl) =>
  LD [.sl] p_f w3 fun (x16 : Sl) =>
  Calls Tryz.prog F.i_Problem_hasLabels #[.agg #[.int .i64 x15_0, .int .i64 x15_1, x15_2.v, x15_3.v], x16.v] w3 (Ret [.at .bool] fun (x17 : Bool) w4 =>
  cond (!x17) (
  Q false w4) (
  V_i_isLabelMap_k1 Q p_p p_q p_f w4)))

theorem C_i_isLabelMap {Q : Bool → World → Prop} {p_0 : Int} {p_1 : Int} {p_2 : Sl} {p_3 : Sl} {q_0 : Int} {q_1 : Int} {q_2 : Sl} {q_3 : Sl} {f : Sl} {w : World} (h : V_i_isLabelMap Q p_0 p_1 p_2 p_3 q_0 q_1 q_2 q_3 f w) : Calls Tryz.prog F.i_isLabelMap #[.agg #[.int .i64 p_0, .int .i64 p_1, p_2.v, p_3.v], .agg #[.int .i64 q_0, .int .i64 q_1, q_2.v, q_3.v], f.v] w (Ret [.at .bool] Q) :=
  mkC (hint := hint) (ann := annOf [(4, ⟨[(23, .int .i64)], [6, 8, 24, 25, 26, 27, 28, 29, 30, 31, 32, 33]⟩)]) (args := [.agg #[.int .i64 p_0, .int .i64 p_1, p_2.v, p_3.v], .agg #[.int .i64 q_0, .int .i64 q_1, q_2.v, q_3.v], f.v]) (rs := [.at .bool]) Tryz.func201 (by kernel_rfl) (by kernel_rfl) h

def V_i_isZeroRefusal (Q : Bool → World → Prop) (p_0 : Int) (p_1 : Int) (p_2 : Sl) (p_3 : Sl) (pairs : Sl) (w : World) : Prop :=
  NEW T.t_i_Problem #[.int .i64 p_0, .int .i64 p_1, p_2.v, p_3.v] w fun (p_p : Addr) w1 =>
  LD [.sl] (p_p.add 2) w1 fun (x10 : Sl) =>
  cond ((pairs.len : Int) != x10.len) (
  Q false w1) (
  ∃ (I4 : Int → World → Prop) (m4 : Int → World → Nat), I4 0 w1 ∧ ∀ (x15 : Int) w2, I4 x15 w2 → ∀ _ _ _ _ _ _ _ _ _ _ _ _ _ _ _ _ _ _ _ _ _ _ _ _ _ _ _ _ _ _ _ _ _ _ _ _ _ _ _ _ _ _ _ _ _ : Value,
  cond (decide ((x15 : Int) < pairs.len)) (
  IX pairs x15 1 fun (px18 : Addr) =>
  LD [.sl] px18 w2 fun (x19 : Sl) =>
  cond ((x19.len : Int) != 2) (
  ∀ w3, Ext w2 w3 →
  Q false w3) (
  LD [.sl] (p_p.add 2) w2 fun (x25 : Sl) =>
  IX x25 x15 1 fun (px27 : Addr) =>
  LD [.sl] px27 w2 fun (x28 : Sl) =>
  IX x19 0 1 fun (px30 : Addr) =>
  LD [.int .i64] px30 w2 fun (x31 : Int) =>
  QCALL Tryz.prog F.slices_Contains_sl_int_int #[x28.v, .int .i64 x31] w2 [.at .bool] fun (x32 : Bool) =>
  cond (!x32) (
  ∀ w4, Ext w2 w4 →
  Q false w4) (
  LD [.sl] (p_p.add 2) w2 fun (x37 : Sl) =>
  IX x37 x15 1 fun (px39 : Addr) =>
  LD [.sl] px39 w2 fun (x40 : Sl) =>
  IX x19 1 1 fun (px42 : Addr) =>
  LD [.int .i64] px42 w2 fun (x43 : Int) =>
  QCALL Tryz.prog F.slices_Contains_sl_int_int #[x40.v, .int .i64 x43] w2 [.at .bool] fun (x44 : Bool) =>
  cond (!x44) (
  ∀ w5, Ext w2 w5 →
  Q false w5) (
  LD [.int .i64, .int .i64, .sl, .sl] p_p w2 fun (x48_0 : Int) (x48_1 : Int) (x48_2 : Sl) (x48_3 : Sl) =>
  IX x19 0 1 fun (px50 : Addr) =>
  LD [.int .i64] px50 w2 fun (x51 : Int) =>
  IX x19 1 1 fun (px53 : Addr) =>
  LD [.int .i64] px53 w2 fun (x54 : Int) =>
  QCALL Tryz.prog F.i_Problem_edge #[.agg #[.int .i64 x48_0, .int .i64 x48_1, x48_2.v, x48_3.v], .int .i64 x51, .int .i64 x54] w2 [.at .bool] fun (x55 : Bool) =>
  ∀ w6, Ext w2 w6 →
  cond x55 (
  Q false w6) (
  I4 (IntKind.i64.wrap (x15 + 1)) w6 ∧ m4 (IntKind.i64.wrap (x15 + 1)) w6 < m4 x15 w2))))) (
  Q true w2))

theorem C_i_isZeroRefusal {Q : Bool → World → Prop} {p_0 : Int} {p_1 : Int} {p_2 : Sl} {p_3 : Sl} {pairs : Sl} {w : World} (h : V_i_isZeroRefusal Q p_0 p_1 p_2 p_3 pairs w) : Calls Tryz.prog F.i_isZeroRefusal #[.agg #[.int .i64 p_0, .int .i64 p_1, p_2.v, p_3.v], pairs.v] w (Ret [.at .bool] Q) :=
  mkC (hint := hint) (ann := annOf [(4, ⟨[(15, .int .i64)], [4, 5, 6, 16, 17, 18, 19, 20, 21, 22, 23, 24, 25, 26, 27, 28, 29, 30, 31, 32, 33, 34, 35, 36, 37, 38, 39, 40, 41, 42, 43, 44, 45, 46, 47, 48, 49, 50, 51, 52, 53, 54, 55, 56, 57]⟩)]) (args := [.agg #[.int .i64 p_0, .int .i64 p_1, p_2.v, p_3.v], pairs.v]) (rs := [.at .bool]) Tryz.func202 (by kernel_rfl) (by kernel_rfl) h

def V_s_l1Most (Q : Int → World → Prop) (a : Int) (b : Int) (w : World) : Prop :=
  cond (decide ((a : Int) > b)) (
  Q a w) (
  Q b w)

theorem C_s_l1Most {Q : Int → World → Prop} {a : Int} {b : Int} {w : World} (h : V_s_l1Most Q a b w) : Calls Tryz.prog F.s_l1Most #[.int .i64 a, .int .i64 b] w (Ret [.at (.int .i64)] Q) :=
  mkC (hint := hint) (ann := annOf []) (args := [.int .i64 a, .int .i64 b]) (rs := [.at (.int .i64)]) Tryz.func205 (by kernel_rfl) (by kernel_rfl) h

def V_s_prEdge (Q : Bool → World → Prop) (p_0 : Int) (p_1 : Int) (p_2 : Sl) (p_3 : Sl) (a : Int) (b : Int) (w : World) : Prop :=
  NEW T.t_i_Problem #[.int .i64 p_0, .int .i64 p_1, p_2.v, p_3.v] w fun (p_p : Addr) w1 =>
  ∀ w2, Ext w1 w2 → w2.heap = w1.heap →
  LD [.sl] (p_p.add 3) w2 fun (x8 : Sl) =>
  Calls Tryz.prog F.s_l1Least #[.int .i64 a, .int .i64 b] w2 (Ret [.at (.int .i64)] fun (x11 : Int) w3 =>
  Ext w2 w3 ∧ (
  Calls Tryz.prog F.s_l1Most #[.int .i64 a, .int .i64 b] w3 (Ret [.at (.int .i64)] fun (x14 : Int) w4 =>
  Ext w2 w4 ∧ (
  RUN Tryz.prog (.at .sl) (Instr.buildSlice T.t_sl_int 2 #[(0, .int .i64 x11), (1, .int .i64 x14)]) w4 fun (x15 : Sl) w5 =>
  Ext w2 w5 ∧ (
  Calls Tryz.prog F.s_prHas #[x8.v, x15.v] w5 (Ret [.at .bool] fun (x16 : Bool) w6 =>
  Ext w2 w6 ∧ (
  Q x16 w6)))))))

theorem C_s_prEdge {Q : Bool → World → Prop} {p_0 : Int} {p_1 : Int} {p_2 : Sl} {p_3 : Sl} {a : Int} {b : Int} {w : World} (h : V_s_prEdge Q p_0 p_1 p_2 p_3 a b w) : Calls Tryz.prog F.s_prEdge #[.agg #[.int .i64 p_0, .int .i64 p_1, p_2.v, p_3.v], .int .i64 a, .int .i64 b] w (Ret [.at .bool] Q) :=
  mkC (hint := hint) (ann := annOf []) (args := [.agg #[.int .i64 p_0, .int .i64 p_1, p_2.v, p_3.v], .int .i64 a, .int .i64 b]) (rs := [.at .bool]) Tryz.func207 (by kernel_rfl) (by kernel_rfl) h

def V_s_elEdge (Q : Int → Int → Sl → Sl → Sl → Bool → World → Prop) (p_0 : Int) (p_1 : Int) (p_2 : Sl) (p_3 : Sl) (w : World) : Prop :=
  NEW T.t_i_Problem #[.int .i64 p_0, .int .i64 p_1, p_2.v, p_3.v] w fun (p_p : Addr) w1 =>
  NEW T.t_i_Problem #[.int .i64 0, .int .i64 0, .slice none 0 0, .slice none 0 0] w1 fun (px2 : Addr) w2 =>
  ∃ (I3 : Sl → Int → World → Prop) (m3 : Sl → Int → World → Nat), I3 (⟨none, 0, 0⟩) 1 w2 ∧ ∀ (full : Sl) (set1 : Int) w3, I3 full set1 w3 → ∀ _ _ _ _ _ _ _ _ _ _ _ _ _ _ _ _ _ _ _ _ _ _ _ _ _ _ : Value,
  LD [.int .i64] (p_p.add 0) w3 fun (x10 : Int) =>
  (0 : Int) ≤ x10 ∧ (
  cond (decide ((set1 : Int) < (shlI .i64 1 x10))) (
  LD [.int .i64, .int .i64, .sl, .sl] p_p w3 fun (x15_0 : Int) (x15_1 : Int) (x15_2 : Sl) (x15_3 : Sl) =>
  Calls Tryz.prog F.s_elNear #[.agg #[.int .i64 x15_0, .int .i64 x15_1, x15_2.v, x15_3.v], .int .i64 set1] w3 (Ret [.at (.int .i64)] fun (x17 : Int) w4 =>
  cond (decide ((x17 : Int) > 0)) (
  LD [.int .i64, .int .i64, .sl, .sl] p_p w4 fun (x21_0 : Int) (x21_1 : Int) (x21_2 : Sl) (x21_3 : Sl) =>
  Calls Tryz.prog F.s_elNear #[.agg #[.int .i64 x21_0, .int .i64 x21_1, x21_2.v, x21_3.v], .int .i64 x17] w4 (Ret [.at (.int .i64)] fun (x23 : Int) w5 =>
  cond ((x23 : Int) == set1) (
  RUN Tryz.prog (.at .sl) (Instr.buildSlice T.t_sl_int 2 #[(0, .int .i64 set1), (1, .int .i64 x17)]) w5 fun (x30 : Sl) w6 =>
  RUN Tryz.prog (.at .sl) (Instr.buildSlice T.t_sl_sl_int 1 #[(0, x30.v)]) w6 fun (x31 : Sl) w7 =>
  RUN Tryz.prog (.at .sl) (bsem .append #[T.t_sl_sl_int, T.t_sl_sl_int] T.t_sl_sl_int #[full.v, x31.v]) w7 fun (x32 : Sl) w8 =>
  I3 x32 (IntKind.i64.wrap (set1 + 1)) w8 ∧ m3 x32 (IntKind.i64.wrap (set1 + 1)) w8 < m3 full set1 w3) (
  I3 full (IntKind.i64.wrap (set1 + 1)) w5 ∧ m3 full (IntKind.i64.wrap (set1 + 1)) w5 < m3 full set1 w3))) (
  I3 full (IntKind.i64.wrap (set1 + 1)) w4 ∧ m3 full (IntKind.i64.wrap (set1 + 1)) w4 < m3 full set1 w3))) (
  LD [.int .i64, .int .i64, .sl, .sl] p_p w3 fun (x33_0 : Int) (x33_1 : Int) (x33_2 : Sl) (x33_3 : Sl) =>
  Calls Tryz.prog F.s_elMade #[.agg #[.int .i64 x33_0, .int .i64 x33_1, x33_2.v, x33_3.v], full.v, .bool true] w3 (Ret [.agg [.int .i64, .int .i64, .sl, .sl], .at .sl, .at .bool] fun (x35_0_0 : Int) (x35_0_1 : Int) (x35_0_2 : Sl) (x35_0_3 : Sl) (x35_1 : Sl) (x35_2 : Bool) w9 =>
  ST px2 0 [.int .i64 x35_0_0, .int .i64 x35_0_1, x35_0_2.v, x35_0_3.v] w9 fun w10 =>
  LD [.int .i64, .int .i64, .sl, .sl] px2 w10 fun (r0_0 : Int) (r0_1 : Int) (r0_2 : Sl) (r0_3 : Sl) =>
  Q r0_0 r0_1 r0_2 r0_3 x35_1 x35_2 w10)))

theorem C_s_elEdge {Q : Int → Int → Sl → Sl → Sl → Bool → World → Prop} {p_0 : Int} {p_1 : Int} {p_2 : Sl} {p_3 : Sl} {w : World} (h : V_s_elEdge Q p_0 p_1 p_2 p_3 w) : Calls Tryz.prog F.s_elEdge #[.agg #[.int .i64 p_0, .int .i64 p_1, p_2.v, p_3.v]] w (Ret [.agg [.int .i64, .int .i64, .sl, .sl], .at .sl, .at .bool] Q) :=
  mkC (hint := hint) (ann := annOf [(3, ⟨[(5, .sl), (6, .int .i64)], [7, 8, 9, 10, 11, 12, 13, 14, 15, 16, 17, 18, 19, 20, 21, 22, 23, 24, 25, 26, 27, 28, 29, 30, 31, 32]⟩)]) (args := [.agg #[.int .i64 p_0, .int .i64 p_1, p_2.v, p_3.v]]) (rs := [.agg [.int .i64, .int .i64, .sl, .sl], .at .sl, .at .bool]) Tryz.func208 (by kernel_rfl) (by kernel_rfl) h

def V_s_elTabled_k4 (Q : Int → Int → Sl → Sl → Sl → World → Prop) (p_p : Addr) (px2 : Addr) (x : Addr) (w11 : World) : Prop :=
  LD [.sl] (x.add 4) w11 fun (x24 : Sl) =>
  ∃ (I8 : Int → World → Prop) (m8 : Int → World → Nat), I8 0 w11 ∧ ∀ (x26 : Int) w12, I8 x26 w12 → ∀ _ _ _ _ _ _ _ _ _ _ _ _ _ _ _ _ _ _ _ _ _ _ _ _ _ _ _ _ _ _ : Value,
  cond (decide ((x26 : Int) < x24.len)) (
  ∃ (I12 : Sl → Int → World → Prop) (m12 : Sl → Int → World → Nat), I12 (⟨none, 0, 0⟩) x26 w12 ∧ ∀ (l : Sl) (rest : Int) w13, I12 l rest w13 → ∀ _ _ _ _ _ _ _ _ _ _ _ _ _ _ _ _ : Value,
  LD [.int .i64] (p_p.add 1) w13 fun (x33 : Int) =>
  cond (decide ((l.len : Int) < x33)) (
  LD [.int .i64] (p_p.add 0) w13 fun (x42 : Int) =>
  (x42 : Int) ≠ 0 ∧ (
  RUN Tryz.prog (.at .sl) (Instr.buildSlice T.t_sl_int 1 #[(0, .int .i64 (Int.tmod rest x42))]) w13 fun (x44 : Sl) w14 =>
  RUN Tryz.prog (.at .sl) (bsem .append #[T.t_sl_int, T.t_sl_int] T.t_sl_int #[l.v, x44.v]) w14 fun (x45 : Sl) w15 =>
  LD [.int .i64] (p_p.add 0) w15 fun (x37 : Int) =>
  (x37 : Int) ≠ 0 ∧ (
  I12 x45 (IntKind.i64.wrap (Int.tdiv rest x37)) w15 ∧ m12 x45 (IntKind.i64.wrap (Int.tdiv rest x37)) w15 < m12 l rest w13))) (
  ∀ w16, Ext w13 w16 → w16.heap = w13.heap → ∃ (D16 : Nat → Prop),
  ¬ D16 (x.add 4).block ∧ (
  LD [.sl] (x.add 4) w16 fun (x47 : Sl) =>
  ¬ D16 p_p.block ∧ (
  LD [.int .i64, .int .i64, .sl, .sl] p_p w16 fun (x49_0 : Int) (x49_1 : Int) (x49_2 : Sl) (x49_3 : Sl) =>
  Chg w16 w16 D16 ∧ (
  Calls Tryz.prog F.s_prNode #[.agg #[.int .i64 x49_0, .int .i64 x49_1, x49_2.v, x49_3.v], l.v] w16 (Ret [.at .bool] fun (x51 : Bool) w17 =>
  Chg w16 w17 D16 ∧ (
  IX x47 x26 1 fun (px52 : Addr) =>
  ST px52 0 [.bool x51] w17 fun w18 =>
  I8 (IntKind.i64.wrap (x26 + 1)) w18 ∧ m8 (IntKind.i64.wrap (x26 + 1)) w18 < m8 x26 w12))))))) (
  LD [.int .i64, .int .i64, .sl, .sl, .sl] x w12 fun (x54_0 : Int) (x54_1 : Int) (x54_2 : Sl) (x54_3 : Sl) (x54_4 : Sl) =>
  ST px2 0 [.int .i64 x54_0, .int .i64 x54_1, x54_2.v, x54_3.v, x54_4.v] w12 fun w19 =>
  LD [.int .i64, .int .i64, .sl, .sl, .sl] px2 w19 fun (r0_0 : Int) (r0_1 : Int) (r0_2 : Sl) (r0_3 : Sl) (r0_4 : Sl) =>
  Q r0_0 r0_1 r0_2 r0_3 r0_4 w19)

def V_s_elTabled (Q : Int → Int → Sl → Sl → Sl → World → Prop) (p_0 : Int) (p_1 : Int) (p_2 : Sl) (p_3 : Sl) (w : World) : Prop :=
  NEW T.t_i_Problem #[.int .i64 p_0, .int .i64 p_1, p_2.v, p_3.v] w fun (p_p : Addr) w1 =>
  NEW T.t_s_elTable #[.int .i64 0, .int .i64 0, .slice none 0 0, .slice none 0 0, .slice none 0 0] w1 fun (px2 : Addr) w2 =>
  ∃ (I3 : Int → Int → World → Prop) (m3 : Int → Int → World → Nat), I3 1 0 w2 ∧ ∀ (size1 : Int) (k : Int) w3, I3 size1 k w3 → ∀ _ _ _ _ _ _ _ _ _ _ : Value,
  LD [.int .i64] (p_p.add 1) w3 fun (x11 : Int) =>
  cond (decide ((k : Int) < x11)) (
  LD [.int .i64] (p_p.add 0) w3 fun (x17 : Int) =>
  I3 (IntKind.i64.wrap (size1 * x17)) (IntKind.i64.wrap (k + 1)) w3 ∧ m3 (IntKind.i64.wrap (size1 * x17)) (IntKind.i64.wrap (k + 1)) w3 < m3 size1 k w3) (
  ∀ w4, Ext w3 w4 → w4.heap = w3.heap → ∃ (D4 : Nat → Prop),
  ¬ D4 p_p.block ∧ (
  LD [.int .i64, .int .i64, .sl, .sl] p_p w4 fun (x19_0 : Int) (x19_1 : Int) (x19_2 : Sl) (x19_3 : Sl) =>
  (
  RUN Tryz.prog (.at .sl) (Instr.makeSlice T.t_sl_bool (.int .i64 size1) (.int .i64 size1)) w4 fun (x21 : Sl) w5 =>
  Chg w4 w5 D4 ∧ (
  NEW T.t_s_elTable #[.int .i64 0, .int .i64 0, .slice none 0 0, .slice none 0 0, .slice none 0 0] w5 fun (px : Addr) w6 =>
  Chg w4 w6 D4 ∧ (
  ST px 0 [.int .i64 x19_0, .int .i64 x19_1, x19_2.v, x19_3.v, x21.v] w6 fun w7 =>
  Chg w4 w7 D4 ∧ (
  V_s_elTabled_k4 Q p_p px2 px w7)))) ∧ (
  NEW T.t_s_elTable #[.int .i64 0, .int .i64 0, .slice none 0 0, .slice none 0 0, .slice none 0 0] w4 fun (px_2 : Addr) w8 =>
  Chg w4 w8 D4 ∧ (
  RUN Tryz.prog (.at .sl) (Instr.makeSlice T.t_sl_bool (.int .i64 size1) (.int .i64 size1)) w8 fun (x21_2 : Sl) w9 =>
  Chg w4 w9 D4 ∧ (
  Chg w4 w9 D4 ∧ (
  ST px_2 0 [.int .i64 x19_0, .int .i64 x19_1, x19_2.v, x19_3.v, x21_2.v] w9 fun w10 =>
  Chg w4 w10 D4 ∧ (
  V_s_elTabled_k4 Q p_p px2 px_2 w10)))))))

theorem C_s_elTabled {Q : Int → Int → Sl → Sl → Sl → World → Prop} {p_0 : Int} {p_1 : Int} {p_2 : Sl} {p_3 : Sl} {w : World} (h : V_s_elTabled Q p_0 p_1 p_2 p_3 w) : Calls Tryz.prog F.s_elTabled #[.agg #[.int .i64 p_0, .int .i64 p_1, p_2.v, p_3.v]] w (Ret [.agg [.int .i64, .int .i64, .sl, .sl, .sl]] Q) :=
  mkC (hint := hint) (ann := annOf [(3, ⟨[(3, .int .i64), (4, .int .i64)], [9, 10, 11, 12, 13, 14, 15, 16, 17, 18]⟩), (8, ⟨[(26, .int .i64)], [6, 7, 8, 27, 28, 29, 30, 31, 32, 33, 34, 35, 36, 37, 38, 39, 40, 41, 42, 43, 44, 45, 46, 47, 48, 49, 50, 51, 52, 53]⟩), (12, ⟨[(7, .sl), (8, .int .i64)], [30, 31, 32, 33, 34, 35, 36, 37, 38, 39, 40, 41, 42, 43, 44, 45]⟩)]) (args := [.agg #[.int .i64 p_0, .int .i64 p_1, p_2.v, p_3.v]]) (rs := [.agg [.int .i64, .int .i64, .sl, .sl, .sl]]) Tryz.func209 (by kernel_rfl) (by kernel_rfl) h

def V_s_reChoices_k7 (I7 : Sl → Int → World → Prop) (m7 : Sl → Int → World → Nat) (x20 : Int) (w3 : World) (labels : Int) (next1 : Sl) (x23 : Sl) (from1 : Int) (w4 : World) : Prop :=
  ∃ (I13 : Sl → Int → World → Prop) (m13 : Sl → Int → World → Nat), I13 next1 from1 w4 ∧ ∀ (next1_2 : Sl) (a : Int) w5, I13 next1_2 a w5 → ∀ _ _ _ _ _ _ _ _ _ _ _ _ _ : Value,
  cond (decide ((a : Int) < labels)) (
  Calls Tryz.prog F.s_l1Own #[x23.v] w5 (Ret [.at .sl] fun (x39 : Sl) w6 =>
  RUN Tryz.prog (.at .sl) (Instr.buildSlice T.t_sl_int 1 #[(0, .int .i64 a)]) w6 fun (x41 : Sl) w7 =>
  RUN Tryz.prog (.at .sl) (bsem .append #[T.t_sl_int, T.t_sl_int] T.t_sl_int #[x39.v, x41.v]) w7 fun (x42 : Sl) w8 =>
  RUN Tryz.prog (.at .sl) (Instr.buildSlice T.t_sl_sl_int 1 #[(0, x42.v)]) w8 fun (x43 : Sl) w9 =>
  RUN Tryz.prog (.at .sl) (bsem .append #[T.t_sl_sl_int, T.t_sl_sl_int] T.t_sl_sl_int #[next1_2.v, x43.v]) w9 fun (x44 : Sl) w10 =>
  I13 x44 (IntKind.i64.wrap (a + 1)) w10 ∧ m13 x44 (IntKind.i64.wrap (a + 1)) w10 < m13 next1_2 a w5)) (
  I7 next1_2 (IntKind.i64.wrap (x20 + 1)) w5 ∧ m7 next1_2 (IntKind.i64.wrap (x20 + 1)) w5 < m7 next1 x20 w3)

def V_s_reChoices (Q : Sl → World → Prop) (labels : Int) (size1 : Int) (w : World) : Prop :=
  RUN Tryz.prog (.at .sl) (Instr.buildSlice T.t_sl_sl_int 1 #[(0, .slice none 0 0)]) w fun (x12 : Sl) w1 =>
  ∃ (I3 : Sl → Int → World → Prop) (m3 : Sl → Int → World → Nat), I3 x12 0 w1 ∧ ∀ (out : Sl) (k : Int) w2, I3 out k w2 → ∀ _ _ _ _ _ _ _ _ _ _ _ _ _ _ _ _ _ _ _ _ _ _ _ _ _ _ _ _ _ _ _ _ _ _ _ _ _ _ : Value,
  cond (decide ((k : Int) < size1)) (
  ∃ (I7 : Sl → Int → World → Prop) (m7 : Sl → Int → World → Nat), I7 (⟨none, 0, 0⟩) 0 w2 ∧ ∀ (next1 : Sl) (x20 : Int) w3, I7 next1 x20 w3 → ∀ _ _ _ _ _ _ _ _ _ _ _ _ _ _ _ _ _ _ _ _ _ _ _ _ _ _ _ _ : Value,
  cond (decide ((x20 : Int) < out.len)) (
  IX out x20 1 fun (px22 : Addr) =>
  LD [.sl] px22 w3 fun (x23 : Sl) =>
  cond (decide ((k : Int) > 0)) (
  IX x23 (IntKind.i64.wrap (k - 1)) 1 fun (px29 : Addr) =>
  LD [.int .i64] px29 w3 fun (x30 : Int) =>
  V_s_reChoices_k7 I7 m7 x20 w3 labels next1 x23 x30 w3) (
  V_s_reChoices_k7 I7 m7 x20 w3 labels next1 x23 0 w3)) (
  I3 next1 (IntKind.i64.wrap (k + 1)) w3 ∧ m3 next1 (IntKind.i64.wrap (k + 1)) w3 < m3 out k w2)) (
  Q out w2)

theorem C_s_reChoices {Q : Sl → World → Prop} {labels : Int} {size1 : Int} {w : World} (h : V_s_reChoices Q labels size1 w) : Calls Tryz.prog F.s_reChoices #[.int .i64 labels, .int .i64 size1] w (Ret [.at .sl] Q) :=
  mkC (hint := hint) (ann := annOf [(3, ⟨[(5, .sl), (6, .int .i64)], [7, 9, 10, 11, 13, 14, 15, 16, 17, 18, 19, 20, 21, 22, 23, 24, 25, 26, 27, 28, 29, 30, 31, 32, 33, 34, 35, 36, 37, 38, 39, 40, 41, 42, 43, 44, 45, 46]⟩), (7, ⟨[(7, .sl), (20, .int .i64)], [9, 10, 11, 21, 22, 23, 24, 25, 26, 27, 28, 29, 30, 31, 32, 33, 34, 35, 36, 37, 38, 39, 40, 41, 42, 43, 44, 45]⟩), (13, ⟨[(7, .sl), (11, .int .i64)], [32, 33, 34, 35, 36, 37, 38, 39, 40, 41, 42, 43, 44]⟩)]) (args := [.int .i64 labels, .int .i64 size1]) (rs := [.at .sl]) Tryz.func210 (by kernel_rfl) (by kernel_rfl) h

def V_s_elTable_rest (Q : Int → World → Prop) (x0_0 : Int) (x0_1 : Int) (x0_2 : Sl) (x0_3 : Sl) (x0_4 : Sl) (x1 : Sl) (x2 : Int) (w : World) : Prop :=
  NEW T.t_s_elTable #[.int .i64 x0_0, .int .i64 x0_1, x0_2.v, x0_3.v, x0_4.v] w fun (px3 : Addr) w1 =>
  cond ((x1.len : Int) == 0) (
  ∃ (I4 : Int → Int → World → Prop) (m4 : Int → Int → World → Nat), I4 0 0 w1 ∧ ∀ (x7 : Int) (x8 : Int) w2, I4 x7 x8 w2 → ∀ _ _ _ _ _ _ _ _ _ _ _ _ _ _ _ _ _ _ _ _ _ _ : Value,
  LD [.int .i64] ((px3.add 0).add 0) w2 fun (x18 : Int) =>
  cond (decide ((x8 : Int) < x18)) (
  LD [.sl] (px3.add 4) w2 fun (x23 : Sl) =>
  LD [.int .i64] ((px3.add 0).add 0) w2 fun (x27 : Int) =>
  IX x23 (IntKind.i64.wrap ((IntKind.i64.wrap (x2 * x27)) + x8)) 1 fun (px31 : Addr) =>
  LD [.bool] px31 w2 fun (x32 : Bool) =>
  cond x32 (
  (0 : Int) ≤ x8 ∧ (
  I4 (IntKind.i64.wrap (x7 + (shlI .i64 1 x8))) (IntKind.i64.wrap (x8 + 1)) w2 ∧ m4 (IntKind.i64.wrap (x7 + (shlI .i64 1 x8))) (IntKind.i64.wrap (x8 + 1)) w2 < m4 x7 x8 w2)) (
  I4 x7 (IntKind.i64.wrap (x8 + 1)) w2 ∧ m4 x7 (IntKind.i64.wrap (x8 + 1)) w2 < m4 x7 x8 w2)) (
  Q x7 w2)) (
  LD [.int .i64] ((px3.add 0).add 0) w1 fun (x40 : Int) =>
  (0 : Int) ≤ x40 ∧ (
  IX x1 0 1 fun (px44 : Addr) =>
  LD [.int .i64] px44 w1 fun (x45 : Int) =>
  Calls Tryz.prog F.s_elLabels #[.int .i64 x45] w1 (Ret [.at .sl] fun (x46 : Sl) w3 =>
  ∃ (I11 : Int → Int → World → Prop) (m11 : Int → Int → World → Nat), I11 (IntKind.i64.wrap ((shlI .i64 1 x40) - 1)) 0 w3 ∧ ∀ (x9 : Int) (x48 : Int) w4, I11 x9 x48 w4 → ∀ _ _ _ _ _ _ _ _ _ _ _ _ _ _ _ _ _ _ _ _ : Value,
  cond (decide ((x48 : Int) < x46.len)) (
  IX x46 x48 1 fun (px50 : Addr) =>
  LD [.int .i64] px50 w4 fun (x51 : Int) =>
  cond (decide ((x9 : Int) > 0)) (
  LD [.int .i64, .int .i64, .sl, .sl, .sl] px3 w4 fun (x55_0 : Int) (x55_1 : Int) (x55_2 : Sl) (x55_3 : Sl) (x55_4 : Sl) =>
  SLC x1 (some 1) none 1 fun (x57 : Sl) =>
  LD [.int .i64] ((px3.add 0).add 0) w4 fun (x61 : Int) =>
  QCALL Tryz.prog F.s_elTable_rest #[.agg #[.int .i64 x55_0, .int .i64 x55_1, x55_2.v, x55_3.v, x55_4.v], x57.v, .int .i64 (IntKind.i64.wrap ((IntKind.i64.wrap (x2 * x61)) + x51))] w4 [.at (.int .i64)] fun (x65 : Int) =>
  ∀ w5, Ext w4 w5 →
  I11 (bitAnd .i64 x9 x65) (IntKind.i64.wrap (x48 + 1)) w5 ∧ m11 (bitAnd .i64 x9 x65) (IntKind.i64.wrap (x48 + 1)) w5 < m11 x9 x48 w4) (
  I11 x9 (IntKind.i64.wrap (x48 + 1)) w4 ∧ m11 x9 (IntKind.i64.wrap (x48 + 1)) w4 < m11 x9 x48 w4)) (
  Q x9 w4))))

theorem C_s_elTable_rest {Q : Int → World → Prop} {x0_0 : Int} {x0_1 : Int} {x0_2 : Sl} {x0_3 : Sl} {x0_4 : Sl} {x1 : Sl} {x2 : Int} {w : World} (h : V_s_elTable_rest Q x0_0 x0_1 x0_2 x0_3 x0_4 x1 x2 w) : Calls Tryz.prog F.s_elTable_rest #[.agg #[.int .i64 x0_0, .int .i64 x0_1, x0_2.v, x0_3.v, x0_4.v], x1.v, .int .i64 x2] w (Ret [.at (.int .i64)] Q) :=
  mkC (hint := hint) (ann := annOf [(4, ⟨[(7, .int .i64), (8, .int .i64)], [15, 16, 17, 18, 19, 20, 21, 22, 23, 24, 25, 26, 27, 28, 29, 30, 31, 32, 33, 34, 35, 36]⟩), (11, ⟨[(9, .int .i64), (48, .int .i64)], [11, 49, 50, 51, 52, 53, 54, 55, 56, 57, 58, 59, 60, 61, 62, 63, 64, 65, 66, 67]⟩)]) (args := [.agg #[.int .i64 x0_0, .int .i64 x0_1, x0_2.v, x0_3.v, x0_4.v], x1.v, .int .i64 x2]) (rs := [.at (.int .i64)]) Tryz.func211 (by kernel_rfl) (by kernel_rfl) h

def V_s_elTable_full (Q : Bool → World → Prop) (x_0 : Int) (x_1 : Int) (x_2 : Sl) (x_3 : Sl) (x_4 : Sl) (sets : Sl) (w : World) : Prop :=
  NEW T.t_s_elTable #[.int .i64 x_0, .int .i64 x_1, x_2.v, x_3.v, x_4.v] w fun (px : Addr) w1 =>
  ∃ (I2 : Int → World → Prop) (m2 : Int → World → Nat), I2 0 w1 ∧ ∀ (x10 : Int) w2, I2 x10 w2 → ∀ _ _ _ _ _ _ _ _ _ _ _ _ _ _ _ _ _ _ _ _ _ _ _ : Value,
  cond (decide ((x10 : Int) < sets.len)) (
  IX sets x10 1 fun (px13 : Addr) =>
  LD [.int .i64] px13 w2 fun (x14 : Int) =>
  ∀ w3, Ext w2 w3 → w3.heap = w2.heap → ∃ (D3 : Nat → Prop),
  SLC sets none (some x10) 1 fun (x17 : Sl) =>
  SLC sets (some (IntKind.i64.wrap (x10 + 1))) none 1 fun (x22 : Sl) =>
  Calls Tryz.prog F.s_l1Own #[x17.v] w3 (Ret [.at .sl] fun (x18 : Sl) w4 =>
  Chg w3 w4 D3 ∧ (
  RUN Tryz.prog (.at .sl) (bsem .append #[T.t_sl_int, T.t_sl_int] T.t_sl_int #[x18.v, x22.v]) w4 fun (x23 : Sl) w5 =>
  Chg w3 w5 D3 ∧ (
  LD [.int .i64, .int .i64, .sl, .sl, .sl] px w5 fun (x24_0 : Int) (x24_1 : Int) (x24_2 : Sl) (x24_3 : Sl) (x24_4 : Sl) =>
  Calls Tryz.prog F.s_elTable_rest #[.agg #[.int .i64 x24_0, .int .i64 x24_1, x24_2.v, x24_3.v, x24_4.v], x23.v, .int .i64 0] w5 (Ret [.at (.int .i64)] fun (x26 : Int) w6 =>
  cond ((x26 : Int) != x14) (
  Q false w6) (
  I2 (IntKind.i64.wrap (x10 + 1)) w6 ∧ m2 (IntKind.i64.wrap (x10 + 1)) w6 < m2 x10 w2)))))) (
  Q true w2)

theorem C_s_elTable_full {Q : Bool → World → Prop} {x_0 : Int} {x_1 : Int} {x_2 : Sl} {x_3 : Sl} {x_4 : Sl} {sets : Sl} {w : World} (h : V_s_elTable_full Q x_0 x_1 x_2 x_3 x_4 sets w) : Calls Tryz.prog F.s_elTable_full #[.agg #[.int .i64 x_0, .int .i64 x_1, x_2.v, x_3.v, x_4.v], sets.v] w (Ret [.at .bool] Q) :=
  mkC (hint := hint) (ann := annOf [(2, ⟨[(10, .int .i64)], [4, 5, 6, 7, 11, 12, 13, 14, 15, 16, 17, 18, 19, 20, 21, 22, 23, 24, 25, 26, 27, 28, 29]⟩)]) (args := [.agg #[.int .i64 x_0, .int .i64 x_1, x_2.v, x_3.v, x_4.v], sets.v]) (rs := [.at .bool]) Tryz.func212 (by kernel_rfl) (by kernel_rfl) h

def V_s_elMade (Q : Int → Int → Sl → Sl → Sl → Bool → World → Prop) (x0_0 : Int) (x0_1 : Int) (x0_2 : Sl) (x0_3 : Sl) (x1 : Sl) (x2 : Bool) (w : World) : Prop :=
  NEW T.t_i_Problem #[.int .i64 x0_0, .int .i64 x0_1, x0_2.v, x0_3.v] w fun (px3 : Addr) w1 =>
  NEW T.t_i_Problem #[.int .i64 0, .int .i64 0, .slice none 0 0, .slice none 0 0] w1 fun (px6 : Addr) w2 =>
  ∃ (I3 : Sl → Int → World → Prop) (m3 : Sl → Int → World → Nat), I3 (⟨none, 0, 0⟩) 0 w2 ∧ ∀ (x9 : Sl) (x20 : Int) w3, I3 x9 x20 w3 → ∀ _ _ _ _ _ _ _ _ _ _ _ _ _ _ _ _ : Value,
  cond (decide ((x20 : Int) < x1.len)) (
  IX x1 x20 1 fun (px22 : Addr) =>
  LD [.sl] px22 w3 fun (x23 : Sl) =>
  ∃ (I6 : Sl → Int → World → Prop) (m6 : Sl → Int → World → Nat), I6 x9 0 w3 ∧ ∀ (x9_2 : Sl) (x26 : Int) w4, I6 x9_2 x26 w4 → ∀ _ _ _ _ _ _ _ _ : Value,
  cond (decide ((x26 : Int) < x23.len)) (
  IX x23 x26 1 fun (px28 : Addr) =>
  LD [.int .i64] px28 w4 fun (x29 : Int) =>
  Calls Tryz.prog F.s_l1Put #[x9_2.v, .int .i64 x29] w4 (Ret [.at .sl] fun (x32 : Sl) w5 =>
  I6 x32 (IntKind.i64.wrap (x26 + 1)) w5 ∧ m6 x32 (IntKind.i64.wrap (x26 + 1)) w5 < m6 x9_2 x26 w4)) (
  I3 x9_2 (IntKind.i64.wrap (x20 + 1)) w4 ∧ m3 x9_2 (IntKind.i64.wrap (x20 + 1)) w4 < m3 x9 x20 w3)) (
  Calls Tryz.prog F.s_l1In #[.int .i64 x9.len, .int .i64 1, .int .i64 8] w3 (Ret [.at .bool] fun (x37 : Bool) w6 =>
  cond (!x37) (
  ST px6 0 [.int .i64 0, .int .i64 0, .slice none 0 0, .slice none 0 0] w6 fun w7 =>
  LD [.int .i64, .int .i64, .sl, .sl] px6 w7 fun (r0_0 : Int) (r0_1 : Int) (r0_2 : Sl) (r0_3 : Sl) =>
  Q r0_0 r0_1 r0_2 r0_3 (⟨none, 0, 0⟩) false w7) (
  LD [.int .i64] (px3.add 1) w6 fun (x43 : Int) =>
  NEW T.t_i_Problem #[.int .i64 0, .int .i64 0, .slice none 0 0, .slice none 0 0] w6 fun (px14 : Addr) w8 =>
  ST px14 0 [.int .i64 x9.len, .int .i64 x43, .slice none 0 0, .slice none 0 0] w8 fun w9 =>
  ∃ (I16 : Sl → Int → World → Prop) (m16 : Sl → Int → World → Nat), I16 (⟨none, 0, 0⟩) 0 w9 ∧ ∀ (x15 : Sl) (x47 : Int) w10, I16 x15 x47 w10 → ∀ _ _ _ _ _ _ _ _ _ _ : Value,
  cond (decide ((x47 : Int) < x1.len)) (
  IX x1 x47 1 fun (px49 : Addr) =>
  LD [.sl] px49 w10 fun (x50 : Sl) =>
  Calls Tryz.prog F.s_elNumbers #[x9.v, x50.v] w10 (Ret [.at .sl] fun (x54 : Sl) w11 =>
  Calls Tryz.prog F.s_prInsert #[x15.v, x54.v] w11 (Ret [.at .sl] fun (x55 : Sl) w12 =>
  I16 x55 (IntKind.i64.wrap (x47 + 1)) w12 ∧ m16 x55 (IntKind.i64.wrap (x47 + 1)) w12 < m16 x15 x47 w10))) (
  cond x2 (
  ST (px14.add 3) 0 [x15.v] w10 fun w13 =>
  LD [.sl] (px3.add 2) w13 fun (x61 : Sl) =>
  LD [.int .i64] (px3.add 1) w13 fun (x64 : Int) =>
  Calls Tryz.prog F.s_elSome #[x61.v, x9.v, .int .i64 x64] w13 (Ret [.at .sl] fun (x65 : Sl) w14 =>
  ST (px14.add 2) 0 [x65.v] w14 fun w15 =>
  LD [.int .i64, .int .i64, .sl, .sl] px14 w15 fun (x74_0 : Int) (x74_1 : Int) (x74_2 : Sl) (x74_3 : Sl) =>
  ST px6 0 [.int .i64 x74_0, .int .i64 x74_1, x74_2.v, x74_3.v] w15 fun w19 =>
  LD [.int .i64, .int .i64, .sl, .sl] px6 w19 fun (r0_0_2 : Int) (r0_1_2 : Int) (r0_2_2 : Sl) (r0_3_2 : Sl) =>
  Q r0_0_2 r0_1_2 r0_2_2 r0_3_2 x9 true w19)) (
  ST (px14.add 2) 0 [x15.v] w10 fun w16 =>
  LD [.sl] (px3.add 3) w16 fun (x70 : Sl) =>
  Calls Tryz.prog F.s_elSome #[x70.v, x9.v, .int .i64 2] w16 (Ret [.at .sl] fun (x72 : Sl) w17 =>
  ST (px14.add 3) 0 [x72.v] w17 fun w18 =>
  LD [.int .i64, .int .i64, .sl, .sl] px14 w18 fun (x74_0_2 : Int) (x74_1_2 : Int) (x74_2_2 : Sl) (x74_3_2 : Sl) =>
  ST px6 0 [.int .i64 x74_0_2, .int .i64 x74_1_2, x74_2_2.v, x74_3_2.v] w18 fun w20 =>
  LD [.int .i64, .int .i64, .sl, .sl] px6 w20 fun (r0_0_3 : Int) (r0_1_3 : Int) (r0_2_3 : Sl) (r0_3_3 : Sl) =>
  Q r0_0_3 r0_1_3 r0_2_3 r0_3_3 x9 true w20))))))

theorem C_s_elMade {Q : Int → Int → Sl → Sl → Sl → Bool → World → Prop} {x0_0 : Int} {x0_1 : Int} {x0_2 : Sl} {x0_3 : Sl} {x1 : Sl} {x2 : Bool} {w : World} (h : V_s_elMade Q x0_0 x0_1 x0_2 x0_3 x1 x2 w) : Calls Tryz.prog F.s_elMade #[.agg #[.int .i64 x0_0, .int .i64 x0_1, x0_2.v, x0_3.v], x1.v, .bool x2] w (Ret [.agg [.int .i64, .int .i64, .sl, .sl], .at .sl, .at .bool] Q) :=
  mkC (hint := hint) (ann := annOf [(3, ⟨[(9, .sl), (20, .int .i64)], [11, 13, 21, 22, 23, 24, 25, 26, 27, 28, 29, 30, 31, 32, 33, 34]⟩), (6, ⟨[(9, .sl), (26, .int .i64)], [13, 27, 28, 29, 30, 31, 32, 33]⟩), (16, ⟨[(15, .sl), (47, .int .i64)], [17, 48, 49, 50, 51, 52, 53, 54, 55, 56]⟩)]) (args := [.agg #[.int .i64 x0_0, .int .i64 x0_1, x0_2.v, x0_3.v], x1.v, .bool x2]) (rs := [.agg [.int .i64, .int .i64, .sl, .sl], .at .sl, .at .bool]) Tryz.func213 (by kernel_rfl) (by kernel_rfl) h

def V_s_prHas (Q : Bool → World → Prop) (l : Sl) (x : Sl) (w : World) : Prop :=
  ∃ (I2 : Int → World → Prop) (m2 : Int → World → Nat), I2 0 w ∧ ∀ (x9 : Int) w1, I2 x9 w1 → ∀ _ _ _ _ _ _ _ _ _ : Value,
  cond (decide ((x9 : Int) < l.len)) (
  IX l x9 1 fun (px11 : Addr) =>
  LD [.sl] px11 w1 fun (x12 : Sl) =>
  Calls Tryz.prog F.s_l1Same #[x.v, x12.v] w1 (Ret [.at .bool] fun (x15 : Bool) w2 =>
  cond x15 (
  Q true w2) (
  I2 (IntKind.i64.wrap (x9 + 1)) w2 ∧ m2 (IntKind.i64.wrap (x9 + 1)) w2 < m2 x9 w1))) (
  Q false w1)

theorem C_s_prHas {Q : Bool → World → Prop} {l : Sl} {x : Sl} {w : World} (h : V_s_prHas Q l x w) : Calls Tryz.prog F.s_prHas #[l.v, x.v] w (Ret [.at .bool] Q) :=
  mkC (hint := hint) (ann := annOf [(2, ⟨[(9, .int .i64)], [4, 6, 10, 11, 12, 13, 14, 15, 16]⟩)]) (args := [l.v, x.v]) (rs := [.at .bool]) Tryz.func214 (by kernel_rfl) (by kernel_rfl) h

def V_s_prSorted (Q : Sl → World → Prop) (l : Sl) (w : World) : Prop :=
  Calls Tryz.prog F.s_l1Own #[l.v] w (Ret [.at .sl] fun (x8 : Sl) w1 =>
  ∃ (I3 : Int → World → Prop) (m3 : Int → World → Nat), I3 0 w1 ∧ ∀ (x11 : Int) w2, I3 x11 w2 → ∀ _ _ _ _ _ _ _ _ _ _ _ _ _ _ _ _ _ _ _ _ _ _ _ _ _ _ _ _ _ _ _ _ _ _ _ _ _ _ _ _ : Value,
  cond (decide ((x11 : Int) < x8.len)) (
  ∃ (I6 : Int → World → Prop) (m6 : Int → World → Nat), I6 x11 w2 ∧ ∀ (k : Int) w3, I6 k w3 → ∀ _ _ _ _ _ _ _ _ _ _ _ _ _ _ _ _ _ _ _ _ _ _ _ _ _ _ _ _ _ _ _ _ _ _ : Value,
  cond (decide ((k : Int) > 0)) (
  IX x8 (IntKind.i64.wrap (k - 1)) 1 fun (px21 : Addr) =>
  LD [.int .i64] px21 w3 fun (x22 : Int) =>
  IX x8 k 1 fun (px25 : Addr) =>
  LD [.int .i64] px25 w3 fun (x26 : Int) =>
  ∀ w4, Ext w3 w4 →
  cond (decide ((x22 : Int) > x26)) (
  IX x8 k 1 fun (px33_2 : Addr) =>
  LD [.int .i64] px33_2 w4 fun (x34_2 : Int) =>
  IX x8 (IntKind.i64.wrap (k - 1)) 1 fun (px40_2 : Addr) =>
  LD [.int .i64] px40_2 w4 fun (x41_2 : Int) =>
  IX x8 k 1 fun (px42_2 : Addr) =>
  ST px42_2 0 [.int .i64 x41_2] w4 fun w8 =>
  IX x8 (IntKind.i64.wrap (k - 1)) 1 fun (px47_2 : Addr) =>
  ST px47_2 0 [.int .i64 x34_2] w8 fun w9 =>
  I6 (IntKind.i64.wrap (k - 1)) w9 ∧ m6 (IntKind.i64.wrap (k - 1)) w9 < m6 k w3) (
  I3 (IntKind.i64.wrap (x11 + 1)) w4 ∧ m3 (IntKind.i64.wrap (x11 + 1)) w4 < m3 x11 w2)) (
  ∀ w5, Ext w3 w5 →
  I3 (IntKind.i64.wrap (x11 + 1)) w5 ∧ m3 (IntKind.i64.wrap (x11 + 1)) w5 < m3 x11 w2)) (
  Q x8 w2))

theorem C_s_prSorted {Q : Sl → World → Prop} {l : Sl} {w : World} (h : V_s_prSorted Q l w) : Calls Tryz.prog F.s_prSorted #[l.v] w (Ret [.at .sl] Q) :=
  mkC (hint := hint) (ann := annOf [(3, ⟨[(11, .int .i64)], [4, 5, 6, 12, 13, 14, 15, 16, 17, 18, 19, 20, 21, 22, 23, 24, 25, 26, 27, 28, 29, 30, 31, 32, 33, 34, 35, 36, 37, 38, 39, 40, 41, 42, 43, 44, 45, 46, 47, 48]⟩), (6, ⟨[(5, .int .i64)], [6, 15, 16, 17, 18, 19, 20, 21, 22, 23, 24, 25, 26, 27, 28, 29, 30, 31, 32, 33, 34, 35, 36, 37, 38, 39, 40, 41, 42, 43, 44, 45, 46, 47]⟩)]) (args := [l.v]) (rs := [.at .sl]) Tryz.func215 (by kernel_rfl) (by kernel_rfl) h

def V_slices_IndexFunc_sl_i_Problem_i_Problem (Q : Int → World → Prop) (s : Sl) (f : Value) (w : World) : Prop :=
  ∃ (I2 : Int → World → Prop) (m2 : Int → World → Nat), I2 0 w ∧ ∀ (x8 : Int) w1, I2 x8 w1 → ∀ _ _ _ _ _ _ _ _ _ _ _ _ : Value,
  cond (decide ((x8 : Int) < s.len)) (
  IX s x8 4 fun (px14 : Addr) =>
  LD [.int .i64, .int .i64, .sl, .sl] px14 w1 fun (x15_0 : Int) (x15_1 : Int) (x15_2 : Sl) (x15_3 : Sl) =>
  CALLV Tryz.prog f #[.agg #[.int .i64 x15_0, .int .i64 x15_1, x15_2.v, x15_3.v]] w1 (Ret [.at .bool] fun (x16 : Bool) w2 =>
  cond x16 (
  Q x8 w2) (
  I2 (IntKind.i64.wrap (x8 + 1)) w2 ∧ m2 (IntKind.i64.wrap (x8 + 1)) w2 < m2 x8 w1))) (
  Q (-1) w1)

theorem C_slices_IndexFunc_sl_i_Problem_i_Problem {Q : Int → World → Prop} {s : Sl} {f : Value} {w : World} (h : V_slices_IndexFunc_sl_i_Problem_i_Problem Q s f w) : Calls Tryz.prog F.slices_IndexFunc_sl_i_Problem_i_Problem #[s.v, f] w (Ret [.at (.int .i64)] Q) :=
  mkC (hint := hint) (ann := annOf [(2, ⟨[(8, .int .i64)], [4, 5, 9, 10, 11, 12, 13, 14, 15, 16, 17, 18]⟩)]) (args := [s.v, f]) (rs := [.at (.int .i64)]) Tryz.func226 (by kernel_rfl) (by kernel_rfl) h

def V_i_configurationsOk (Q : Bool → World → Prop) (list : Sl) (size1 : Int) (labels : Int) (w : World) : Prop :=
  ∃ (I2 : Int → World → Prop) (m2 : Int → World → Nat), I2 0 w ∧ ∀ (x11 : Int) w1, I2 x11 w1 → ∀ _ _ _ _ _ _ _ _ _ _ _ _ _ _ _ _ _ _ _ _ _ _ _ _ _ _ _ _ _ _ _ _ _ _ _ _ _ _ : Value,
  cond (decide ((x11 : Int) < list.len)) (
  IX list x11 1 fun (px14 : Addr) =>
  LD [.sl] px14 w1 fun (x15 : Sl) =>
  cond ((x15.len : Int) != size1) (
  Q false w1) (
  Calls Tryz.prog F.slices_IsSorted_sl_int_int #[x15.v] w1 (Ret [.at .bool] fun (x22 : Bool) w2 =>
  cond (!x22) (
  Q false w2) (
  Calls Tryz.prog F.i_allWithin #[x15.v, .int .i64 0, .int .i64 (IntKind.i64.wrap (labels - 1))] w2 (Ret [.at .bool] fun (x29 : Bool) w3 =>
  cond (!x29) (
  Q false w3) (
  cond (decide ((x11 : Int) > 0)) (
  IX list (IntKind.i64.wrap (x11 - 1)) 1 fun (px39 : Addr) =>
  LD [.sl] px39 w3 fun (x40 : Sl) =>
  Calls Tryz.prog F.slices_Compare_sl_int_int #[x40.v, x15.v] w3 (Ret [.at (.int .i64)] fun (x42 : Int) w4 =>
  cond (decide ((x42 : Int) ≥ 0)) (
  Q false w4) (
  I2 (IntKind.i64.wrap (x11 + 1)) w4 ∧ m2 (IntKind.i64.wrap (x11 + 1)) w4 < m2 x11 w1))) (
  I2 (IntKind.i64.wrap (x11 + 1)) w3 ∧ m2 (IntKind.i64.wrap (x11 + 1)) w3 < m2 x11 w1))))))) (
  Q true w1)

theorem C_i_configurationsOk {Q : Bool → World → Prop} {list : Sl} {size1 : Int} {labels : Int} {w : World} (h : V_i_configurationsOk Q list size1 labels w) : Calls Tryz.prog F.i_configurationsOk #[list.v, .int .i64 size1, .int .i64 labels] w (Ret [.at .bool] Q) :=
  mkC (hint := hint) (ann := annOf [(2, ⟨[(11, .int .i64)], [6, 7, 8, 12, 13, 14, 15, 16, 17, 18, 19, 20, 21, 22, 23, 24, 25, 26, 27, 28, 29, 30, 31, 32, 33, 34, 35, 36, 37, 38, 39, 40, 41, 42, 43, 44, 45, 46]⟩)]) (args := [list.v, .int .i64 size1, .int .i64 labels]) (rs := [.at .bool]) Tryz.func227 (by kernel_rfl) (by kernel_rfl) h

def V_i_edgeStep (Q : Int → Int → Sl → Sl → Sl → Bool → World → Prop) (p_0 : Int) (p_1 : Int) (p_2 : Sl) (p_3 : Sl) (w : World) : Prop :=
  NEW T.t_i_Problem #[.int .i64 p_0, .int .i64 p_1, p_2.v, p_3.v] w fun (p_p : Addr) w1 =>
  NEW T.t_i_Problem #[.int .i64 0, .int .i64 0, .slice none 0 0, .slice none 0 0] w1 fun (px2 : Addr) w2 =>
  ∃ (I3 : Sl → Int → World → Prop) (m3 : Sl → Int → World → Nat), I3 (⟨none, 0, 0⟩) 1 w2 ∧ ∀ (full : Sl) (set1 : Int) w3, I3 full set1 w3 → ∀ _ _ _ _ _ _ _ _ _ _ _ _ _ _ _ _ _ _ _ _ _ _ _ _ _ _ : Value,
  LD [.int .i64] (p_p.add 0) w3 fun (x13 : Int) =>
  (0 : Int) ≤ x13 ∧ (
  cond (decide ((set1 : Int) < (shlI .i64 1 x13))) (
  LD [.int .i64, .int .i64, .sl, .sl] p_p w3 fun (x18_0 : Int) (x18_1 : Int) (x18_2 : Sl) (x18_3 : Sl) =>
  Calls Tryz.prog F.i_beside #[.agg #[.int .i64 x18_0, .int .i64 x18_1, x18_2.v, x18_3.v], .int .i64 set1] w3 (Ret [.at (.int .i64)] fun (x20 : Int) w4 =>
  cond ((x20 : Int) != 0) (
  LD [.int .i64, .int .i64, .sl, .sl] p_p w4 fun (x24_0 : Int) (x24_1 : Int) (x24_2 : Sl) (x24_3 : Sl) =>
  Calls Tryz.prog F.i_beside #[.agg #[.int .i64 x24_0, .int .i64 x24_1, x24_2.v, x24_3.v], .int .i64 x20] w4 (Ret [.at (.int .i64)] fun (x26 : Int) w5 =>
  cond ((x26 : Int) == set1) (
  RUN Tryz.prog (.at .sl) (Instr.buildSlice T.t_sl_int 2 #[(0, .int .i64 set1), (1, .int .i64 x20)]) w5 fun (x33 : Sl) w6 =>
  RUN Tryz.prog (.at .sl) (Instr.buildSlice T.t_sl_sl_int 1 #[(0, x33.v)]) w6 fun (x34 : Sl) w7 =>
  RUN Tryz.prog (.at .sl) (bsem .append #[T.t_sl_sl_int, T.t_sl_sl_int] T.t_sl_sl_int #[full.v, x34.v]) w7 fun (x35 : Sl) w8 =>
  I3 x35 (IntKind.i64.wrap (set1 + 1)) w8 ∧ m3 x35 (IntKind.i64.wrap (set1 + 1)) w8 < m3 full set1 w3) (
  I3 full (IntKind.i64.wrap (set1 + 1)) w5 ∧ m3 full (IntKind.i64.wrap (set1 + 1)) w5 < m3 full set1 w3))) (
  I3 full (IntKind.i64.wrap (set1 + 1)) w4 ∧ m3 full (IntKind.i64.wrap (set1 + 1)) w4 < m3 full set1 w3))) (
  Calls Tryz.prog F.i_newLabels #[full.v] w3 (Ret [.at .sl, .at .sl] fun (x38_0 : Sl) (x38_1 : Sl) w9 =>
  NEW T.t_sl_int #[.slice none 0 0] w9 fun (p_sets : Addr) w10 =>
  ST p_sets 0 [x38_0.v] w10 fun w11 =>
  LD [.sl] p_sets w11 fun (x41 : Sl) =>
  Calls Tryz.prog F.i_within #[.int .i64 x41.len, .int .i64 1, .int .i64 8] w11 (Ret [.at .bool] fun (x43 : Bool) w12 =>
  cond (!x43) (
  ST px2 0 [.int .i64 0, .int .i64 0, .slice none 0 0, .slice none 0 0] w12 fun w13 =>
  LD [.int .i64, .int .i64, .sl, .sl] px2 w13 fun (r0_0 : Int) (r0_1 : Int) (r0_2 : Sl) (r0_3 : Sl) =>
  Q r0_0 r0_1 r0_2 r0_3 (⟨none, 0, 0⟩) false w13) (
  LD [.sl] p_sets w12 fun (x46 : Sl) =>
  LD [.int .i64] (p_p.add 1) w12 fun (x49 : Int) =>
  Calls Tryz.prog F.i_allowedBy #[.int .i64 x46.len, .int .i64 x49, .func (.func F.i_edgeStep_1) #[] #[.pointer (some p_p), .pointer (some p_sets)]] w12 (Ret [.at .sl] fun (x51 : Sl) w14 =>
  ∀ w15, Ext w14 w15 → w15.heap = w14.heap → ∃ (D15 : Nat → Prop),
  ¬ D15 p_sets.block ∧ (
  LD [.sl] p_sets w15 fun (x52 : Sl) =>
  ¬ D15 (p_p.add 1).block ∧ (
  LD [.int .i64] (p_p.add 1) w15 fun (x55 : Int) =>
  ¬ D15 p_sets.block ∧ (
  LD [.sl] p_sets w15 fun (x59 : Sl) =>
  ST px2 0 [.int .i64 x52.len, .int .i64 x55, x51.v, x38_1.v] w15 fun w16 =>
  Chg w15 w16 D15 ∧ (
  LD [.int .i64, .int .i64, .sl, .sl] px2 w16 fun (r0_0_2 : Int) (r0_1_2 : Int) (r0_2_2 : Sl) (r0_3_2 : Sl) =>
  Q r0_0_2 r0_1_2 r0_2_2 r0_3_2 x59 true w16))))))))))

theorem C_i_edgeStep {Q : Int → Int → Sl → Sl → Sl → Bool → World → Prop} {p_0 : Int} {p_1 : Int} {p_2 : Sl} {p_3 : Sl} {w : World} (h : V_i_edgeStep Q p_0 p_1 p_2 p_3 w) : Calls Tryz.prog F.i_edgeStep #[.agg #[.int .i64 p_0, .int .i64 p_1, p_2.v, p_3.v]] w (Ret [.agg [.int .i64, .int .i64, .sl, .sl], .at .sl, .at .bool] Q) :=
  mkC (hint := hint) (ann := annOf [(3, ⟨[(5, .sl), (6, .int .i64)], [7, 11, 12, 13, 14, 15, 16, 17, 18, 19, 20, 21, 22, 23, 24, 25, 26, 27, 28, 29, 30, 31, 32, 33, 34, 35]⟩)]) (args := [.agg #[.int .i64 p_0, .int .i64 p_1, p_2.v, p_3.v]]) (rs := [.agg [.int .i64, .int .i64, .sl, .sl], .at .sl, .at .bool]) Tryz.func228 (by kernel_rfl) (by kernel_rfl) h

def V_i_nodeStep_k1 (Q : Int → Int → Sl → Sl → Sl → Bool → World → Prop) (p_p : Addr) (px2 : Addr) (w4 : World) : Prop :=
  LD [.int .i64, .int .i64, .sl, .sl] p_p w4 fun (x18_0 : Int) (x18_1 : Int) (x18_2 : Sl) (x18_3 : Sl) =>
  Calls Tryz.prog F.i_newNodeSets #[.agg #[.int .i64 x18_0, .int .i64 x18_1, x18_2.v, x18_3.v]] w4 (Ret [.at .ptr] fun (x19 : Addr) w5 =>
  Calls Tryz.prog F.ptr_i_nodeSets_fullLists #[.pointer (some x19)] w5 (Ret [.at .sl] fun (x20 : Sl) w6 =>
  Calls Tryz.prog F.i_newLabels #[x20.v] w6 (Ret [.at .sl, .at .sl] fun (x21_0 : Sl) (x21_1 : Sl) w7 =>
  NEW T.t_sl_int #[.slice none 0 0] w7 fun (p_sets : Addr) w8 =>
  ST p_sets 0 [x21_0.v] w8 fun w9 =>
  LD [.sl] p_sets w9 fun (x24 : Sl) =>
  Calls Tryz.prog F.i_within #[.int .i64 x24.len, .int .i64 1, .int .i64 8] w9 (Ret [.at .bool] fun (x26 : Bool) w10 =>
  cond (!x26) (
  ST px2 0 [.int .i64 0, .int .i64 0, .slice none 0 0, .slice none 0 0] w10 fun w11 =>
  LD [.int .i64, .int .i64, .sl, .sl] px2 w11 fun (r0_0_2 : Int) (r0_1_2 : Int) (r0_2_2 : Sl) (r0_3_2 : Sl) =>
  Q r0_0_2 r0_1_2 r0_2_2 r0_3_2 (⟨none, 0, 0⟩) false w11) (
  LD [.sl] p_sets w10 fun (x29 : Sl) =>
  Calls Tryz.prog F.i_allowedBy #[.int .i64 x29.len, .int .i64 2, .func (.func F.i_nodeStep_1) #[] #[.pointer (some p_p), .pointer (some p_sets)]] w10 (Ret [.at .sl] fun (x32 : Sl) w12 =>
  ∀ w13, Ext w12 w13 → w13.heap = w12.heap → ∃ (D13 : Nat → Prop),
  ¬ D13 p_sets.block ∧ (
  LD [.sl] p_sets w13 fun (x33 : Sl) =>
  ¬ D13 (p_p.add 1).block ∧ (
  LD [.int .i64] (p_p.add 1) w13 fun (x36 : Int) =>
  ¬ D13 p_sets.block ∧ (
  LD [.sl] p_sets w13 fun (x40 : Sl) =>
  ST px2 0 [.int .i64 x33.len, .int .i64 x36, x21_1.v, x32.v] w13 fun w14 =>
  Chg w13 w14 D13 ∧ (
  LD [.int .i64, .int .i64, .sl, .sl] px2 w14 fun (r0_0_3 : Int) (r0_1_3 : Int) (r0_2_3 : Sl) (r0_3_3 : Sl) =>
  Q r0_0_3 r0_1_3 r0_2_3 r0_3_3 x40 true w14))))))))))

def V_i_nodeStep (Q : Int → Int → Sl → Sl → Sl → Bool → World → Prop) (p_0 : Int) (p_1 : Int) (p_2 : Sl) (p_3 : Sl) (w : World) : Prop :=
  NEW T.t_i_Problem #[.int .i64 p_0, .int .i64 p_1, p_2.v, p_3.v] w fun (p_p : Addr) w1 =>
  NEW T.t_i_Problem #[.int .i64 0, .int .i64 0, .slice none 0 0, .slice none 0 0] w1 fun (px2 : Addr) w2 =>
  LD [.int .i64] (p_p.add 1) w2 fun (x9 : Int) =>
  cond ((x9 : Int) == 4) (
  LD [.int .i64] (p_p.add 0) w2 fun (x13 : Int) =>
  cond (decide ((x13 : Int) > 6)) (
  ST px2 0 [.int .i64 0, .int .i64 0, .slice none 0 0, .slice none 0 0] w2 fun w3 =>
  LD [.int .i64, .int .i64, .sl, .sl] px2 w3 fun (r0_0 : Int) (r0_1 : Int) (r0_2 : Sl) (r0_3 : Sl) =>
  Q r0_0 r0_1 r0_2 r0_3 (⟨none, 0, 0⟩) false w3) (
  V_i_nodeStep_k1 Q p_p px2 w2)) (
  V_i_nodeStep_k1 Q p_p px2 w2)

theorem C_i_nodeStep {Q : Int → Int → Sl → Sl → Sl → Bool → World → Prop} {p_0 : Int} {p_1 : Int} {p_2 : Sl} {p_3 : Sl} {w : World} (h : V_i_nodeStep Q p_0 p_1 p_2 p_3 w) : Calls Tryz.prog F.i_nodeStep #[.agg #[.int .i64 p_0, .int .i64 p_1, p_2.v, p_3.v]] w (Ret [.agg [.int .i64, .int .i64, .sl, .sl], .at .sl, .at .bool] Q) :=
  mkC (hint := hint) (ann := annOf []) (args := [.agg #[.int .i64 p_0, .int .i64 p_1, p_2.v, p_3.v]]) (rs := [.agg [.int .i64, .int .i64, .sl, .sl], .at .sl, .at .bool]) Tryz.func229 (by kernel_rfl) (by kernel_rfl) h

def V_i_Problem_hasLabels (Q : Bool → World → Prop) (p_0 : Int) (p_1 : Int) (p_2 : Sl) (p_3 : Sl) (labels : Sl) (w : World) : Prop :=
  NEW T.t_i_Problem #[.int .i64 p_0, .int .i64 p_1, p_2.v, p_3.v] w fun (p_p : Addr) w1 =>
  LD [.int .i64] (p_p.add 0) w1 fun (x7 : Int) =>
  Calls Tryz.prog F.i_allWithin #[labels.v, .int .i64 0, .int .i64 (IntKind.i64.wrap (x7 - 1))] w1 (Ret [.at .bool] fun (x9 : Bool) w2 =>
  Q x9 w2)

theorem C_i_Problem_hasLabels {Q : Bool → World → Prop} {p_0 : Int} {p_1 : Int} {p_2 : Sl} {p_3 : Sl} {labels : Sl} {w : World} (h : V_i_Problem_hasLabels Q p_0 p_1 p_2 p_3 labels w) : Calls Tryz.prog F.i_Problem_hasLabels #[.agg #[.int .i64 p_0, .int .i64 p_1, p_2.v, p_3.v], labels.v] w (Ret [.at .bool] Q) :=
  mkC (hint := hint) (ann := annOf []) (args := [.agg #[.int .i64 p_0, .int .i64 p_1, p_2.v, p_3.v], labels.v]) (rs := [.at .bool]) Tryz.func230 (by kernel_rfl) (by kernel_rfl) h

def V_i_Problem_node (Q : Bool → World → Prop) (p_0 : Int) (p_1 : Int) (p_2 : Sl) (p_3 : Sl) (labels : Sl) (w : World) : Prop :=
  NEW T.t_i_Problem #[.int .i64 p_0, .int .i64 p_1, p_2.v, p_3.v] w fun (p_p : Addr) w1 =>
  LD [.sl] (p_p.add 2) w1 fun (x6 : Sl) =>
  Calls Tryz.prog F.i_hasConfiguration #[x6.v, labels.v] w1 (Ret [.at .bool] fun (x8 : Bool) w2 =>
  Q x8 w2)

theorem C_i_Problem_node {Q : Bool → World → Prop} {p_0 : Int} {p_1 : Int} {p_2 : Sl} {p_3 : Sl} {labels : Sl} {w : World} (h : V_i_Problem_node Q p_0 p_1 p_2 p_3 labels w) : Calls Tryz.prog F.i_Problem_node #[.agg #[.int .i64 p_0, .int .i64 p_1, p_2.v, p_3.v], labels.v] w (Ret [.at .bool] Q) :=
  mkC (hint := hint) (ann := annOf []) (args := [.agg #[.int .i64 p_0, .int .i64 p_1, p_2.v, p_3.v], labels.v]) (rs := [.at .bool]) Tryz.func231 (by kernel_rfl) (by kernel_rfl) h

def V_slices_ContainsFunc_sl_sl_int_sl_int (Q : Bool → World → Prop) (s : Sl) (f : Value) (w : World) : Prop :=
  Calls Tryz.prog F.slices_IndexFunc_sl_sl_int_sl_int #[s.v, f] w (Ret [.at (.int .i64)] fun (x7 : Int) w1 =>
  Q (decide ((x7 : Int) ≥ 0)) w1)

theorem C_slices_ContainsFunc_sl_sl_int_sl_int {Q : Bool → World → Prop} {s : Sl} {f : Value} {w : World} (h : V_slices_ContainsFunc_sl_sl_int_sl_int Q s f w) : Calls Tryz.prog F.slices_ContainsFunc_sl_sl_int_sl_int #[s.v, f] w (Ret [.at .bool] Q) :=
  mkC (hint := hint) (ann := annOf []) (args := [s.v, f]) (rs := [.at .bool]) Tryz.func232 (by kernel_rfl) (by kernel_rfl) h

def V_i_isLabelMap_1 (Q : Bool → World → Prop) (c : Sl) (cap0 : Addr) (cap1 : Addr) (w : World) : Prop :=
  LD [.int .i64, .int .i64, .sl, .sl] cap0 w fun (x5_0 : Int) (x5_1 : Int) (x5_2 : Sl) (x5_3 : Sl) =>
  LD [.sl] cap1 w fun (x6 : Sl) =>
  IX c 0 1 fun (px8 : Addr) =>
  LD [.int .i64] px8 w fun (x9 : Int) =>
  IX x6 x9 1 fun (px10 : Addr) =>
  LD [.int .i64] px10 w fun (x11 : Int) =>
  LD [.sl] cap1 w fun (x12 : Sl) =>
  IX c 1 1 fun (px14 : Addr) =>
  LD [.int .i64] px14 w fun (x15 : Int) =>
  IX x12 x15 1 fun (px16 : Addr) =>
  LD [.int .i64] px16 w fun (x17 : Int) =>
  QCALL Tryz.prog F.i_Problem_edge #[.agg #[.int .i64 x5_0, .int .i64 x5_1, x5_2.v, x5_3.v], .int .i64 x11, .int .i64 x17] w [.at .bool] fun (x18 : Bool) =>
  ∀ w1, Ext w w1 →
  Q (!x18) w1

theorem C_i_isLabelMap_1 {Q : Bool → World → Prop} {c : Sl} {cap0 : Addr} {cap1 : Addr} {w : World} (h : V_i_isLabelMap_1 Q c cap0 cap1 w) : Calls Tryz.prog F.i_isLabelMap_1 #[c.v, .pointer (some cap0), .pointer (some cap1)] w (Ret [.at .bool] Q) :=
  mkC (hint := hint) (ann := annOf []) (args := [c.v, .pointer (some cap0), .pointer (some cap1)]) (rs := [.at .bool]) Tryz.func233 (by kernel_rfl) (by kernel_rfl) h

def V_i_Problem_edge (Q : Bool → World → Prop) (p_0 : Int) (p_1 : Int) (p_2 : Sl) (p_3 : Sl) (a : Int) (b : Int) (w : World) : Prop :=
  NEW T.t_i_Problem #[.int .i64 p_0, .int .i64 p_1, p_2.v, p_3.v] w fun (p_p : Addr) w1 =>
  LD [.sl] (p_p.add 3) w1 fun (x8 : Sl) =>
  RUN Tryz.prog (.at .sl) (Instr.buildSlice T.t_sl_int 2 #[(0, .int .i64 a), (1, .int .i64 b)]) w1 fun (x11 : Sl) w2 =>
  Calls Tryz.prog F.i_hasConfiguration #[x8.v, x11.v] w2 (Ret [.at .bool] fun (x12 : Bool) w3 =>
  Q x12 w3)

theorem C_i_Problem_edge {Q : Bool → World → Prop} {p_0 : Int} {p_1 : Int} {p_2 : Sl} {p_3 : Sl} {a : Int} {b : Int} {w : World} (h : V_i_Problem_edge Q p_0 p_1 p_2 p_3 a b w) : Calls Tryz.prog F.i_Problem_edge #[.agg #[.int .i64 p_0, .int .i64 p_1, p_2.v, p_3.v], .int .i64 a, .int .i64 b] w (Ret [.at .bool] Q) :=
  mkC (hint := hint) (ann := annOf []) (args := [.agg #[.int .i64 p_0, .int .i64 p_1, p_2.v, p_3.v], .int .i64 a, .int .i64 b]) (rs := [.at .bool]) Tryz.func234 (by kernel_rfl) (by kernel_rfl) h

def V_s_l1Least (Q : Int → World → Prop) (a : Int) (b : Int) (w : World) : Prop :=
  cond (decide ((a : Int) < b)) (
  Q a w) (
  Q b w)

theorem C_s_l1Least {Q : Int → World → Prop} {a : Int} {b : Int} {w : World} (h : V_s_l1Least Q a b w) : Calls Tryz.prog F.s_l1Least #[.int .i64 a, .int .i64 b] w (Ret [.at (.int .i64)] Q) :=
  mkC (hint := hint) (ann := annOf []) (args := [.int .i64 a, .int .i64 b]) (rs := [.at (.int .i64)]) Tryz.func240 (by kernel_rfl) (by kernel_rfl) h

def V_s_elNear (Q : Int → World → Prop) (p_0 : Int) (p_1 : Int) (p_2 : Sl) (p_3 : Sl) (set1 : Int) (w : World) : Prop :=
  NEW T.t_i_Problem #[.int .i64 p_0, .int .i64 p_1, p_2.v, p_3.v] w fun (p_p : Addr) w1 =>
  ∃ (I3 : Int → Int → World → Prop) (m3 : Int → Int → World → Nat), I3 0 0 w1 ∧ ∀ (out : Int) (b : Int) w2, I3 out b w2 → ∀ _ _ _ _ _ _ _ _ _ _ _ _ _ _ _ _ _ _ _ _ _ _ _ _ _ _ _ _ : Value,
  LD [.int .i64] (p_p.add 0) w2 fun (x12 : Int) =>
  cond (decide ((b : Int) < x12)) (
  Calls Tryz.prog F.s_elLabels #[.int .i64 set1] w2 (Ret [.at .sl] fun (x17 : Sl) w3 =>
  ∃ (I7 : Bool → Int → World → Prop) (m7 : Bool → Int → World → Nat), I7 true 0 w3 ∧ ∀ (all : Bool) (x19 : Int) w4, I7 all x19 w4 → ∀ _ _ _ _ _ _ _ _ _ _ _ _ : Value,
  cond (decide ((x19 : Int) < x17.len)) (
  IX x17 x19 1 fun (px21 : Addr) =>
  LD [.int .i64] px21 w4 fun (x22 : Int) =>
  cond all (
  LD [.int .i64, .int .i64, .sl, .sl] p_p w4 fun (x25_0 : Int) (x25_1 : Int) (x25_2 : Sl) (x25_3 : Sl) =>
  Calls Tryz.prog F.s_prEdge #[.agg #[.int .i64 x25_0, .int .i64 x25_1, x25_2.v, x25_3.v], .int .i64 x22, .int .i64 b] w4 (Ret [.at .bool] fun (x28 : Bool) w5 =>
  I7 x28 (IntKind.i64.wrap (x19 + 1)) w5 ∧ m7 x28 (IntKind.i64.wrap (x19 + 1)) w5 < m7 all x19 w4)) (
  I7 false (IntKind.i64.wrap (x19 + 1)) w4 ∧ m7 false (IntKind.i64.wrap (x19 + 1)) w4 < m7 all x19 w4)) (
  cond all (
  (0 : Int) ≤ b ∧ (
  I3 (IntKind.i64.wrap (out + (shlI .i64 1 b))) (IntKind.i64.wrap (b + 1)) w4 ∧ m3 (IntKind.i64.wrap (out + (shlI .i64 1 b))) (IntKind.i64.wrap (b + 1)) w4 < m3 out b w2)) (
  I3 out (IntKind.i64.wrap (b + 1)) w4 ∧ m3 out (IntKind.i64.wrap (b + 1)) w4 < m3 out b w2)))) (
  Q out w2)

theorem C_s_elNear {Q : Int → World → Prop} {p_0 : Int} {p_1 : Int} {p_2 : Sl} {p_3 : Sl} {set1 : Int} {w : World} (h : V_s_elNear Q p_0 p_1 p_2 p_3 set1 w) : Calls Tryz.prog F.s_elNear #[.agg #[.int .i64 p_0, .int .i64 p_1, p_2.v, p_3.v], .int .i64 set1] w (Ret [.at (.int .i64)] Q) :=
  mkC (hint := hint) (ann := annOf [(3, ⟨[(5, .int .i64), (6, .int .i64)], [7, 9, 10, 11, 12, 13, 14, 15, 16, 17, 18, 19, 20, 21, 22, 23, 24, 25, 26, 27, 28, 29, 30, 31, 32, 33, 34, 35]⟩), (7, ⟨[(7, .bool), (19, .int .i64)], [9, 20, 21, 22, 23, 24, 25, 26, 27, 28, 29, 30]⟩)]) (args := [.agg #[.int .i64 p_0, .int .i64 p_1, p_2.v, p_3.v], .int .i64 set1]) (rs := [.at (.int .i64)]) Tryz.func241 (by kernel_rfl) (by kernel_rfl) h

def V_s_prNode (Q : Bool → World → Prop) (p_0 : Int) (p_1 : Int) (p_2 : Sl) (p_3 : Sl) (l : Sl) (w : World) : Prop :=
  NEW T.t_i_Problem #[.int .i64 p_0, .int .i64 p_1, p_2.v, p_3.v] w fun (p_p : Addr) w1 =>
  ∀ w2, Ext w1 w2 → w2.heap = w1.heap →
  LD [.sl] (p_p.add 2) w2 fun (x6 : Sl) =>
  Ext w2 w2 ∧ (
  Calls Tryz.prog F.s_prSorted #[l.v] w2 (Ret [.at .sl] fun (x8 : Sl) w3 =>
  Ext w2 w3 ∧ (
  Calls Tryz.prog F.s_prHas #[x6.v, x8.v] w3 (Ret [.at .bool] fun (x9 : Bool) w4 =>
  Ext w2 w4 ∧ (
  Q x9 w4)))))

theorem C_s_prNode {Q : Bool → World → Prop} {p_0 : Int} {p_1 : Int} {p_2 : Sl} {p_3 : Sl} {l : Sl} {w : World} (h : V_s_prNode Q p_0 p_1 p_2 p_3 l w) : Calls Tryz.prog F.s_prNode #[.agg #[.int .i64 p_0, .int .i64 p_1, p_2.v, p_3.v], l.v] w (Ret [.at .bool] Q) :=
  mkC (hint := hint) (ann := annOf []) (args := [.agg #[.int .i64 p_0, .int .i64 p_1, p_2.v, p_3.v], l.v]) (rs := [.at .bool]) Tryz.func242 (by kernel_rfl) (by kernel_rfl) h

def V_s_elLabels (Q : Sl → World → Prop) (set1 : Int) (w : World) : Prop :=
  ∃ (I3 : Sl → Int → World → Prop) (m3 : Sl → Int → World → Nat), I3 (⟨none, 0, 0⟩) 0 w ∧ ∀ (out : Sl) (a : Int) w1, I3 out a w1 → ∀ _ _ _ _ _ _ _ _ _ _ _ : Value,
  cond (decide ((a : Int) < 8)) (
  Calls Tryz.prog F.s_elHas #[.int .i64 set1, .int .i64 a] w1 (Ret [.at .bool] fun (x11 : Bool) w2 =>
  cond x11 (
  RUN Tryz.prog (.at .sl) (Instr.buildSlice T.t_sl_int 1 #[(0, .int .i64 a)]) w2 fun (x14 : Sl) w3 =>
  RUN Tryz.prog (.at .sl) (bsem .append #[T.t_sl_int, T.t_sl_int] T.t_sl_int #[out.v, x14.v]) w3 fun (x15 : Sl) w4 =>
  I3 x15 (IntKind.i64.wrap (a + 1)) w4 ∧ m3 x15 (IntKind.i64.wrap (a + 1)) w4 < m3 out a w1) (
  I3 out (IntKind.i64.wrap (a + 1)) w2 ∧ m3 out (IntKind.i64.wrap (a + 1)) w2 < m3 out a w1))) (
  Q out w1)

theorem C_s_elLabels {Q : Sl → World → Prop} {set1 : Int} {w : World} (h : V_s_elLabels Q set1 w) : Calls Tryz.prog F.s_elLabels #[.int .i64 set1] w (Ret [.at .sl] Q) :=
  mkC (hint := hint) (ann := annOf [(3, ⟨[(3, .sl), (4, .int .i64)], [5, 6, 7, 8, 9, 10, 11, 12, 13, 14, 15]⟩)]) (args := [.int .i64 set1]) (rs := [.at .sl]) Tryz.func243 (by kernel_rfl) (by kernel_rfl) h

def V_s_prInsert_k4 (l : Sl) (x : Sl) (Q : Sl → World → Prop) (k : Int) (w5 : World) : Prop :=
  RUN Tryz.prog (.at .sl) (Instr.buildSlice T.t_sl_sl_int 0 #[]) w5 fun (x35 : Sl) w6 =>
  SLC l none (some k) 1 fun (x38 : Sl) =>
  RUN Tryz.prog (.at .sl) (bsem .append #[T.t_sl_sl_int, T.t_sl_sl_int] T.t_sl_sl_int #[x35.v, x38.v]) w6 fun (x39 : Sl) w7 =>
  RUN Tryz.prog (.at .sl) (Instr.buildSlice T.t_sl_sl_int 1 #[(0, x.v)]) w7 fun (x42 : Sl) w8 =>
  RUN Tryz.prog (.at .sl) (bsem .append #[T.t_sl_sl_int, T.t_sl_sl_int] T.t_sl_sl_int #[x39.v, x42.v]) w8 fun (x43 : Sl) w9 =>
  SLC l (some k) none 1 fun (x47 : Sl) =>
  RUN Tryz.prog (.at .sl) (bsem .append #[T.t_sl_sl_int, T.t_sl_sl_int] T.t_sl_sl_int #[x43.v, x47.v]) w9 fun (x48 : Sl) w10 =>
  Q x48 w10

def V_s_prInsert_k1 (l : Sl) (x : Sl) (Q : Sl → World → Prop) (k : Int) (w3 : World) : Prop :=
  cond (decide ((k : Int) < l.len)) (
  IX l k 1 fun (px29 : Addr) =>
  LD [.sl] px29 w3 fun (x30 : Sl) =>
  Calls Tryz.prog F.s_l1Same #[x30.v, x.v] w3 (Ret [.at .bool] fun (x32 : Bool) w4 =>
  cond x32 (
  Q l w4) (
  V_s_prInsert_k4 l x Q k w4))) (
  V_s_prInsert_k4 l x Q k w3)

def V_s_prInsert (Q : Sl → World → Prop) (l : Sl) (x : Sl) (w : World) : Prop :=
  ∃ (I2 : Int → World → Prop) (m2 : Int → World → Nat), I2 0 w ∧ ∀ (k : Int) w1, I2 k w1 → ∀ _ _ _ _ _ _ _ _ _ _ _ _ _ _ _ : Value,
  cond (decide ((k : Int) < l.len)) (
  IX l k 1 fun (px14 : Addr) =>
  LD [.sl] px14 w1 fun (x15 : Sl) =>
  Calls Tryz.prog F.s_prOrder #[x15.v, x.v] w1 (Ret [.at (.int .i64)] fun (x17 : Int) w2 =>
  cond (decide ((x17 : Int) < 0)) (
  I2 (IntKind.i64.wrap (k + 1)) w2 ∧ m2 (IntKind.i64.wrap (k + 1)) w2 < m2 k w1) (
  V_s_prInsert_k1 l x Q k w2))) (
  V_s_prInsert_k1 l x Q k w1)

theorem C_s_prInsert {Q : Sl → World → Prop} {l : Sl} {x : Sl} {w : World} (h : V_s_prInsert Q l x w) : Calls Tryz.prog F.s_prInsert #[l.v, x.v] w (Ret [.at .sl] Q) :=
  mkC (hint := hint) (ann := annOf [(2, ⟨[(5, .int .i64)], [7, 8, 9, 10, 11, 12, 13, 14, 15, 16, 17, 18, 19, 20, 21]⟩)]) (args := [l.v, x.v]) (rs := [.at .sl]) Tryz.func244 (by kernel_rfl) (by kernel_rfl) h

def V_s_elNumbers (Q : Sl → World → Prop) (sets : Sl) (x : Sl) (w : World) : Prop :=
  ∃ (I3 : Sl → Int → World → Prop) (m3 : Sl → Int → World → Nat), I3 (⟨none, 0, 0⟩) 0 w ∧ ∀ (out : Sl) (x12 : Int) w1, I3 out x12 w1 → ∀ _ _ _ _ _ _ _ _ _ _ _ _ _ _ _ _ _ _ _ _ _ _ : Value,
  cond (decide ((x12 : Int) < x.len)) (
  IX x x12 1 fun (px14 : Addr) =>
  LD [.int .i64] px14 w1 fun (x15 : Int) =>
  ∃ (I6 : Sl → Int → World → Prop) (m6 : Sl → Int → World → Nat), I6 out 0 w1 ∧ ∀ (out_2 : Sl) (x18 : Int) w2, I6 out_2 x18 w2 → ∀ _ _ _ _ _ _ _ _ _ _ _ _ _ _ : Value,
  cond (decide ((x18 : Int) < sets.len)) (
  IX sets x18 1 fun (px21 : Addr) =>
  LD [.int .i64] px21 w2 fun (x22 : Int) =>
  cond ((x15 : Int) == x22) (
  RUN Tryz.prog (.at .sl) (Instr.buildSlice T.t_sl_int 1 #[(0, .int .i64 x18)]) w2 fun (x28 : Sl) w3 =>
  RUN Tryz.prog (.at .sl) (bsem .append #[T.t_sl_int, T.t_sl_int] T.t_sl_int #[out_2.v, x28.v]) w3 fun (x29 : Sl) w4 =>
  I6 x29 (IntKind.i64.wrap (x18 + 1)) w4 ∧ m6 x29 (IntKind.i64.wrap (x18 + 1)) w4 < m6 out_2 x18 w2) (
  I6 out_2 (IntKind.i64.wrap (x18 + 1)) w2 ∧ m6 out_2 (IntKind.i64.wrap (x18 + 1)) w2 < m6 out_2 x18 w2)) (
  I3 out_2 (IntKind.i64.wrap (x12 + 1)) w2 ∧ m3 out_2 (IntKind.i64.wrap (x12 + 1)) w2 < m3 out x12 w1)) (
  Calls Tryz.prog F.s_prSorted #[out.v] w1 (Ret [.at .sl] fun (x33 : Sl) w5 =>
  Q x33 w5))

theorem C_s_elNumbers {Q : Sl → World → Prop} {sets : Sl} {x : Sl} {w : World} (h : V_s_elNumbers Q sets x w) : Calls Tryz.prog F.s_elNumbers #[sets.v, x.v] w (Ret [.at .sl] Q) :=
  mkC (hint := hint) (ann := annOf [(3, ⟨[(5, .sl), (12, .int .i64)], [7, 8, 9, 13, 14, 15, 16, 17, 18, 19, 20, 21, 22, 23, 24, 25, 26, 27, 28, 29, 30, 31]⟩), (6, ⟨[(5, .sl), (18, .int .i64)], [8, 9, 19, 20, 21, 22, 23, 24, 25, 26, 27, 28, 29, 30]⟩)]) (args := [sets.v, x.v]) (rs := [.at .sl]) Tryz.func245 (by kernel_rfl) (by kernel_rfl) h

def V_s_elSome (Q : Sl → World → Prop) (good : Sl) (sets : Sl) (size1 : Int) (w : World) : Prop :=
  Calls Tryz.prog F.s_reChoices #[.int .i64 sets.len, .int .i64 size1] w (Ret [.at .sl] fun (x15 : Sl) w1 =>
  ∃ (I3 : Sl → Int → World → Prop) (m3 : Sl → Int → World → Nat), I3 (⟨none, 0, 0⟩) 0 w1 ∧ ∀ (out : Sl) (x17 : Int) w2, I3 out x17 w2 → ∀ _ _ _ _ _ _ _ _ _ _ _ _ _ _ _ _ _ _ _ _ : Value,
  cond (decide ((x17 : Int) < x15.len)) (
  IX x15 x17 1 fun (px19 : Addr) =>
  LD [.sl] px19 w2 fun (x20 : Sl) =>
  Calls Tryz.prog F.s_coThrough #[sets.v, x20.v] w2 (Ret [.at .sl] fun (x25 : Sl) w3 =>
  Calls Tryz.prog F.s_elChoice #[good.v, x25.v, .slice none 0 0] w3 (Ret [.at .sl, .at .bool] fun (x26_0 : Sl) (x26_1 : Bool) w4 =>
  cond x26_1 (
  RUN Tryz.prog (.at .sl) (Instr.buildSlice T.t_sl_sl_int 1 #[(0, x20.v)]) w4 fun (x32 : Sl) w5 =>
  RUN Tryz.prog (.at .sl) (bsem .append #[T.t_sl_sl_int, T.t_sl_sl_int] T.t_sl_sl_int #[out.v, x32.v]) w5 fun (x33 : Sl) w6 =>
  I3 x33 (IntKind.i64.wrap (x17 + 1)) w6 ∧ m3 x33 (IntKind.i64.wrap (x17 + 1)) w6 < m3 out x17 w2) (
  I3 out (IntKind.i64.wrap (x17 + 1)) w4 ∧ m3 out (IntKind.i64.wrap (x17 + 1)) w4 < m3 out x17 w2)))) (
  Q out w2))

theorem C_s_elSome {Q : Sl → World → Prop} {good : Sl} {sets : Sl} {size1 : Int} {w : World} (h : V_s_elSome Q good sets size1 w) : Calls Tryz.prog F.s_elSome #[good.v, sets.v, .int .i64 size1] w (Ret [.at .sl] Q) :=
  mkC (hint := hint) (ann := annOf [(3, ⟨[(7, .sl), (17, .int .i64)], [9, 10, 11, 18, 19, 20, 21, 22, 23, 24, 25, 26, 27, 28, 29, 30, 31, 32, 33, 34]⟩)]) (args := [good.v, sets.v, .int .i64 size1]) (rs := [.at .sl]) Tryz.func246 (by kernel_rfl) (by kernel_rfl) h

def V_s_l1Same (Q : Bool → World → Prop) (a : Sl) (b : Sl) (w : World) : Prop :=
  cond ((a.len : Int) != b.len) (
  Q false w) (
  ∃ (I4 : Int → World → Prop) (m4 : Int → World → Nat), I4 0 w ∧ ∀ (x13 : Int) w1, I4 x13 w1 → ∀ _ _ _ _ _ _ _ _ _ _ _ _ _ _ : Value,
  cond (decide ((x13 : Int) < a.len)) (
  IX a x13 1 fun (px18 : Addr) =>
  LD [.int .i64] px18 w1 fun (x19 : Int) =>
  IX b x13 1 fun (px22 : Addr) =>
  LD [.int .i64] px22 w1 fun (x23 : Int) =>
  ∀ w2, Ext w1 w2 →
  cond ((x19 : Int) != x23) (
  Q false w2) (
  I4 (IntKind.i64.wrap (x13 + 1)) w2 ∧ m4 (IntKind.i64.wrap (x13 + 1)) w2 < m4 x13 w1)) (
  Q true w1))

theorem C_s_l1Same {Q : Bool → World → Prop} {a : Sl} {b : Sl} {w : World} (h : V_s_l1Same Q a b w) : Calls Tryz.prog F.s_l1Same #[a.v, b.v] w (Ret [.at .bool] Q) :=
  mkC (hint := hint) (ann := annOf [(4, ⟨[(13, .int .i64)], [4, 5, 14, 15, 16, 17, 18, 19, 20, 21, 22, 23, 24, 25]⟩)]) (args := [a.v, b.v]) (rs := [.at .bool]) Tryz.func247 (by kernel_rfl) (by kernel_rfl) h

def V_slices_IsSorted_sl_int_int (Q : Bool → World → Prop) (x : Sl) (w : World) : Prop :=
  ∃ (I2 : Int → World → Prop) (m2 : Int → World → Nat), I2 (IntKind.i64.wrap (x.len - 1)) w ∧ ∀ (i : Int) w1, I2 i w1 → ∀ _ _ _ _ _ _ _ _ _ _ _ _ _ _ _ : Value,
  cond (decide ((i : Int) > 0)) (
  IX x i 1 fun (px13 : Addr) =>
  LD [.int .i64] px13 w1 fun (x14 : Int) =>
  IX x (IntKind.i64.wrap (i - 1)) 1 fun (px18 : Addr) =>
  LD [.int .i64] px18 w1 fun (x19 : Int) =>
  QCALL Tryz.prog F.cmp_Less_int #[.int .i64 x14, .int .i64 x19] w1 [.at .bool] fun (x20 : Bool) =>
  ∀ w2, Ext w1 w2 →
  cond x20 (
  Q false w2) (
  I2 (IntKind.i64.wrap (i - 1)) w2 ∧ m2 (IntKind.i64.wrap (i - 1)) w2 < m2 i w1)) (
  Q true w1)

theorem C_slices_IsSorted_sl_int_int {Q : Bool → World → Prop} {x : Sl} {w : World} (h : V_slices_IsSorted_sl_int_int Q x w) : Calls Tryz.prog F.slices_IsSorted_sl_int_int #[x.v] w (Ret [.at .bool] Q) :=
  mkC (hint := hint) (ann := annOf [(2, ⟨[(3, .int .i64)], [2, 7, 8, 9, 10, 11, 12, 13, 14, 15, 16, 17, 18, 19, 20]⟩)]) (args := [x.v]) (rs := [.at .bool]) Tryz.func253 (by kernel_rfl) (by kernel_rfl) h

def V_i_beside_k3 (I3 : Int → Int → World → Prop) (m3 : Int → Int → World → Nat) (out : Int) (x9 : Int) (w2 : World) (out_2 : Int) (w10 : World) : Prop :=
  I3 out_2 (IntKind.i64.wrap (x9 + 1)) w10 ∧ m3 out_2 (IntKind.i64.wrap (x9 + 1)) w10 < m3 out x9 w2

def V_i_beside (Q : Int → World → Prop) (p_0 : Int) (p_1 : Int) (p_2 : Sl) (p_3 : Sl) (set1 : Int) (w : World) : Prop :=
  NEW T.t_i_Problem #[.int .i64 p_0, .int .i64 p_1, p_2.v, p_3.v] w fun (p_p : Addr) w1 =>
  LD [.int .i64] (p_p.add 0) w1 fun (x8 : Int) =>
  ∃ (I3 : Int → Int → World → Prop) (m3 : Int → Int → World → Nat), I3 0 0 w1 ∧ ∀ (out : Int) (x9 : Int) w2, I3 out x9 w2 → ∀ _ _ _ _ _ _ _ _ _ _ _ _ _ _ : Value,
  cond (decide ((x9 : Int) < x8)) (
  ∀ w3, Ext w2 w3 → w3.heap = w2.heap →
  LD [.int .i64, .int .i64, .sl, .sl] p_p w3 fun (x12_0 : Int) (x12_1 : Int) (x12_2 : Sl) (x12_3 : Sl) =>
  (
  Calls Tryz.prog F.i_labelsIn #[.int .i64 set1] w3 (Ret [.at .sl] fun (x14 : Sl) w4 =>
  Ext w3 w4 ∧ (
  RUN Tryz.prog (.at .sl) (Instr.buildSlice T.t_sl_int 1 #[(0, .int .i64 x9)]) w4 fun (x16 : Sl) w5 =>
  Ext w4 w5 ∧ (
  Calls Tryz.prog F.i_isGoodPair #[.agg #[.int .i64 x12_0, .int .i64 x12_1, x12_2.v, x12_3.v], x14.v, x16.v] w5 (Ret [.at .bool] fun (x17 : Bool) w6 =>
  Ext w5 w6 ∧ (
  cond x17 (
  (0 : Int) ≤ x9 ∧ (
  V_i_beside_k3 I3 m3 out x9 w2 (bitOr .i64 out (shlI .i64 1 x9)) w6)) (
  V_i_beside_k3 I3 m3 out x9 w2 out w6))))))) ∧ (
  RUN Tryz.prog (.at .sl) (Instr.buildSlice T.t_sl_int 1 #[(0, .int .i64 x9)]) w3 fun (x16_2 : Sl) w7 =>
  Ext w3 w7 ∧ (
  Calls Tryz.prog F.i_labelsIn #[.int .i64 set1] w7 (Ret [.at .sl] fun (x14_2 : Sl) w8 =>
  Ext w7 w8 ∧ (
  Calls Tryz.prog F.i_isGoodPair #[.agg #[.int .i64 x12_0, .int .i64 x12_1, x12_2.v, x12_3.v], x14_2.v, x16_2.v] w8 (Ret [.at .bool] fun (x17_2 : Bool) w9 =>
  Ext w8 w9 ∧ (
  cond x17_2 (
  (0 : Int) ≤ x9 ∧ (
  V_i_beside_k3 I3 m3 out x9 w2 (bitOr .i64 out (shlI .i64 1 x9)) w9)) (
  V_i_beside_k3 I3 m3 out x9 w2 out w9)))))))) (
  Q out w2)

theorem C_i_beside {Q : Int → World → Prop} {p_0 : Int} {p_1 : Int} {p_2 : Sl} {p_3 : Sl} {set1 : Int} {w : World} (h : V_i_beside Q p_0 p_1 p_2 p_3 set1 w) : Calls Tryz.prog F.i_beside #[.agg #[.int .i64 p_0, .int .i64 p_1, p_2.v, p_3.v], .int .i64 set1] w (Ret [.at (.int .i64)] Q) :=
  mkC (hint := hint) (ann := annOf [(3, ⟨[(5, .int .i64), (9, .int .i64)], [6, 10, 11, 12, 13, 14, 15, 16, 17, 18, 19, 20, 21, 22]⟩)]) (args := [.agg #[.int .i64 p_0, .int .i64 p_1, p_2.v, p_3.v], .int .i64 set1]) (rs := [.at (.int .i64)]) Tryz.func254 (by kernel_rfl) (by kernel_rfl) h

def V_i_newLabels (Q : Sl → Sl → World → Prop) (full : Sl) (w : World) : Prop :=
  Calls Tryz.prog F.slices_Concat_sl_int_int #[full.v] w (Ret [.at .sl] fun (x14 : Sl) w1 =>
  Calls Tryz.prog F.slices_Sort_sl_int_int #[x14.v] w1 (Ret [] fun w2 =>
  Calls Tryz.prog F.slices_Compact_sl_int_int #[x14.v] w2 (Ret [.at .sl] fun (x18 : Sl) w3 =>
  ∃ (I6 : Sl → Int → World → Prop) (m6 : Sl → Int → World → Nat), I6 (⟨none, 0, 0⟩) 0 w3 ∧ ∀ (out : Sl) (x21 : Int) w4, I6 out x21 w4 → ∀ _ _ _ _ _ _ _ _ _ _ _ _ _ _ _ _ _ _ _ _ _ _ _ _ _ _ _ _ _ _ _ _ : Value,
  cond (decide ((x21 : Int) < full.len)) (
  IX full x21 1 fun (px23 : Addr) =>
  LD [.sl] px23 w4 fun (x24 : Sl) =>
  ∃ (I10 : Sl → Int → World → Prop) (m10 : Sl → Int → World → Nat), I10 (⟨none, 0, 0⟩) 0 w4 ∧ ∀ (numbers : Sl) (x27 : Int) w5, I10 numbers x27 w5 → ∀ _ _ _ _ _ _ _ _ _ _ _ _ _ _ _ _ _ : Value,
  cond (decide ((x27 : Int) < x24.len)) (
  IX x24 x27 1 fun (px29 : Addr) =>
  LD [.int .i64] px29 w5 fun (x30 : Int) =>
  Calls Tryz.prog F.slices_BinarySearch_sl_int_int #[x18.v, .int .i64 x30] w5 (Ret [.at (.int .i64), .at .bool] fun (x34_0 : Int) (x34_1 : Bool) w6 =>
  RUN Tryz.prog (.at .sl) (Instr.buildSlice T.t_sl_int 1 #[(0, .int .i64 x34_0)]) w6 fun (x39 : Sl) w7 =>
  RUN Tryz.prog (.at .sl) (bsem .append #[T.t_sl_int, T.t_sl_int] T.t_sl_int #[numbers.v, x39.v]) w7 fun (x40 : Sl) w8 =>
  I10 x40 (IntKind.i64.wrap (x27 + 1)) w8 ∧ m10 x40 (IntKind.i64.wrap (x27 + 1)) w8 < m10 numbers x27 w5)) (
  Calls Tryz.prog F.slices_Sort_sl_int_int #[numbers.v] w5 (Ret [] fun w9 =>
  RUN Tryz.prog (.at .sl) (Instr.buildSlice T.t_sl_sl_int 1 #[(0, numbers.v)]) w9 fun (x46 : Sl) w10 =>
  RUN Tryz.prog (.at .sl) (bsem .append #[T.t_sl_sl_int, T.t_sl_sl_int] T.t_sl_sl_int #[out.v, x46.v]) w10 fun (x47 : Sl) w11 =>
  I6 x47 (IntKind.i64.wrap (x21 + 1)) w11 ∧ m6 x47 (IntKind.i64.wrap (x21 + 1)) w11 < m6 out x21 w4))) (
  Calls Tryz.prog F.i_sortedLists #[out.v] w4 (Ret [.at .sl] fun (x51 : Sl) w12 =>
  Q x18 x51 w12)))))

theorem C_i_newLabels {Q : Sl → Sl → World → Prop} {full : Sl} {w : World} (h : V_i_newLabels Q full w) : Calls Tryz.prog F.i_newLabels #[full.v] w (Ret [.at .sl, .at .sl] Q) :=
  mkC (hint := hint) (ann := annOf [(6, ⟨[(5, .sl), (21, .int .i64)], [7, 8, 10, 11, 12, 22, 23, 24, 25, 26, 27, 28, 29, 30, 31, 32, 33, 34, 35, 36, 37, 38, 39, 40, 41, 42, 43, 44, 45, 46, 47, 48]⟩), (10, ⟨[(8, .sl), (27, .int .i64)], [10, 11, 12, 28, 29, 30, 31, 32, 33, 34, 35, 36, 37, 38, 39, 40, 41]⟩)]) (args := [full.v]) (rs := [.at .sl, .at .sl]) Tryz.func255 (by kernel_rfl) (by kernel_rfl) h

def V_i_allowedBy (Q : Sl → World → Prop) (labels : Int) (size1 : Int) (good_f : Fn) (good_t : Array Value) (good_c : Array Value) (w : World) : Prop :=
  NEW T.t_func_sl_int_bool #[.func good_f good_t good_c] w fun (p_good : Addr) w1 =>
  Calls Tryz.prog F.i_multisets #[.int .i64 labels, .int .i64 size1] w1 (Ret [.at .sl] fun (x9 : Sl) w2 =>
  Calls Tryz.prog F.slices_DeleteFunc_sl_sl_int_sl_int #[x9.v, .func (.func F.i_allowedBy_1) #[] #[.pointer (some p_good)]] w2 (Ret [.at .sl] fun (x11 : Sl) w3 =>
  Q x11 w3))

theorem C_i_allowedBy {Q : Sl → World → Prop} {labels : Int} {size1 : Int} {good_f : Fn} {good_t : Array Value} {good_c : Array Value} {w : World} (h : V_i_allowedBy Q labels size1 good_f good_t good_c w) : Calls Tryz.prog F.i_allowedBy #[.int .i64 labels, .int .i64 size1, .func good_f good_t good_c] w (Ret [.at .sl] Q) :=
  mkC (hint := hint) (ann := annOf []) (args := [.int .i64 labels, .int .i64 size1, .func good_f good_t good_c]) (rs := [.at .sl]) Tryz.func256 (by kernel_rfl) (by kernel_rfl) h

def V_i_edgeStep_1 (Q : Bool → World → Prop) (c : Sl) (cap0 : Addr) (cap1 : Addr) (w : World) : Prop :=
  ∀ w1, Ext w w1 → w1.heap = w.heap →
  LD [.int .i64, .int .i64, .sl, .sl] cap0 w1 fun (x8_0 : Int) (x8_1 : Int) (x8_2 : Sl) (x8_3 : Sl) =>
  LD [.sl] cap1 w1 fun (x9 : Sl) =>
  Ext w1 w1 ∧ (
  Calls Tryz.prog F.i_listsOf #[x9.v, c.v] w1 (Ret [.at .sl] fun (x11 : Sl) w2 =>
  Ext w1 w2 ∧ (
  Calls Tryz.prog F.i_Problem_nodeChoice #[.agg #[.int .i64 x8_0, .int .i64 x8_1, x8_2.v, x8_3.v], x11.v] w2 (Ret [.at .sl, .at .bool] fun (x12_0 : Sl) (x12_1 : Bool) w3 =>
  Ext w1 w3 ∧ (
  Ext w1 w3 ∧ (
  Ext w1 w3 ∧ (
  Q x12_1 w3)))))))

theorem C_i_edgeStep_1 {Q : Bool → World → Prop} {c : Sl} {cap0 : Addr} {cap1 : Addr} {w : World} (h : V_i_edgeStep_1 Q c cap0 cap1 w) : Calls Tryz.prog F.i_edgeStep_1 #[c.v, .pointer (some cap0), .pointer (some cap1)] w (Ret [.at .bool] Q) :=
  mkC (hint := hint) (ann := annOf []) (args := [c.v, .pointer (some cap0), .pointer (some cap1)]) (rs := [.at .bool]) Tryz.func257 (by kernel_rfl) (by kernel_rfl) h

def V_i_Problem_nodeChoice (Q : Sl → Bool → World → Prop) (p_0 : Int) (p_1 : Int) (p_2 : Sl) (p_3 : Sl) (lists : Sl) (w : World) : Prop :=
  NEW T.t_i_Problem #[.int .i64 p_0, .int .i64 p_1, p_2.v, p_3.v] w fun (p_p : Addr) w1 =>
  Calls Tryz.prog F.i_firstChoice #[lists.v, .func (.func F.i_Problem_nodeChoice_1) #[] #[.pointer (some p_p)]] w1 (Ret [.at .sl, .at .bool] fun (x8_0 : Sl) (x8_1 : Bool) w2 =>
  Q x8_0 x8_1 w2)

theorem C_i_Problem_nodeChoice {Q : Sl → Bool → World → Prop} {p_0 : Int} {p_1 : Int} {p_2 : Sl} {p_3 : Sl} {lists : Sl} {w : World} (h : V_i_Problem_nodeChoice Q p_0 p_1 p_2 p_3 lists w) : Calls Tryz.prog F.i_Problem_nodeChoice #[.agg #[.int .i64 p_0, .int .i64 p_1, p_2.v, p_3.v], lists.v] w (Ret [.at .sl, .at .bool] Q) :=
  mkC (hint := hint) (ann := annOf []) (args := [.agg #[.int .i64 p_0, .int .i64 p_1, p_2.v, p_3.v], lists.v]) (rs := [.at .sl, .at .bool]) Tryz.func258 (by kernel_rfl) (by kernel_rfl) h

def V_i_listsOf (Q : Sl → World → Prop) (sets : Sl) (numbers : Sl) (w : World) : Prop :=
  ∃ (I3 : Sl → Int → World → Prop) (m3 : Sl → Int → World → Nat), I3 (⟨none, 0, 0⟩) 0 w ∧ ∀ (out : Sl) (x10 : Int) w1, I3 out x10 w1 → ∀ _ _ _ _ _ _ _ _ _ _ _ _ _ : Value,
  cond (decide ((x10 : Int) < numbers.len)) (
  IX numbers x10 1 fun (px12 : Addr) =>
  LD [.int .i64] px12 w1 fun (x13 : Int) =>
  IX sets x13 1 fun (px17 : Addr) =>
  LD [.int .i64] px17 w1 fun (x18 : Int) =>
  Calls Tryz.prog F.i_labelsIn #[.int .i64 x18] w1 (Ret [.at .sl] fun (x19 : Sl) w2 =>
  RUN Tryz.prog (.at .sl) (Instr.buildSlice T.t_sl_sl_int 1 #[(0, x19.v)]) w2 fun (x20 : Sl) w3 =>
  RUN Tryz.prog (.at .sl) (bsem .append #[T.t_sl_sl_int, T.t_sl_sl_int] T.t_sl_sl_int #[out.v, x20.v]) w3 fun (x21 : Sl) w4 =>
  I3 x21 (IntKind.i64.wrap (x10 + 1)) w4 ∧ m3 x21 (IntKind.i64.wrap (x10 + 1)) w4 < m3 out x10 w1)) (
  Q out w1)

theorem C_i_listsOf {Q : Sl → World → Prop} {sets : Sl} {numbers : Sl} {w : World} (h : V_i_listsOf Q sets numbers w) : Calls Tryz.prog F.i_listsOf #[sets.v, numbers.v] w (Ret [.at .sl] Q) :=
  mkC (hint := hint) (ann := annOf [(3, ⟨[(5, .sl), (10, .int .i64)], [7, 11, 12, 13, 14, 15, 16, 17, 18, 19, 20, 21, 22]⟩)]) (args := [sets.v, numbers.v]) (rs := [.at .sl]) Tryz.func259 (by kernel_rfl) (by kernel_rfl) h

def V_i_newNodeSets (Q : Addr → World → Prop) (x0_0 : Int) (x0_1 : Int) (x0_2 : Sl) (x0_3 : Sl) (w : World) : Prop :=
  NEW T.t_i_Problem #[.int .i64 x0_0, .int .i64 x0_1, x0_2.v, x0_3.v] w fun (px1 : Addr) w1 =>
  LD [.int .i64] (px1.add 1) w1 fun (x11 : Int) =>
  ∃ (I3 : Int → Int → World → Prop) (m3 : Int → Int → World → Nat), I3 1 0 w1 ∧ ∀ (x3 : Int) (x13 : Int) w2, I3 x3 x13 w2 → ∀ _ _ _ _ _ _ : Value,
  cond (decide ((x13 : Int) < (IntKind.i64.wrap (x11 - 1)))) (
  LD [.int .i64] (px1.add 0) w2 fun (x17 : Int) =>
  I3 (IntKind.i64.wrap (x3 * x17)) (IntKind.i64.wrap (x13 + 1)) w2 ∧ m3 (IntKind.i64.wrap (x3 * x17)) (IntKind.i64.wrap (x13 + 1)) w2 < m3 x3 x13 w2) (
  ∀ w3, Ext w2 w3 → w3.heap = w2.heap →
  LD [.int .i64, .int .i64, .sl, .sl] px1 w3 fun (x20_0 : Int) (x20_1 : Int) (x20_2 : Sl) (x20_3 : Sl) =>
  Ext w3 w3 ∧ (
  RUN Tryz.prog (.at .sl) (Instr.makeSlice T.t_sl_int (.int .i64 x3) (.int .i64 x3)) w3 fun (x22 : Sl) w4 =>
  Ext w3 w4 ∧ (
  NEW T.t_i_nodeSets #[.int .i64 x20_0, .int .i64 x20_1, x20_2.v, x20_3.v, x22.v] w4 fun (px24 : Addr) w5 =>
  Ext w3 w5 ∧ (
  LD [.sl] (px24.add 4) w5 fun (x28 : Sl) =>
  ∃ (I8 : Int → World → Prop) (m8 : Int → World → Nat), I8 0 w5 ∧ ∀ (x30 : Int) w6, I8 x30 w6 → ∀ _ _ _ _ _ _ _ _ _ _ _ _ _ _ _ _ _ _ _ _ _ _ _ _ _ _ _ _ _ _ _ _ _ _ _ _ _ _ _ _ _ _ _ _ _ _ _ _ _ _ _ _ _ _ _ _ : Value,
  cond (decide ((x30 : Int) < x28.len)) (
  LD [.int .i64] (px1.add 1) w6 fun (x34 : Int) =>
  RUN Tryz.prog (.at .sl) (Instr.makeSlice T.t_sl_int (.int .i64 x34) (.int .i64 x34)) w6 fun (x35 : Sl) w7 =>
  LD [.int .i64] (px1.add 1) w7 fun (x38 : Int) =>
  ∃ (I13 : Int → Int → World → Prop) (m13 : Int → Int → World → Nat), I13 x30 0 w7 ∧ ∀ (x7 : Int) (x40 : Int) w8, I13 x7 x40 w8 → ∀ _ _ _ _ _ _ _ _ _ _ _ _ _ _ _ : Value,
  cond (decide ((x40 : Int) < (IntKind.i64.wrap (x38 - 1)))) (
  LD [.int .i64] (px1.add 0) w8 fun (x47 : Int) =>
  (x47 : Int) ≠ 0 ∧ (
  IX x35 x40 1 fun (px49 : Addr) =>
  ST px49 0 [.int .i64 (Int.tmod x7 x47)] w8 fun w9 =>
  LD [.int .i64] (px1.add 0) w9 fun (x52 : Int) =>
  (x52 : Int) ≠ 0 ∧ (
  I13 (IntKind.i64.wrap (Int.tdiv x7 x52)) (IntKind.i64.wrap (x40 + 1)) w9 ∧ m13 (IntKind.i64.wrap (Int.tdiv x7 x52)) (IntKind.i64.wrap (x40 + 1)) w9 < m13 x7 x40 w8))) (
  LD [.int .i64] (px1.add 0) w8 fun (x56 : Int) =>
  ∃ (I19 : Int → World → Prop) (m19 : Int → World → Nat), I19 0 w8 ∧ ∀ (x57 : Int) w10, I19 x57 w10 → ∀ _ _ _ _ _ _ _ _ _ _ _ _ _ _ _ _ _ _ _ _ _ _ _ _ : Value,
  cond (decide ((x57 : Int) < x56)) (
  LD [.int .i64] (px1.add 1) w10 fun (x62 : Int) =>
  IX x35 (IntKind.i64.wrap (x62 - 1)) 1 fun (px65 : Addr) =>
  ST px65 0 [.int .i64 x57] w10 fun w11 =>
  LD [.int .i64, .int .i64, .sl, .sl] px1 w11 fun (x66_0 : Int) (x66_1 : Int) (x66_2 : Sl) (x66_3 : Sl) =>
  Calls Tryz.prog F.i_Problem_node #[.agg #[.int .i64 x66_0, .int .i64 x66_1, x66_2.v, x66_3.v], x35.v] w11 (Ret [.at .bool] fun (x68 : Bool) w12 =>
  cond x68 (
  ∀ w13, Ext w12 w13 → w13.heap = w12.heap → ∃ (D13 : Nat → Prop),
  (0 : Int) ≤ x57 ∧ (
  Chg w13 w13 D13 ∧ (
  Chg w13 w13 D13 ∧ (
  LD [.sl] (px24.add 4) w13 fun (x72 : Sl) =>
  Chg w13 w13 D13 ∧ (
  IX x72 x30 1 fun (px74 : Addr) =>
  Chg w13 w13 D13 ∧ (
  LD [.int .i64] px74 w13 fun (x75 : Int) =>
  Chg w13 w13 D13 ∧ (
  Chg w13 w13 D13 ∧ (
  IX x72 x30 1 fun (px79 : Addr) =>
  ST px79 0 [.int .i64 (bitOr .i64 x75 (shlI .i64 1 x57))] w13 fun w14 =>
  I19 (IntKind.i64.wrap (x57 + 1)) w14 ∧ m19 (IntKind.i64.wrap (x57 + 1)) w14 < m19 x57 w10)))))))) (
  I19 (IntKind.i64.wrap (x57 + 1)) w12 ∧ m19 (IntKind.i64.wrap (x57 + 1)) w12 < m19 x57 w10))) (
  I8 (IntKind.i64.wrap (x30 + 1)) w10 ∧ m8 (IntKind.i64.wrap (x30 + 1)) w10 < m8 x30 w6))) (
  Q px24 w6)))))

theorem C_i_newNodeSets {Q : Addr → World → Prop} {x0_0 : Int} {x0_1 : Int} {x0_2 : Sl} {x0_3 : Sl} {w : World} (h : V_i_newNodeSets Q x0_0 x0_1 x0_2 x0_3 w) : Calls Tryz.prog F.i_newNodeSets #[.agg #[.int .i64 x0_0, .int .i64 x0_1, x0_2.v, x0_3.v]] w (Ret [.at .ptr] Q) :=
  mkC (hint := hint) (ann := annOf [(3, ⟨[(3, .int .i64), (13, .int .i64)], [14, 15, 16, 17, 18, 19]⟩), (8, ⟨[(30, .int .i64)], [5, 6, 7, 8, 9, 31, 32, 33, 34, 35, 36, 37, 38, 39, 40, 41, 42, 43, 44, 45, 46, 47, 48, 49, 50, 51, 52, 53, 54, 55, 56, 57, 58, 59, 60, 61, 62, 63, 64, 65, 66, 67, 68, 69, 70, 71, 72, 73, 74, 75, 76, 77, 78, 79, 80, 81]⟩), (13, ⟨[(7, .int .i64), (40, .int .i64)], [8, 41, 42, 43, 44, 45, 46, 47, 48, 49, 50, 51, 52, 53, 54]⟩), (19, ⟨[(57, .int .i64)], [9, 58, 59, 60, 61, 62, 63, 64, 65, 66, 67, 68, 69, 70, 71, 72, 73, 74, 75, 76, 77, 78, 79, 80]⟩)]) (args := [.agg #[.int .i64 x0_0, .int .i64 x0_1, x0_2.v, x0_3.v]]) (rs := [.at .ptr]) Tryz.func260 (by kernel_rfl) (by kernel_rfl) h

def V_ptr_i_nodeSets_fullLists_k2 (Q : Sl → World → Prop) (x0 : Addr) (x23_3 : Sl) (x24 : Int) (w4 : World) : Prop :=
  ∃ (I3 : Sl → Int → World → Prop) (m3 : Sl → Int → World → Nat), I3 (⟨none, 0, 0⟩) 0 w4 ∧ ∀ (x3 : Sl) (x25 : Int) w5, I3 x3 x25 w5 → ∀ _ _ _ _ _ _ _ _ _ _ _ _ _ _ _ _ _ _ _ _ _ _ _ _ _ _ _ _ _ _ _ _ _ _ _ _ _ _ _ _ _ _ _ _ : Value,
  cond (decide ((x25 : Int) < x24)) (
  IX x23_3 x25 1 fun (px27 : Addr) =>
  LD [.sl] px27 w5 fun (x28 : Sl) =>
  LD [.int .i64] ((x0.add 0).add 1) w5 fun (x33 : Int) =>
  RUN Tryz.prog (.at .sl) (Instr.makeSlice T.t_sl_int (.int .i64 0) (.int .i64 x33)) w5 fun (x34 : Sl) w6 =>
  ∃ (I7 : Sl → Int → World → Prop) (m7 : Sl → Int → World → Nat), I7 x34 0 w6 ∧ ∀ (x6 : Sl) (x37 : Int) w7, I7 x6 x37 w7 → ∀ _ _ _ _ _ _ _ _ _ _ : Value,
  cond (decide ((x37 : Int) < x28.len)) (
  IX x28 x37 1 fun (px39 : Addr) =>
  LD [.int .i64] px39 w7 fun (x40 : Int) =>
  RUN Tryz.prog (.at .sl) (Instr.buildSlice T.t_sl_int 1 #[(0, .int .i64 (IntKind.i64.wrap (x40 + 1)))]) w7 fun (x44 : Sl) w8 =>
  RUN Tryz.prog (.at .sl) (bsem .append #[T.t_sl_int, T.t_sl_int] T.t_sl_int #[x6.v, x44.v]) w8 fun (x45 : Sl) w9 =>
  I7 x45 (IntKind.i64.wrap (x37 + 1)) w9 ∧ m7 x45 (IntKind.i64.wrap (x37 + 1)) w9 < m7 x6 x37 w7) (
  Calls Tryz.prog F.ptr_i_nodeSets_completing #[.pointer (some x0), x6.v] w7 (Ret [.at (.int .i64)] fun (x49 : Int) w10 =>
  cond ((x49 : Int) == 0) (
  I3 x3 (IntKind.i64.wrap (x25 + 1)) w10 ∧ m3 x3 (IntKind.i64.wrap (x25 + 1)) w10 < m3 x3 x25 w5) (
  RUN Tryz.prog (.at .sl) (Instr.buildSlice T.t_sl_int 1 #[(0, .int .i64 x49)]) w10 fun (x54 : Sl) w11 =>
  RUN Tryz.prog (.at .sl) (bsem .append #[T.t_sl_int, T.t_sl_int] T.t_sl_int #[x6.v, x54.v]) w11 fun (x55 : Sl) w12 =>
  Calls Tryz.prog F.ptr_i_nodeSets_isFull #[.pointer (some x0), x55.v] w12 (Ret [.at .bool] fun (x58 : Bool) w13 =>
  cond x58 (
  Calls Tryz.prog F.slices_Sort_sl_int_int #[x55.v] w13 (Ret [] fun w14 =>
  RUN Tryz.prog (.at .sl) (Instr.buildSlice T.t_sl_sl_int 1 #[(0, x55.v)]) w14 fun (x63 : Sl) w15 =>
  RUN Tryz.prog (.at .sl) (bsem .append #[T.t_sl_sl_int, T.t_sl_sl_int] T.t_sl_sl_int #[x3.v, x63.v]) w15 fun (x64 : Sl) w16 =>
  I3 x64 (IntKind.i64.wrap (x25 + 1)) w16 ∧ m3 x64 (IntKind.i64.wrap (x25 + 1)) w16 < m3 x3 x25 w5)) (
  I3 x3 (IntKind.i64.wrap (x25 + 1)) w13 ∧ m3 x3 (IntKind.i64.wrap (x25 + 1)) w13 < m3 x3 x25 w5)))))) (
  Calls Tryz.prog F.i_sortedLists #[x3.v] w5 (Ret [.at .sl] fun (x67_3 : Sl) w19 =>
  Q x67_3 w19))

def V_ptr_i_nodeSets_fullLists (Q : Sl → World → Prop) (x0 : Addr) (w : World) : Prop :=
  ∀ w1, Ext w w1 → w1.heap = w.heap →
  (
  Ext w1 w1 ∧ (
  LD [.int .i64] ((x0.add 0).add 0) w1 fun (x14 : Int) =>
  (0 : Int) ≤ x14 ∧ (
  Ext w1 w1 ∧ (
  Ext w1 w1 ∧ (
  Ext w1 w1 ∧ (
  LD [.int .i64] ((x0.add 0).add 1) w1 fun (x21 : Int) =>
  Ext w1 w1 ∧ (
  Ext w1 w1 ∧ (
  Calls Tryz.prog F.i_multisets #[.int .i64 (IntKind.i64.wrap ((shlI .i64 1 x14) - 1)), .int .i64 (IntKind.i64.wrap (x21 - 1))] w1 (Ret [.at .sl] fun (x23 : Sl) w2 =>
  Ext w1 w2 ∧ (
  Ext w2 w2 ∧ (
  V_ptr_i_nodeSets_fullLists_k2 Q x0 x23 x23.len w2))))))))))) ∧ (
  Ext w1 w1 ∧ (
  LD [.int .i64] ((x0.add 0).add 1) w1 fun (x21_2 : Int) =>
  Ext w1 w1 ∧ (
  Ext w1 w1 ∧ (
  Ext w1 w1 ∧ (
  LD [.int .i64] ((x0.add 0).add 0) w1 fun (x14_2 : Int) =>
  Ext w1 w1 ∧ (
  (0 : Int) ≤ x14_2 ∧ (
  Ext w1 w1 ∧ (
  Ext w1 w1 ∧ (
  Calls Tryz.prog F.i_multisets #[.int .i64 (IntKind.i64.wrap ((shlI .i64 1 x14_2) - 1)), .int .i64 (IntKind.i64.wrap (x21_2 - 1))] w1 (Ret [.at .sl] fun (x23_2 : Sl) w3 =>
  Ext w1 w3 ∧ (
  Ext w3 w3 ∧ (
  V_ptr_i_nodeSets_fullLists_k2 Q x0 x23_2 x23_2.len w3))))))))))))

theorem C_ptr_i_nodeSets_fullLists {Q : Sl → World → Prop} {x0 : Addr} {w : World} (h : V_ptr_i_nodeSets_fullLists Q x0 w) : Calls Tryz.prog F.ptr_i_nodeSets_fullLists #[.pointer (some x0)] w (Ret [.at .sl] Q) :=
  mkC (hint := hint) (ann := annOf [(3, ⟨[(3, .sl), (25, .int .i64)], [5, 6, 8, 9, 26, 27, 28, 29, 30, 31, 32, 33, 34, 35, 36, 37, 38, 39, 40, 41, 42, 43, 44, 45, 46, 47, 48, 49, 50, 51, 52, 53, 54, 55, 56, 57, 58, 59, 60, 61, 62, 63, 64, 65]⟩), (7, ⟨[(6, .sl), (37, .int .i64)], [8, 38, 39, 40, 41, 42, 43, 44, 45, 46]⟩)]) (args := [.pointer (some x0)]) (rs := [.at .sl]) Tryz.func261 (by kernel_rfl) (by kernel_rfl) h

def V_i_nodeStep_1 (Q : Bool → World → Prop) (c : Sl) (cap0 : Addr) (cap1 : Addr) (w : World) : Prop :=
  ∀ w1, Ext w w1 → w1.heap = w.heap →
  LD [.int .i64, .int .i64, .sl, .sl] cap0 w1 fun (x8_0 : Int) (x8_1 : Int) (x8_2 : Sl) (x8_3 : Sl) =>
  LD [.sl] cap1 w1 fun (x9 : Sl) =>
  Ext w1 w1 ∧ (
  Calls Tryz.prog F.i_listsOf #[x9.v, c.v] w1 (Ret [.at .sl] fun (x11 : Sl) w2 =>
  Ext w1 w2 ∧ (
  Calls Tryz.prog F.i_Problem_edgeChoice #[.agg #[.int .i64 x8_0, .int .i64 x8_1, x8_2.v, x8_3.v], x11.v] w2 (Ret [.at .sl, .at .bool] fun (x12_0 : Sl) (x12_1 : Bool) w3 =>
  Ext w1 w3 ∧ (
  Ext w1 w3 ∧ (
  Ext w1 w3 ∧ (
  Q x12_1 w3)))))))

theorem C_i_nodeStep_1 {Q : Bool → World → Prop} {c : Sl} {cap0 : Addr} {cap1 : Addr} {w : World} (h : V_i_nodeStep_1 Q c cap0 cap1 w) : Calls Tryz.prog F.i_nodeStep_1 #[c.v, .pointer (some cap0), .pointer (some cap1)] w (Ret [.at .bool] Q) :=
  mkC (hint := hint) (ann := annOf []) (args := [c.v, .pointer (some cap0), .pointer (some cap1)]) (rs := [.at .bool]) Tryz.func262 (by kernel_rfl) (by kernel_rfl) h

def V_i_Problem_edgeChoice (Q : Sl → Bool → World → Prop) (p_0 : Int) (p_1 : Int) (p_2 : Sl) (p_3 : Sl) (lists : Sl) (w : World) : Prop :=
  NEW T.t_i_Problem #[.int .i64 p_0, .int .i64 p_1, p_2.v, p_3.v] w fun (p_p : Addr) w1 =>
  Calls Tryz.prog F.i_firstChoice #[lists.v, .func (.func F.i_Problem_edgeChoice_1) #[] #[.pointer (some p_p)]] w1 (Ret [.at .sl, .at .bool] fun (x8_0 : Sl) (x8_1 : Bool) w2 =>
  Q x8_0 x8_1 w2)

theorem C_i_Problem_edgeChoice {Q : Sl → Bool → World → Prop} {p_0 : Int} {p_1 : Int} {p_2 : Sl} {p_3 : Sl} {lists : Sl} {w : World} (h : V_i_Problem_edgeChoice Q p_0 p_1 p_2 p_3 lists w) : Calls Tryz.prog F.i_Problem_edgeChoice #[.agg #[.int .i64 p_0, .int .i64 p_1, p_2.v, p_3.v], lists.v] w (Ret [.at .sl, .at .bool] Q) :=
  mkC (hint := hint) (ann := annOf []) (args := [.agg #[.int .i64 p_0, .int .i64 p_1, p_2.v, p_3.v], lists.v]) (rs := [.at .sl, .at .bool]) Tryz.func263 (by kernel_rfl) (by kernel_rfl) h

def V_i_hasConfiguration (Q : Bool → World → Prop) (list : Sl) (labels : Sl) (w : World) : Prop :=
  Calls Tryz.prog F.slices_Values_sl_int_int #[labels.v] w (Ret [.at .val] fun (x10 : Value) w1 =>
  Calls Tryz.prog F.slices_Sorted_int #[x10] w1 (Ret [.at .sl] fun (x11 : Sl) w2 =>
  Calls Tryz.prog F.slices_BinarySearchFunc_sl_sl_int_sl_int_sl_int #[list.v, x11.v, .func (.func F.slices_Compare_sl_int_int) #[] #[]] w2 (Ret [.at (.int .i64), .at .bool] fun (x12_0 : Int) (x12_1 : Bool) w3 =>
  Q x12_1 w3)))

theorem C_i_hasConfiguration {Q : Bool → World → Prop} {list : Sl} {labels : Sl} {w : World} (h : V_i_hasConfiguration Q list labels w) : Calls Tryz.prog F.i_hasConfiguration #[list.v, labels.v] w (Ret [.at .bool] Q) :=
  mkC (hint := hint) (ann := annOf []) (args := [list.v, labels.v]) (rs := [.at .bool]) Tryz.func264 (by kernel_rfl) (by kernel_rfl) h

def V_slices_IndexFunc_sl_sl_int_sl_int (Q : Int → World → Prop) (s : Sl) (f : Value) (w : World) : Prop :=
  ∃ (I2 : Int → World → Prop) (m2 : Int → World → Nat), I2 0 w ∧ ∀ (x8 : Int) w1, I2 x8 w1 → ∀ _ _ _ _ _ _ _ _ _ _ _ _ : Value,
  cond (decide ((x8 : Int) < s.len)) (
  IX s x8 1 fun (px14 : Addr) =>
  LD [.sl] px14 w1 fun (x15 : Sl) =>
  CALLV Tryz.prog f #[x15.v] w1 (Ret [.at .bool] fun (x16 : Bool) w2 =>
  cond x16 (
  Q x8 w2) (
  I2 (IntKind.i64.wrap (x8 + 1)) w2 ∧ m2 (IntKind.i64.wrap (x8 + 1)) w2 < m2 x8 w1))) (
  Q (-1) w1)

theorem C_slices_IndexFunc_sl_sl_int_sl_int {Q : Int → World → Prop} {s : Sl} {f : Value} {w : World} (h : V_slices_IndexFunc_sl_sl_int_sl_int Q s f w) : Calls Tryz.prog F.slices_IndexFunc_sl_sl_int_sl_int #[s.v, f] w (Ret [.at (.int .i64)] Q) :=
  mkC (hint := hint) (ann := annOf [(2, ⟨[(8, .int .i64)], [4, 5, 9, 10, 11, 12, 13, 14, 15, 16, 17, 18]⟩)]) (args := [s.v, f]) (rs := [.at (.int .i64)]) Tryz.func265 (by kernel_rfl) (by kernel_rfl) h

def V_s_elHas (Q : Bool → World → Prop) (set1 : Int) (a : Int) (w : World) : Prop :=
  (0 : Int) ≤ a ∧ (
  (2 : Int) ≠ 0 ∧ (
  Q (((Int.tmod (shrI .i64 set1 a) 2) : Int) == 1) w))

theorem C_s_elHas {Q : Bool → World → Prop} {set1 : Int} {a : Int} {w : World} (h : V_s_elHas Q set1 a w) : Calls Tryz.prog F.s_elHas #[.int .i64 set1, .int .i64 a] w (Ret [.at .bool] Q) :=
  mkC (hint := hint) (ann := annOf []) (args := [.int .i64 set1, .int .i64 a]) (rs := [.at .bool]) Tryz.func270 (by kernel_rfl) (by kernel_rfl) h

def V_s_elChoice (Q : Sl → Bool → World → Prop) (good : Sl) (sets : Sl) (chosen : Sl) (w : World) : Prop :=
  cond ((chosen.len : Int) == sets.len) (
  Calls Tryz.prog F.s_prSorted #[chosen.v] w (Ret [.at .sl] fun (x22 : Sl) w1 =>
  Calls Tryz.prog F.s_prHas #[good.v, x22.v] w1 (Ret [.at .bool] fun (x23 : Bool) w2 =>
  Q chosen x23 w2))) (
  IX sets chosen.len 1 fun (px26 : Addr) =>
  LD [.int .i64] px26 w fun (x27 : Int) =>
  Calls Tryz.prog F.s_elLabels #[.int .i64 x27] w (Ret [.at .sl] fun (x28 : Sl) w3 =>
  ∃ (I5 : Int → World → Prop) (m5 : Int → World → Nat), I5 0 w3 ∧ ∀ (x30 : Int) w4, I5 x30 w4 → ∀ _ _ _ _ _ _ _ _ _ _ _ _ _ _ _ _ _ _ _ _ _ _ : Value,
  cond (decide ((x30 : Int) < x28.len)) (
  IX x28 x30 1 fun (px32 : Addr) =>
  LD [.int .i64] px32 w4 fun (x33 : Int) =>
  Calls Tryz.prog F.s_l1Own #[chosen.v] w4 (Ret [.at .sl] fun (x38 : Sl) w5 =>
  RUN Tryz.prog (.at .sl) (Instr.buildSlice T.t_sl_int 1 #[(0, .int .i64 x33)]) w5 fun (x40 : Sl) w6 =>
  RUN Tryz.prog (.at .sl) (bsem .append #[T.t_sl_int, T.t_sl_int] T.t_sl_int #[x38.v, x40.v]) w6 fun (x41 : Sl) w7 =>
  Calls Tryz.prog F.s_elChoice #[good.v, sets.v, x41.v] w7 (Ret [.at .sl, .at .bool] fun (x42_0 : Sl) (x42_1 : Bool) w8 =>
  cond x42_1 (
  Q x42_0 true w8) (
  I5 (IntKind.i64.wrap (x30 + 1)) w8 ∧ m5 (IntKind.i64.wrap (x30 + 1)) w8 < m5 x30 w4)))) (
  Q (⟨none, 0, 0⟩) false w4)))

theorem C_s_elChoice {Q : Sl → Bool → World → Prop} {good : Sl} {sets : Sl} {chosen : Sl} {w : World} (h : V_s_elChoice Q good sets chosen w) : Calls Tryz.prog F.s_elChoice #[good.v, sets.v, chosen.v] w (Ret [.at .sl, .at .bool] Q) :=
  mkC (hint := hint) (ann := annOf [(5, ⟨[(30, .int .i64)], [6, 7, 10, 11, 12, 31, 32, 33, 34, 35, 36, 37, 38, 39, 40, 41, 42, 43, 44, 45, 46, 47]⟩)]) (args := [good.v, sets.v, chosen.v]) (rs := [.at .sl, .at .bool]) Tryz.func271 (by kernel_rfl) (by kernel_rfl) h

def V_i_isGoodPair (Q : Bool → World → Prop) (p_0 : Int) (p_1 : Int) (p_2 : Sl) (p_3 : Sl) (x : Sl) (y : Sl) (w : World) : Prop :=
  NEW T.t_i_Problem #[.int .i64 p_0, .int .i64 p_1, p_2.v, p_3.v] w fun (p_p : Addr) w1 =>
  LD [.int .i64, .int .i64, .sl, .sl] p_p w1 fun (x10_0 : Int) (x10_1 : Int) (x10_2 : Sl) (x10_3 : Sl) =>
  Calls Tryz.prog F.i_badPair #[.agg #[.int .i64 x10_0, .int .i64 x10_1, x10_2.v, x10_3.v], x.v, y.v] w1 (Ret [.at .sl, .at .bool] fun (x13_0 : Sl) (x13_1 : Bool) w2 =>
  Q (!x13_1) w2)

theorem C_i_isGoodPair {Q : Bool → World → Prop} {p_0 : Int} {p_1 : Int} {p_2 : Sl} {p_3 : Sl} {x : Sl} {y : Sl} {w : World} (h : V_i_isGoodPair Q p_0 p_1 p_2 p_3 x y w) : Calls Tryz.prog F.i_isGoodPair #[.agg #[.int .i64 p_0, .int .i64 p_1, p_2.v, p_3.v], x.v, y.v] w (Ret [.at .bool] Q) :=
  mkC (hint := hint) (ann := annOf []) (args := [.agg #[.int .i64 p_0, .int .i64 p_1, p_2.v, p_3.v], x.v, y.v]) (rs := [.at .bool]) Tryz.func274 (by kernel_rfl) (by kernel_rfl) h

def V_slices_Compact_sl_int_int (Q : Sl → World → Prop) (s : Sl) (w : World) : Prop :=
  cond (decide ((s.len : Int) < 2)) (
  Q s w) (
  ∃ (I4 : Int → World → Prop) (m4 : Int → World → Nat), I4 1 w ∧ ∀ (k : Int) w1, I4 k w1 → ∀ _ _ _ _ _ _ _ _ _ _ _ _ _ _ _ _ _ _ _ _ _ _ _ _ _ _ _ _ _ _ _ _ _ _ _ _ _ _ _ _ _ _ _ _ _ _ _ _ _ _ _ _ _ : Value,
  cond (decide ((k : Int) < s.len)) (
  IX s k 1 fun (px18 : Addr) =>
  LD [.int .i64] px18 w1 fun (x19 : Int) =>
  IX s (IntKind.i64.wrap (k - 1)) 1 fun (px23 : Addr) =>
  LD [.int .i64] px23 w1 fun (x24 : Int) =>
  ∀ w2, Ext w1 w2 →
  cond ((x19 : Int) == x24) (
  SLC s (some k) none 1 fun (x28 : Sl) =>
  ∃ (I9 : Int → Int → World → Prop) (m9 : Int → Int → World → Nat), I9 k 1 w2 ∧ ∀ (k_2 : Int) (k2 : Int) w3, I9 k_2 k2 w3 → ∀ _ _ _ _ _ _ _ _ _ _ _ _ _ _ _ _ _ _ _ _ _ _ _ _ _ : Value,
  cond (decide ((k2 : Int) < x28.len)) (
  IX x28 k2 1 fun (px37 : Addr) =>
  LD [.int .i64] px37 w3 fun (x38 : Int) =>
  IX x28 (IntKind.i64.wrap (k2 - 1)) 1 fun (px42 : Addr) =>
  LD [.int .i64] px42 w3 fun (x43 : Int) =>
  ∀ w4, Ext w3 w4 →
  cond ((x38 : Int) != x43) (
  IX x28 k2 1 fun (px49 : Addr) =>
  LD [.int .i64] px49 w4 fun (x50 : Int) =>
  IX s k_2 1 fun (px51 : Addr) =>
  ST px51 0 [.int .i64 x50] w4 fun w5 =>
  I9 (IntKind.i64.wrap (k_2 + 1)) (IntKind.i64.wrap (k2 + 1)) w5 ∧ m9 (IntKind.i64.wrap (k_2 + 1)) (IntKind.i64.wrap (k2 + 1)) w5 < m9 k_2 k2 w3) (
  I9 k_2 (IntKind.i64.wrap (k2 + 1)) w4 ∧ m9 k_2 (IntKind.i64.wrap (k2 + 1)) w4 < m9 k_2 k2 w3)) (
  SLC s (some k_2) none 1 fun (x56 : Sl) =>
  RUN Tryz.prog (.at .val) (bsem .clear #[T.t_sl_int] T.t_unit #[x56.v]) w3 fun (x : Value) w6 =>
  SLC s none (some k_2) 1 fun (x59 : Sl) =>
  Q x59 w6)) (
  I4 (IntKind.i64.wrap (k + 1)) w2 ∧ m4 (IntKind.i64.wrap (k + 1)) w2 < m4 k w1)) (
  Q s w1))

theorem C_slices_Compact_sl_int_int {Q : Sl → World → Prop} {s : Sl} {w : World} (h : V_slices_Compact_sl_int_int Q s w) : Calls Tryz.prog F.slices_Compact_sl_int_int #[s.v] w (Ret [.at .sl] Q) :=
  mkC (hint := hint) (ann := annOf [(4, ⟨[(3, .int .i64)], [2, 4, 5, 10, 11, 12, 13, 14, 15, 16, 17, 18, 19, 20, 21, 22, 23, 24, 25, 26, 27, 28, 29, 30, 31, 32, 33, 34, 35, 36, 37, 38, 39, 40, 41, 42, 43, 44, 45, 46, 47, 48, 49, 50, 51, 52, 53, 54, 55, 56, 57, 58, 59]⟩), (9, ⟨[(3, .int .i64), (5, .int .i64)], [29, 30, 31, 32, 33, 34, 35, 36, 37, 38, 39, 40, 41, 42, 43, 44, 45, 46, 47, 48, 49, 50, 51, 52, 53]⟩)]) (args := [s.v]) (rs := [.at .sl]) Tryz.func275 (by kernel_rfl) (by kernel_rfl) h

def V_slices_BinarySearch_sl_int_int (Q : Int → Bool → World → Prop) (x : Sl) (target : Int) (w : World) : Prop :=
  ∃ (I3 : Int → Int → World → Prop) (m3 : Int → Int → World → Nat), I3 0 x.len w ∧ ∀ (i : Int) (j : Int) w1, I3 i j w1 → ∀ _ _ _ _ _ _ _ _ _ _ _ _ _ _ _ _ _ _ _ : Value,
  cond (decide ((i : Int) < j)) (
  (0 : Int) ≤ 1 ∧ (
  IX x (IntKind.i64.wrap (shrI .u64 (IntKind.u64.wrap (IntKind.i64.wrap (i + j))) 1)) 1 fun (px24 : Addr) =>
  LD [.int .i64] px24 w1 fun (x25 : Int) =>
  Calls Tryz.prog F.cmp_Less_int #[.int .i64 x25, .int .i64 target] w1 (Ret [.at .bool] fun (x27 : Bool) w2 =>
  cond x27 (
  I3 (IntKind.i64.wrap ((IntKind.i64.wrap (shrI .u64 (IntKind.u64.wrap (IntKind.i64.wrap (i + j))) 1)) + 1)) j w2 ∧ m3 (IntKind.i64.wrap ((IntKind.i64.wrap (shrI .u64 (IntKind.u64.wrap (IntKind.i64.wrap (i + j))) 1)) + 1)) j w2 < m3 i j w1) (
  I3 i (IntKind.i64.wrap (shrI .u64 (IntKind.u64.wrap (IntKind.i64.wrap (i + j))) 1)) w2 ∧ m3 i (IntKind.i64.wrap (shrI .u64 (IntKind.u64.wrap (IntKind.i64.wrap (i + j))) 1)) w2 < m3 i j w1)))) (
  cond (decide ((i : Int) < x.len)) (
  IX x i 1 fun (px38 : Addr) =>
  LD [.int .i64] px38 w1 fun (x39 : Int) =>
  cond ((x39 : Int) == target) (
  Q i true w1) (
  IX x i 1 fun (px45 : Addr) =>
  LD [.int .i64] px45 w1 fun (x46 : Int) =>
  Calls Tryz.prog F.slices_isNaN_int #[.int .i64 x46] w1 (Ret [.at .bool] fun (x47 : Bool) w3 =>
  cond x47 (
  Calls Tryz.prog F.slices_isNaN_int #[.int .i64 target] w3 (Ret [.at .bool] fun (x50 : Bool) w4 =>
  Q i x50 w4)) (
  Q i false w3)))) (
  Q i false w1))

theorem C_slices_BinarySearch_sl_int_int {Q : Int → Bool → World → Prop} {x : Sl} {target : Int} {w : World} (h : V_slices_BinarySearch_sl_int_int Q x target w) : Calls Tryz.prog F.slices_BinarySearch_sl_int_int #[x.v, .int .i64 target] w (Ret [.at (.int .i64), .at .bool] Q) :=
  mkC (hint := hint) (ann := annOf [(3, ⟨[(7, .int .i64), (8, .int .i64)], [9, 13, 14, 15, 16, 17, 18, 19, 20, 21, 22, 23, 24, 25, 26, 27, 28, 29, 30]⟩)]) (args := [x.v, .int .i64 target]) (rs := [.at (.int .i64), .at .bool]) Tryz.func276 (by kernel_rfl) (by kernel_rfl) h

def V_i_sortedLists (Q : Sl → World → Prop) (list : Sl) (w : World) : Prop :=
  Calls Tryz.prog F.slices_SortFunc_sl_sl_int_sl_int #[list.v, .func (.func F.slices_Compare_sl_int_int) #[] #[]] w (Ret [] fun w1 =>
  Calls Tryz.prog F.slices_CompactFunc_sl_sl_int_sl_int #[list.v, .func (.func F.slices_Equal_sl_int_int) #[] #[]] w1 (Ret [.at .sl] fun (x6 : Sl) w2 =>
  Q x6 w2))

theorem C_i_sortedLists {Q : Sl → World → Prop} {list : Sl} {w : World} (h : V_i_sortedLists Q list w) : Calls Tryz.prog F.i_sortedLists #[list.v] w (Ret [.at .sl] Q) :=
  mkC (hint := hint) (ann := annOf []) (args := [list.v]) (rs := [.at .sl]) Tryz.func277 (by kernel_rfl) (by kernel_rfl) h

def V_slices_DeleteFunc_sl_sl_int_sl_int (Q : Sl → World → Prop) (s : Sl) (del : Value) (w : World) : Prop :=
  Calls Tryz.prog F.slices_IndexFunc_sl_sl_int_sl_int #[s.v, del] w (Ret [.at (.int .i64)] fun (x10 : Int) w1 =>
  cond ((x10 : Int) == (-1)) (
  Q s w1) (
  ∃ (I5 : Int → Int → World → Prop) (m5 : Int → Int → World → Nat), I5 x10 (IntKind.i64.wrap (x10 + 1)) w1 ∧ ∀ (i : Int) (j : Int) w2, I5 i j w2 → ∀ _ _ _ _ _ _ _ _ _ _ _ _ _ _ _ _ _ _ _ _ _ : Value,
  cond (decide ((j : Int) < s.len)) (
  IX s j 1 fun (px24 : Addr) =>
  LD [.sl] px24 w2 fun (x25 : Sl) =>
  CALLV Tryz.prog del #[x25.v] w2 (Ret [.at .bool] fun (x28 : Bool) w3 =>
  cond (!x28) (
  IX s i 1 fun (px33 : Addr) =>
  ST px33 0 [x25.v] w3 fun w4 =>
  I5 (IntKind.i64.wrap (i + 1)) (IntKind.i64.wrap (j + 1)) w4 ∧ m5 (IntKind.i64.wrap (i + 1)) (IntKind.i64.wrap (j + 1)) w4 < m5 i j w2) (
  I5 i (IntKind.i64.wrap (j + 1)) w3 ∧ m5 i (IntKind.i64.wrap (j + 1)) w3 < m5 i j w2))) (
  SLC s (some i) none 1 fun (x38 : Sl) =>
  RUN Tryz.prog (.at .val) (bsem .clear #[T.t_sl_sl_int] T.t_unit #[x38.v]) w2 fun (x : Value) w5 =>
  SLC s none (some i) 1 fun (x41 : Sl) =>
  Q x41 w5)))

theorem C_slices_DeleteFunc_sl_sl_int_sl_int {Q : Sl → World → Prop} {s : Sl} {del : Value} {w : World} (h : V_slices_DeleteFunc_sl_sl_int_sl_int Q s del w) : Calls Tryz.prog F.slices_DeleteFunc_sl_sl_int_sl_int #[s.v, del] w (Ret [.at .sl] Q) :=
  mkC (hint := hint) (ann := annOf [(5, ⟨[(5, .int .i64), (6, .int .i64)], [7, 16, 17, 18, 19, 20, 21, 22, 23, 24, 25, 26, 27, 28, 29, 30, 31, 32, 33, 34, 35]⟩)]) (args := [s.v, del]) (rs := [.at .sl]) Tryz.func278 (by kernel_rfl) (by kernel_rfl) h

def V_i_multisets_k7 (I6 : Sl → Int → World → Prop) (m6 : Sl → Int → World → Nat) (x17 : Int) (w3 : World) (labels : Int) (next1 : Sl) (x20 : Sl) (from1 : Int) (w4 : World) : Prop :=
  ∃ (I12 : Sl → Int → World → Prop) (m12 : Sl → Int → World → Nat), I12 next1 from1 w4 ∧ ∀ (next1_2 : Sl) (a : Int) w5, I12 next1_2 a w5 → ∀ _ _ _ _ _ _ _ _ _ _ _ _ _ : Value,
  cond (decide ((a : Int) < labels)) (
  Calls Tryz.prog F.slices_Clone_sl_int_int #[x20.v] w5 (Ret [.at .sl] fun (x38 : Sl) w6 =>
  RUN Tryz.prog (.at .sl) (Instr.buildSlice T.t_sl_int 1 #[(0, .int .i64 a)]) w6 fun (x40 : Sl) w7 =>
  RUN Tryz.prog (.at .sl) (bsem .append #[T.t_sl_int, T.t_sl_int] T.t_sl_int #[x38.v, x40.v]) w7 fun (x41 : Sl) w8 =>
  RUN Tryz.prog (.at .sl) (Instr.buildSlice T.t_sl_sl_int 1 #[(0, x41.v)]) w8 fun (x42 : Sl) w9 =>
  RUN Tryz.prog (.at .sl) (bsem .append #[T.t_sl_sl_int, T.t_sl_sl_int] T.t_sl_sl_int #[next1_2.v, x42.v]) w9 fun (x43 : Sl) w10 =>
  I12 x43 (IntKind.i64.wrap (a + 1)) w10 ∧ m12 x43 (IntKind.i64.wrap (a + 1)) w10 < m12 next1_2 a w5)) (
  I6 next1_2 (IntKind.i64.wrap (x17 + 1)) w5 ∧ m6 next1_2 (IntKind.i64.wrap (x17 + 1)) w5 < m6 next1 x17 w3)

def V_i_multisets (Q : Sl → World → Prop) (labels : Int) (size1 : Int) (w : World) : Prop :=
  RUN Tryz.prog (.at .sl) (Instr.buildSlice T.t_sl_sl_int 1 #[(0, .slice none 0 0)]) w fun (x11 : Sl) w1 =>
  ∃ (I3 : Sl → Int → World → Prop) (m3 : Sl → Int → World → Nat), I3 x11 0 w1 ∧ ∀ (out : Sl) (x13 : Int) w2, I3 out x13 w2 → ∀ _ _ _ _ _ _ _ _ _ _ _ _ _ _ _ _ _ _ _ _ _ _ _ _ _ _ _ _ _ _ _ _ _ _ _ _ _ : Value,
  cond (decide ((x13 : Int) < size1)) (
  ∃ (I6 : Sl → Int → World → Prop) (m6 : Sl → Int → World → Nat), I6 (⟨none, 0, 0⟩) 0 w2 ∧ ∀ (next1 : Sl) (x17 : Int) w3, I6 next1 x17 w3 → ∀ _ _ _ _ _ _ _ _ _ _ _ _ _ _ _ _ _ _ _ _ _ _ _ _ _ _ _ _ _ _ : Value,
  cond (decide ((x17 : Int) < out.len)) (
  IX out x17 1 fun (px19 : Addr) =>
  LD [.sl] px19 w3 fun (x20 : Sl) =>
  cond (decide ((x20.len : Int) > 0)) (
  IX x20 (IntKind.i64.wrap (x20.len - 1)) 1 fun (px28 : Addr) =>
  LD [.int .i64] px28 w3 fun (x29 : Int) =>
  V_i_multisets_k7 I6 m6 x17 w3 labels next1 x20 x29 w3) (
  V_i_multisets_k7 I6 m6 x17 w3 labels next1 x20 0 w3)) (
  I3 next1 (IntKind.i64.wrap (x13 + 1)) w3 ∧ m3 next1 (IntKind.i64.wrap (x13 + 1)) w3 < m3 out x13 w2)) (
  Q out w2)

theorem C_i_multisets {Q : Sl → World → Prop} {labels : Int} {size1 : Int} {w : World} (h : V_i_multisets Q labels size1 w) : Calls Tryz.prog F.i_multisets #[.int .i64 labels, .int .i64 size1] w (Ret [.at .sl] Q) :=
  mkC (hint := hint) (ann := annOf [(3, ⟨[(5, .sl), (13, .int .i64)], [6, 8, 9, 10, 14, 15, 16, 17, 18, 19, 20, 21, 22, 23, 24, 25, 26, 27, 28, 29, 30, 31, 32, 33, 34, 35, 36, 37, 38, 39, 40, 41, 42, 43, 44, 45, 46]⟩), (6, ⟨[(6, .sl), (17, .int .i64)], [8, 9, 10, 18, 19, 20, 21, 22, 23, 24, 25, 26, 27, 28, 29, 30, 31, 32, 33, 34, 35, 36, 37, 38, 39, 40, 41, 42, 43, 44]⟩), (12, ⟨[(6, .sl), (10, .int .i64)], [31, 32, 33, 34, 35, 36, 37, 38, 39, 40, 41, 42, 43]⟩)]) (args := [.int .i64 labels, .int .i64 size1]) (rs := [.at .sl]) Tryz.func279 (by kernel_rfl) (by kernel_rfl) h

def V_i_allowedBy_1 (Q : Bool → World → Prop) (c : Sl) (cap0 : Addr) (w : World) : Prop :=
  LD [.val] cap0 w fun (x4 : Value) =>
  CALLV Tryz.prog x4 #[c.v] w (Ret [.at .bool] fun (x6 : Bool) w1 =>
  Q (!x6) w1)

theorem C_i_allowedBy_1 {Q : Bool → World → Prop} {c : Sl} {cap0 : Addr} {w : World} (h : V_i_allowedBy_1 Q c cap0 w) : Calls Tryz.prog F.i_allowedBy_1 #[c.v, .pointer (some cap0)] w (Ret [.at .bool] Q) :=
  mkC (hint := hint) (ann := annOf []) (args := [c.v, .pointer (some cap0)]) (rs := [.at .bool]) Tryz.func280 (by kernel_rfl) (by kernel_rfl) h

def V_i_firstChoice (Q : Sl → Bool → World → Prop) (lists : Sl) (good_f : Fn) (good_t : Array Value) (good_c : Array Value) (w : World) : Prop :=
  NEW T.t_sl_sl_int #[lists.v] w fun (p_lists : Addr) w1 =>
  NEW T.t_func_sl_int_bool #[.func good_f good_t good_c] w1 fun (p_good : Addr) w2 =>
  LD [.sl] p_lists w2 fun (x8 : Sl) =>
  RUN Tryz.prog (.at .sl) (Instr.makeSlice T.t_sl_int (.int .i64 x8.len) (.int .i64 x8.len)) w2 fun (x10 : Sl) w3 =>
  NEW T.t_sl_int #[.slice none 0 0] w3 fun (p_labels : Addr) w4 =>
  ST p_labels 0 [x10.v] w4 fun w5 =>
  NEW T.t_func_int_bool_1 #[.nilFunc] w5 fun (p_fill : Addr) w6 =>
  ST p_fill 0 [.func (.func F.i_firstChoice_1) #[] #[.pointer (some p_lists), .pointer (some p_good), .pointer (some p_labels), .pointer (some p_fill)]] w6 fun w7 =>
  LD [.val] p_fill w7 fun (x12 : Value) =>
  CALLV Tryz.prog x12 #[.int .i64 0] w7 (Ret [.at .bool] fun (x13 : Bool) w8 =>
  cond (!x13) (
  Q (⟨none, 0, 0⟩) false w8) (
  LD [.sl] p_labels w8 fun (x15 : Sl) =>
  Q x15 true w8))

theorem C_i_firstChoice {Q : Sl → Bool → World → Prop} {lists : Sl} {good_f : Fn} {good_t : Array Value} {good_c : Array Value} {w : World} (h : V_i_firstChoice Q lists good_f good_t good_c w) : Calls Tryz.prog F.i_firstChoice #[lists.v, .func good_f good_t good_c] w (Ret [.at .sl, .at .bool] Q) :=
  mkC (hint := hint) (ann := annOf []) (args := [lists.v, .func good_f good_t good_c]) (rs := [.at .sl, .at .bool]) Tryz.func281 (by kernel_rfl) (by kernel_rfl) h

def V_i_Problem_nodeChoice_1 (Q : Bool → World → Prop) (labels : Sl) (cap0 : Addr) (w : World) : Prop :=
  LD [.int .i64, .int .i64, .sl, .sl] cap0 w fun (x4_0 : Int) (x4_1 : Int) (x4_2 : Sl) (x4_3 : Sl) =>
  Calls Tryz.prog F.i_Problem_node #[.agg #[.int .i64 x4_0, .int .i64 x4_1, x4_2.v, x4_3.v], labels.v] w (Ret [.at .bool] fun (x6 : Bool) w1 =>
  Q x6 w1)

theorem C_i_Problem_nodeChoice_1 {Q : Bool → World → Prop} {labels : Sl} {cap0 : Addr} {w : World} (h : V_i_Problem_nodeChoice_1 Q labels cap0 w) : Calls Tryz.prog F.i_Problem_nodeChoice_1 #[labels.v, .pointer (some cap0)] w (Ret [.at .bool] Q) :=
  mkC (hint := hint) (ann := annOf []) (args := [labels.v, .pointer (some cap0)]) (rs := [.at .bool]) Tryz.func282 (by kernel_rfl) (by kernel_rfl) h

def V_ptr_i_nodeSets_completing (Q : Int → World → Prop) (s : Addr) (sets : Sl) (w : World) : Prop :=
  NEW T.t_ptr_i_nodeSets #[.pointer (some s)] w fun (p_s : Addr) w1 =>
  NEW T.t_sl_int #[sets.v] w1 fun (p_sets : Addr) w2 =>
  LD [.ptr] p_s w2 fun (x7 : Addr) =>
  LD [.int .i64] ((x7.add 0).add 0) w2 fun (x11 : Int) =>
  (0 : Int) ≤ x11 ∧ (
  NEW T.t_int #[.int .i64 0] w2 fun (p_out : Addr) w3 =>
  ST p_out 0 [.int .i64 (IntKind.i64.wrap ((shlI .i64 1 x11) - 1))] w3 fun w4 =>
  NEW T.t_func_int_int_int_1 #[.nilFunc] w4 fun (p_fill : Addr) w5 =>
  ST p_fill 0 [.func (.func F.ptr_i_nodeSets_completing_1) #[] #[.pointer (some p_sets), .pointer (some p_out), .pointer (some p_s), .pointer (some p_fill)]] w5 fun w6 =>
  LD [.val] p_fill w6 fun (x15 : Value) =>
  CALLV Tryz.prog x15 #[.int .i64 0, .int .i64 0, .int .i64 1] w6 (Ret [] fun w7 =>
  LD [.int .i64] p_out w7 fun (x17 : Int) =>
  Q x17 w7))

theorem C_ptr_i_nodeSets_completing {Q : Int → World → Prop} {s : Addr} {sets : Sl} {w : World} (h : V_ptr_i_nodeSets_completing Q s sets w) : Calls Tryz.prog F.ptr_i_nodeSets_completing #[.pointer (some s), sets.v] w (Ret [.at (.int .i64)] Q) :=
  mkC (hint := hint) (ann := annOf []) (args := [.pointer (some s), sets.v]) (rs := [.at (.int .i64)]) Tryz.func283 (by kernel_rfl) (by kernel_rfl) h

def V_ptr_i_nodeSets_isFull (Q : Bool → World → Prop) (s : Addr) (list : Sl) (w : World) : Prop :=
  ∃ (I2 : Int → World → Prop) (m2 : Int → World → Nat), I2 0 w ∧ ∀ (x8 : Int) w1, I2 x8 w1 → ∀ _ _ _ _ _ _ _ _ _ _ _ _ _ _ _ _ _ _ : Value,
  cond (decide ((x8 : Int) < list.len)) (
  ∀ w2, Ext w1 w2 → w2.heap = w1.heap →
  IX list x8 1 fun (px21 : Addr) =>
  LD [.int .i64] px21 w2 fun (x22 : Int) =>
  Calls Tryz.prog F.slices_Clone_sl_int_int #[list.v] w2 (Ret [.at .sl] fun (x13 : Sl) w3 =>
  Ext w2 w3 ∧ (
  Calls Tryz.prog F.slices_Delete_sl_int_int #[x13.v, .int .i64 x8, .int .i64 (IntKind.i64.wrap (x8 + 1))] w3 (Ret [.at .sl] fun (x17 : Sl) w4 =>
  Ext w2 w4 ∧ (
  Calls Tryz.prog F.ptr_i_nodeSets_completing #[.pointer (some s), x17.v] w4 (Ret [.at (.int .i64)] fun (x18 : Int) w5 =>
  Ext w2 w5 ∧ (
  Ext w2 w5 ∧ (
  cond ((x18 : Int) != x22) (
  Q false w5) (
  I2 (IntKind.i64.wrap (x8 + 1)) w5 ∧ m2 (IntKind.i64.wrap (x8 + 1)) w5 < m2 x8 w1))))))))) (
  Q true w1)

theorem C_ptr_i_nodeSets_isFull {Q : Bool → World → Prop} {s : Addr} {list : Sl} {w : World} (h : V_ptr_i_nodeSets_isFull Q s list w) : Calls Tryz.prog F.ptr_i_nodeSets_isFull #[.pointer (some s), list.v] w (Ret [.at .bool] Q) :=
  mkC (hint := hint) (ann := annOf [(2, ⟨[(8, .int .i64)], [4, 5, 9, 10, 11, 12, 13, 14, 15, 16, 17, 18, 19, 20, 21, 22, 23, 24]⟩)]) (args := [.pointer (some s), list.v]) (rs := [.at .bool]) Tryz.func284 (by kernel_rfl) (by kernel_rfl) h

def V_i_Problem_edgeChoice_1 (Q : Bool → World → Prop) (labels : Sl) (cap0 : Addr) (w : World) : Prop :=
  LD [.int .i64, .int .i64, .sl, .sl] cap0 w fun (x4_0 : Int) (x4_1 : Int) (x4_2 : Sl) (x4_3 : Sl) =>
  IX labels 0 1 fun (px6 : Addr) =>
  LD [.int .i64] px6 w fun (x7 : Int) =>
  IX labels 1 1 fun (px9 : Addr) =>
  LD [.int .i64] px9 w fun (x10 : Int) =>
  QCALL Tryz.prog F.i_Problem_edge #[.agg #[.int .i64 x4_0, .int .i64 x4_1, x4_2.v, x4_3.v], .int .i64 x7, .int .i64 x10] w [.at .bool] fun (x11 : Bool) =>
  ∀ w1, Ext w w1 →
  Q x11 w1

theorem C_i_Problem_edgeChoice_1 {Q : Bool → World → Prop} {labels : Sl} {cap0 : Addr} {w : World} (h : V_i_Problem_edgeChoice_1 Q labels cap0 w) : Calls Tryz.prog F.i_Problem_edgeChoice_1 #[labels.v, .pointer (some cap0)] w (Ret [.at .bool] Q) :=
  mkC (hint := hint) (ann := annOf []) (args := [labels.v, .pointer (some cap0)]) (rs := [.at .bool]) Tryz.func285 (by kernel_rfl) (by kernel_rfl) h

def V_slices_BinarySearchFunc_sl_sl_int_sl_int_sl_int (Q : Int → Bool → World → Prop) (x : Sl) (target : Sl) (cmp : Value) (w : World) : Prop :=
  ∃ (I3 : Int → Int → World → Prop) (m3 : Int → Int → World → Nat), I3 0 x.len w ∧ ∀ (i : Int) (j : Int) w1, I3 i j w1 → ∀ _ _ _ _ _ _ _ _ _ _ _ _ _ _ _ _ _ _ _ _ _ : Value,
  cond (decide ((i : Int) < j)) (
  (0 : Int) ≤ 1 ∧ (
  IX x (IntKind.i64.wrap (shrI .u64 (IntKind.u64.wrap (IntKind.i64.wrap (i + j))) 1)) 1 fun (px27 : Addr) =>
  LD [.sl] px27 w1 fun (x28 : Sl) =>
  CALLV Tryz.prog cmp #[x28.v, target.v] w1 (Ret [.at (.int .i64)] fun (x30 : Int) w2 =>
  cond (decide ((x30 : Int) < 0)) (
  I3 (IntKind.i64.wrap ((IntKind.i64.wrap (shrI .u64 (IntKind.u64.wrap (IntKind.i64.wrap (i + j))) 1)) + 1)) j w2 ∧ m3 (IntKind.i64.wrap ((IntKind.i64.wrap (shrI .u64 (IntKind.u64.wrap (IntKind.i64.wrap (i + j))) 1)) + 1)) j w2 < m3 i j w1) (
  I3 i (IntKind.i64.wrap (shrI .u64 (IntKind.u64.wrap (IntKind.i64.wrap (i + j))) 1)) w2 ∧ m3 i (IntKind.i64.wrap (shrI .u64 (IntKind.u64.wrap (IntKind.i64.wrap (i + j))) 1)) w2 < m3 i j w1)))) (
  cond (decide ((i : Int) < x.len)) (
  IX x i 1 fun (px43 : Addr) =>
  LD [.sl] px43 w1 fun (x44 : Sl) =>
  CALLV Tryz.prog cmp #[x44.v, target.v] w1 (Ret [.at (.int .i64)] fun (x46 : Int) w3 =>
  Q i ((x46 : Int) == 0) w3)) (
  Q i false w1))

theorem C_slices_BinarySearchFunc_sl_sl_int_sl_int_sl_int {Q : Int → Bool → World → Prop} {x : Sl} {target : Sl} {cmp : Value} {w : World} (h : V_slices_BinarySearchFunc_sl_sl_int_sl_int_sl_int Q x target cmp w) : Calls Tryz.prog F.slices_BinarySearchFunc_sl_sl_int_sl_int_sl_int #[x.v, target.v, cmp] w (Ret [.at (.int .i64), .at .bool] Q) :=
  mkC (hint := hint) (ann := annOf [(3, ⟨[(9, .int .i64), (10, .int .i64)], [11, 15, 16, 17, 18, 19, 20, 21, 22, 23, 24, 25, 26, 27, 28, 29, 30, 31, 32, 33, 34]⟩)]) (args := [x.v, target.v, cmp]) (rs := [.at (.int .i64), .at .bool]) Tryz.func286 (by kernel_rfl) (by kernel_rfl) h

def V_slices_Sorted_int (Q : Sl → World → Prop) (seq : Value) (w : World) : Prop :=
  Calls Tryz.prog F.slices_Collect_int #[seq] w (Ret [.at .sl] fun (x5 : Sl) w1 =>
  Calls Tryz.prog F.slices_Sort_sl_int_int #[x5.v] w1 (Ret [] fun w2 =>
  Q x5 w2))

theorem C_slices_Sorted_int {Q : Sl → World → Prop} {seq : Value} {w : World} (h : V_slices_Sorted_int Q seq w) : Calls Tryz.prog F.slices_Sorted_int #[seq] w (Ret [.at .sl] Q) :=
  mkC (hint := hint) (ann := annOf []) (args := [seq]) (rs := [.at .sl]) Tryz.func287 (by kernel_rfl) (by kernel_rfl) h

def V_slices_Values_sl_int_int (Q : Value → World → Prop) (s : Sl) (w : World) : Prop :=
  NEW T.t_sl_int #[s.v] w fun (p_s : Addr) w1 =>
  Q (.func (.func F.slices_Values_sl_int_int_1) #[] #[.pointer (some p_s)]) w1

theorem C_slices_Values_sl_int_int {Q : Value → World → Prop} {s : Sl} {w : World} (h : V_slices_Values_sl_int_int Q s w) : Calls Tryz.prog F.slices_Values_sl_int_int #[s.v] w (Ret [.at .val] Q) :=
  mkC (hint := hint) (ann := annOf []) (args := [s.v]) (rs := [.at .val]) Tryz.func288 (by kernel_rfl) (by kernel_rfl) h

def V_i_badPair (Q : Sl → Bool → World → Prop) (p_0 : Int) (p_1 : Int) (p_2 : Sl) (p_3 : Sl) (x : Sl) (y : Sl) (w : World) : Prop :=
  NEW T.t_i_Problem #[.int .i64 p_0, .int .i64 p_1, p_2.v, p_3.v] w fun (p_p : Addr) w1 =>
  ∃ (I2 : Int → World → Prop) (m2 : Int → World → Nat), I2 0 w1 ∧ ∀ (x14 : Int) w2, I2 x14 w2 → ∀ _ _ _ _ _ _ _ _ _ _ _ _ _ _ _ _ _ _ _ _ _ _ _ : Value,
  cond (decide ((x14 : Int) < x.len)) (
  IX x x14 1 fun (px16 : Addr) =>
  LD [.int .i64] px16 w2 fun (x17 : Int) =>
  ∃ (I5 : Int → World → Prop) (m5 : Int → World → Nat), I5 0 w2 ∧ ∀ (x20 : Int) w3, I5 x20 w3 → ∀ _ _ _ _ _ _ _ _ _ _ _ _ _ _ _ : Value,
  cond (decide ((x20 : Int) < y.len)) (
  IX y x20 1 fun (px22 : Addr) =>
  LD [.int .i64] px22 w3 fun (x23 : Int) =>
  LD [.int .i64, .int .i64, .sl, .sl] p_p w3 fun (x24_0 : Int) (x24_1 : Int) (x24_2 : Sl) (x24_3 : Sl) =>
  Calls Tryz.prog F.i_Problem_edge #[.agg #[.int .i64 x24_0, .int .i64 x24_1, x24_2.v, x24_3.v], .int .i64 x17, .int .i64 x23] w3 (Ret [.at .bool] fun (x27 : Bool) w4 =>
  cond (!x27) (
  RUN Tryz.prog (.at .sl) (Instr.buildSlice T.t_sl_int 2 #[(0, .int .i64 x17), (1, .int .i64 x23)]) w4 fun (x31 : Sl) w5 =>
  Q x31 true w5) (
  I5 (IntKind.i64.wrap (x20 + 1)) w4 ∧ m5 (IntKind.i64.wrap (x20 + 1)) w4 < m5 x20 w3))) (
  I2 (IntKind.i64.wrap (x14 + 1)) w3 ∧ m2 (IntKind.i64.wrap (x14 + 1)) w3 < m2 x14 w2)) (
  Q (⟨none, 0, 0⟩) false w2)

theorem C_i_badPair {Q : Sl → Bool → World → Prop} {p_0 : Int} {p_1 : Int} {p_2 : Sl} {p_3 : Sl} {x : Sl} {y : Sl} {w : World} (h : V_i_badPair Q p_0 p_1 p_2 p_3 x y w) : Calls Tryz.prog F.i_badPair #[.agg #[.int .i64 p_0, .int .i64 p_1, p_2.v, p_3.v], x.v, y.v] w (Ret [.at .sl, .at .bool] Q) :=
  mkC (hint := hint) (ann := annOf [(2, ⟨[(14, .int .i64)], [6, 7, 9, 11, 15, 16, 17, 18, 19, 20, 21, 22, 23, 24, 25, 26, 27, 28, 29, 30, 31, 32, 33]⟩), (5, ⟨[(20, .int .i64)], [6, 7, 11, 21, 22, 23, 24, 25, 26, 27, 28, 29, 30, 31, 32]⟩)]) (args := [.agg #[.int .i64 p_0, .int .i64 p_1, p_2.v, p_3.v], x.v, y.v]) (rs := [.at .sl, .at .bool]) Tryz.func290 (by kernel_rfl) (by kernel_rfl) h

def V_slices_CompactFunc_sl_sl_int_sl_int (Q : Sl → World → Prop) (x0 : Sl) (x1 : Value) (w : World) : Prop :=
  cond (decide ((x0.len : Int) < 2)) (
  Q x0 w) (
  ∃ (I4 : Int → World → Prop) (m4 : Int → World → Nat), I4 1 w ∧ ∀ (x5 : Int) w1, I4 x5 w1 → ∀ _ _ _ _ _ _ _ _ _ _ _ _ _ _ _ _ _ _ _ _ _ _ _ _ _ _ _ _ _ _ _ _ _ _ _ _ _ _ _ _ _ _ _ _ _ _ _ _ _ _ _ _ _ _ _ _ : Value,
  cond (decide ((x5 : Int) < x0.len)) (
  ∀ w2, Ext w1 w2 → w2.heap = w1.heap →
  IX x0 x5 1 fun (px21 : Addr) =>
  LD [.sl] px21 w2 fun (x22 : Sl) =>
  Ext w2 w2 ∧ (
  Ext w2 w2 ∧ (
  IX x0 (IntKind.i64.wrap (x5 - 1)) 1 fun (px26 : Addr) =>
  Ext w2 w2 ∧ (
  LD [.sl] px26 w2 fun (x27 : Sl) =>
  Ext w2 w2 ∧ (
  CALLV Tryz.prog x1 #[x22.v, x27.v] w2 (Ret [.at .bool] fun (x28 : Bool) w3 =>
  Ext w2 w3 ∧ (
  cond x28 (
  SLC x0 (some x5) none 1 fun (x31 : Sl) =>
  ∃ (I9 : Int → Int → World → Prop) (m9 : Int → Int → World → Nat), I9 x5 1 w3 ∧ ∀ (x5_2 : Int) (x7 : Int) w4, I9 x5_2 x7 w4 → ∀ _ _ _ _ _ _ _ _ _ _ _ _ _ _ _ _ _ _ _ _ _ _ _ _ _ _ _ : Value,
  cond (decide ((x7 : Int) < x31.len)) (
  ∀ w5, Ext w4 w5 → w5.heap = w4.heap →
  IX x31 x7 1 fun (px41 : Addr) =>
  LD [.sl] px41 w5 fun (x42 : Sl) =>
  Ext w5 w5 ∧ (
  Ext w5 w5 ∧ (
  IX x31 (IntKind.i64.wrap (x7 - 1)) 1 fun (px46 : Addr) =>
  Ext w5 w5 ∧ (
  LD [.sl] px46 w5 fun (x47 : Sl) =>
  Ext w5 w5 ∧ (
  CALLV Tryz.prog x1 #[x42.v, x47.v] w5 (Ret [.at .bool] fun (x48 : Bool) w6 =>
  Ext w5 w6 ∧ (
  Ext w5 w6 ∧ (
  cond (!x48) (
  IX x31 x7 1 fun (px54 : Addr) =>
  LD [.sl] px54 w6 fun (x55 : Sl) =>
  IX x0 x5_2 1 fun (px56 : Addr) =>
  ST px56 0 [x55.v] w6 fun w7 =>
  I9 (IntKind.i64.wrap (x5_2 + 1)) (IntKind.i64.wrap (x7 + 1)) w7 ∧ m9 (IntKind.i64.wrap (x5_2 + 1)) (IntKind.i64.wrap (x7 + 1)) w7 < m9 x5_2 x7 w4) (
  I9 x5_2 (IntKind.i64.wrap (x7 + 1)) w6 ∧ m9 x5_2 (IntKind.i64.wrap (x7 + 1)) w6 < m9 x5_2 x7 w4))))))))) (
  SLC x0 (some x5_2) none 1 fun (x61 : Sl) =>
  RUN Tryz.prog (.at .val) (bsem .clear #[T.t_sl_sl_int] T.t_unit #[x61.v]) w4 fun (x : Value) w8 =>
  SLC x0 none (some x5_2) 1 fun (x64 : Sl) =>
  Q x64 w8)) (
  I4 (IntKind.i64.wrap (x5 + 1)) w3 ∧ m4 (IntKind.i64.wrap (x5 + 1)) w3 < m4 x5 w1)))))))) (
  Q x0 w1))

theorem C_slices_CompactFunc_sl_sl_int_sl_int {Q : Sl → World → Prop} {x0 : Sl} {x1 : Value} {w : World} (h : V_slices_CompactFunc_sl_sl_int_sl_int Q x0 x1 w) : Calls Tryz.prog F.slices_CompactFunc_sl_sl_int_sl_int #[x0.v, x1] w (Ret [.at .sl] Q) :=
  mkC (hint := hint) (ann := annOf [(4, ⟨[(5, .int .i64)], [4, 6, 7, 12, 13, 14, 15, 16, 17, 18, 19, 20, 21, 22, 23, 24, 25, 26, 27, 28, 29, 30, 31, 32, 33, 34, 35, 36, 37, 38, 39, 40, 41, 42, 43, 44, 45, 46, 47, 48, 49, 50, 51, 52, 53, 54, 55, 56, 57, 58, 59, 60, 61, 62, 63, 64]⟩), (9, ⟨[(5, .int .i64), (7, .int .i64)], [32, 33, 34, 35, 36, 37, 38, 39, 40, 41, 42, 43, 44, 45, 46, 47, 48, 49, 50, 51, 52, 53, 54, 55, 56, 57, 58]⟩)]) (args := [x0.v, x1]) (rs := [.at .sl]) Tryz.func293 (by kernel_rfl) (by kernel_rfl) h

def V_slices_Equal_sl_int_int (Q : Bool → World → Prop) (s1 : Sl) (s2 : Sl) (w : World) : Prop :=
  cond ((s1.len : Int) != s2.len) (
  Q false w) (
  ∃ (I4 : Int → World → Prop) (m4 : Int → World → Nat), I4 0 w ∧ ∀ (x13 : Int) w1, I4 x13 w1 → ∀ _ _ _ _ _ _ _ _ _ _ _ _ _ _ : Value,
  cond (decide ((x13 : Int) < s1.len)) (
  IX s1 x13 1 fun (px18 : Addr) =>
  LD [.int .i64] px18 w1 fun (x19 : Int) =>
  IX s2 x13 1 fun (px22 : Addr) =>
  LD [.int .i64] px22 w1 fun (x23 : Int) =>
  ∀ w2, Ext w1 w2 →
  cond ((x19 : Int) != x23) (
  Q false w2) (
  I4 (IntKind.i64.wrap (x13 + 1)) w2 ∧ m4 (IntKind.i64.wrap (x13 + 1)) w2 < m4 x13 w1)) (
  Q true w1))

theorem C_slices_Equal_sl_int_int {Q : Bool → World → Prop} {s1 : Sl} {s2 : Sl} {w : World} (h : V_slices_Equal_sl_int_int Q s1 s2 w) : Calls Tryz.prog F.slices_Equal_sl_int_int #[s1.v, s2.v] w (Ret [.at .bool] Q) :=
  mkC (hint := hint) (ann := annOf [(4, ⟨[(13, .int .i64)], [4, 5, 14, 15, 16, 17, 18, 19, 20, 21, 22, 23, 24, 25]⟩)]) (args := [s1.v, s2.v]) (rs := [.at .bool]) Tryz.func294 (by kernel_rfl) (by kernel_rfl) h

def V_i_firstChoice_1 (Q : Bool → World → Prop) (k : Int) (cap0 : Addr) (cap1 : Addr) (cap2 : Addr) (cap3 : Addr) (w : World) : Prop :=
  LD [.sl] cap0 w fun (x10 : Sl) =>
  cond ((k : Int) == x10.len) (
  LD [.val] cap1 w fun (x13 : Value) =>
  LD [.sl] cap2 w fun (x14 : Sl) =>
  CALLV Tryz.prog x13 #[x14.v] w (Ret [.at .bool] fun (x15 : Bool) w1 =>
  Q x15 w1)) (
  LD [.sl] cap0 w fun (x16 : Sl) =>
  IX x16 k 1 fun (px18 : Addr) =>
  LD [.sl] px18 w fun (x19 : Sl) =>
  ∃ (I4 : Int → World → Prop) (m4 : Int → World → Nat), I4 0 w ∧ ∀ (x21 : Int) w2, I4 x21 w2 → ∀ _ _ _ _ _ _ _ _ _ _ _ _ _ _ : Value,
  cond (decide ((x21 : Int) < x19.len)) (
  IX x19 x21 1 fun (px23 : Addr) =>
  LD [.int .i64] px23 w2 fun (x24 : Int) =>
  LD [.sl] cap2 w2 fun (x25 : Sl) =>
  IX x25 k 1 fun (px28 : Addr) =>
  ST px28 0 [.int .i64 x24] w2 fun w3 =>
  LD [.val] cap3 w3 fun (x29 : Value) =>
  CALLV Tryz.prog x29 #[.int .i64 (IntKind.i64.wrap (k + 1))] w3 (Ret [.at .bool] fun (x32 : Bool) w4 =>
  cond x32 (
  Q true w4) (
  I4 (IntKind.i64.wrap (x21 + 1)) w4 ∧ m4 (IntKind.i64.wrap (x21 + 1)) w4 < m4 x21 w2))) (
  Q false w2))

theorem C_i_firstChoice_1 {Q : Bool → World → Prop} {k : Int} {cap0 : Addr} {cap1 : Addr} {cap2 : Addr} {cap3 : Addr} {w : World} (h : V_i_firstChoice_1 Q k cap0 cap1 cap2 cap3 w) : Calls Tryz.prog F.i_firstChoice_1 #[.int .i64 k, .pointer (some cap0), .pointer (some cap1), .pointer (some cap2), .pointer (some cap3)] w (Ret [.at .bool] Q) :=
  mkC (hint := hint) (ann := annOf [(4, ⟨[(21, .int .i64)], [6, 8, 22, 23, 24, 25, 26, 27, 28, 29, 30, 31, 32, 33]⟩)]) (args := [.int .i64 k, .pointer (some cap0), .pointer (some cap1), .pointer (some cap2), .pointer (some cap3)]) (rs := [.at .bool]) Tryz.func295 (by kernel_rfl) (by kernel_rfl) h

def V_ptr_i_nodeSets_completing_1 (Q : World → Prop) (k : Int) (key : Int) (weight : Int) (cap0 : Addr) (cap1 : Addr) (cap2 : Addr) (cap3 : Addr) (w : World) : Prop :=
  LD [.sl] cap0 w fun (x12 : Sl) =>
  cond ((k : Int) == x12.len) (
  ∀ w1, Ext w w1 → w1.heap = w.heap → ∃ (D1 : Nat → Prop),
  ¬ D1 cap1.block ∧ (
  LD [.int .i64] cap1 w1 fun (x15 : Int) =>
  LD [.ptr] cap2 w1 fun (x16 : Addr) =>
  Chg w1 w1 D1 ∧ (
  Chg w1 w1 D1 ∧ (
  Chg w1 w1 D1 ∧ (
  LD [.sl] (x16.add 4) w1 fun (x19 : Sl) =>
  Chg w1 w1 D1 ∧ (
  IX x19 key 1 fun (px21 : Addr) =>
  Chg w1 w1 D1 ∧ (
  LD [.int .i64] px21 w1 fun (x22 : Int) =>
  Chg w1 w1 D1 ∧ (
  ST cap1 0 [.int .i64 (bitAnd .i64 x15 x22)] w1 fun w2 =>
  Q w2)))))))) (
  LD [.ptr] cap2 w fun (x24 : Addr) =>
  LD [.int .i64] ((x24.add 0).add 0) w fun (x28 : Int) =>
  ∃ (I3 : Int → World → Prop) (m3 : Int → World → Nat), I3 0 w ∧ ∀ (x29 : Int) w3, I3 x29 w3 → ∀ _ _ _ _ _ _ _ _ _ _ _ _ _ _ _ _ _ _ _ _ _ _ _ _ _ _ _ _ _ _ _ _ : Value,
  cond (decide ((x29 : Int) < x28)) (
  LD [.sl] cap0 w3 fun (x32 : Sl) =>
  IX x32 k 1 fun (px34 : Addr) =>
  LD [.int .i64] px34 w3 fun (x35 : Int) =>
  (0 : Int) ≤ x29 ∧ (
  cond (((bitAnd .i64 (shrI .i64 x35 x29) 1) : Int) == 1) (
  LD [.int .i64] cap1 w3 fun (x41 : Int) =>
  cond ((x41 : Int) != 0) (
  ∀ w4, Ext w3 w4 → w4.heap = w3.heap → ∃ (D4 : Nat → Prop),
  ¬ D4 cap3.block ∧ (
  LD [.val] cap3 w4 fun (x44 : Value) =>
  LD [.ptr] cap2 w4 fun (x53 : Addr) =>
  Chg w4 w4 D4 ∧ (
  Chg w4 w4 D4 ∧ (
  Chg w4 w4 D4 ∧ (
  Chg w4 w4 D4 ∧ (
  LD [.int .i64] ((x53.add 0).add 0) w4 fun (x57 : Int) =>
  Chg w4 w4 D4 ∧ (
  Chg w4 w4 D4 ∧ (
  CALLV Tryz.prog x44 #[.int .i64 (IntKind.i64.wrap (k + 1)), .int .i64 (IntKind.i64.wrap (key + (IntKind.i64.wrap (x29 * weight)))), .int .i64 (IntKind.i64.wrap (weight * x57))] w4 (Ret [] fun w5 =>
  I3 (IntKind.i64.wrap (x29 + 1)) w5 ∧ m3 (IntKind.i64.wrap (x29 + 1)) w5 < m3 x29 w3))))))))) (
  I3 (IntKind.i64.wrap (x29 + 1)) w3 ∧ m3 (IntKind.i64.wrap (x29 + 1)) w3 < m3 x29 w3)) (
  I3 (IntKind.i64.wrap (x29 + 1)) w3 ∧ m3 (IntKind.i64.wrap (x29 + 1)) w3 < m3 x29 w3))) (
  Q w3))

theorem C_ptr_i_nodeSets_completing_1 {Q : World → Prop} {k : Int} {key : Int} {weight : Int} {cap0 : Addr} {cap1 : Addr} {cap2 : Addr} {cap3 : Addr} {w : World} (h : V_ptr_i_nodeSets_completing_1 Q k key weight cap0 cap1 cap2 cap3 w) : Calls Tryz.prog F.ptr_i_nodeSets_completing_1 #[.int .i64 k, .int .i64 key, .int .i64 weight, .pointer (some cap0), .pointer (some cap1), .pointer (some cap2), .pointer (some cap3)] w (Ret [] Q) :=
  mkC (hint := hint) (ann := annOf [(500001, ⟨[], [1]⟩), (3, ⟨[(29, .int .i64)], [10, 30, 31, 32, 33, 34, 35, 36, 37, 38, 39, 40, 41, 42, 43, 44, 45, 46, 47, 48, 49, 50, 51, 52, 53, 54, 55, 56, 57, 58, 59, 60]⟩), (500006, ⟨[], [1]⟩)]) (args := [.int .i64 k, .int .i64 key, .int .i64 weight, .pointer (some cap0), .pointer (some cap1), .pointer (some cap2), .pointer (some cap3)]) (rs := []) Tryz.func296 (by kernel_rfl) (by kernel_rfl) h

def V_slices_Collect_int (Q : Sl → World → Prop) (seq : Value) (w : World) : Prop :=
  Calls Tryz.prog F.slices_AppendSeq_sl_int_int #[.slice none 0 0, seq] w (Ret [.at .sl] fun (x4 : Sl) w1 =>
  Q x4 w1)

theorem C_slices_Collect_int {Q : Sl → World → Prop} {seq : Value} {w : World} (h : V_slices_Collect_int Q seq w) : Calls Tryz.prog F.slices_Collect_int #[seq] w (Ret [.at .sl] Q) :=
  mkC (hint := hint) (ann := annOf []) (args := [seq]) (rs := [.at .sl]) Tryz.func298 (by kernel_rfl) (by kernel_rfl) h

end Go.Proofs.YtaeledhbkdakcaaGreatDoor
end

section
/- What the code of the comparison of integers computes to. Printed by a program. -/
namespace Go.Proofs.YtaeledhbkdakcaaGreatDoor
open Go.GX Go.RowKit
set_option linter.unusedVariables false
set_option maxRecDepth 100000

def V_cmp_Compare_int (Q : Int → World → Prop) (x : Int) (y : Int) (w : World) : Prop :=
  Calls Tryz.prog F.cmp_isNaN_int #[.int .i64 x] w (Ret [.at .bool] fun (x8 : Bool) w1 =>
  Calls Tryz.prog F.cmp_isNaN_int #[.int .i64 y] w1 (Ret [.at .bool] fun (x10 : Bool) w2 =>
  cond x8 (
  cond x10 (
  Q 0 w2) (
  Q (-1) w2)) (
  cond x10 (
  Q 1 w2) (
  cond (decide ((x : Int) < y)) (
  Q (-1) w2) (
  cond (decide ((x : Int) > y)) (
  Q 1 w2) (
  Q 0 w2))))))

theorem C_cmp_Compare_int {Q : Int → World → Prop} {x : Int} {y : Int} {w : World} (h : V_cmp_Compare_int Q x y w) : Calls Tryz.prog F.cmp_Compare_int #[.int .i64 x, .int .i64 y] w (Ret [.at (.int .i64)] Q) :=
  mkC (hint := hint) (ann := annOf []) (args := [.int .i64 x, .int .i64 y]) (rs := [.at (.int .i64)]) Tryz.func115 (by kernel_rfl) (by kernel_rfl) h

def V_cmp_isNaN_int (Q : Bool → World → Prop) (x : Int) (w : World) : Prop :=
  Q ((x : Int) != x) w

theorem C_cmp_isNaN_int {Q : Bool → World → Prop} {x : Int} {w : World} (h : V_cmp_isNaN_int Q x w) : Calls Tryz.prog F.cmp_isNaN_int #[.int .i64 x] w (Ret [.at .bool] Q) :=
  mkC (hint := hint) (ann := annOf []) (args := [.int .i64 x]) (rs := [.at .bool]) Tryz.func149 (by kernel_rfl) (by kernel_rfl) h

def V_cmp_Less_int (Q : Bool → World → Prop) (x : Int) (y : Int) (w : World) : Prop :=
  Calls Tryz.prog F.cmp_isNaN_int #[.int .i64 x] w (Ret [.at .bool] fun (x6 : Bool) w1 =>
  cond x6 (
  Calls Tryz.prog F.cmp_isNaN_int #[.int .i64 y] w1 (Ret [.at .bool] fun (x9 : Bool) w2 =>
  cond (!x9) (
  Q true w2) (
  Q (decide ((x : Int) < y)) w2))) (
  Q (decide ((x : Int) < y)) w1))

theorem C_cmp_Less_int {Q : Bool → World → Prop} {x : Int} {y : Int} {w : World} (h : V_cmp_Less_int Q x y w) : Calls Tryz.prog F.cmp_Less_int #[.int .i64 x, .int .i64 y] w (Ret [.at .bool] Q) :=
  mkC (hint := hint) (ann := annOf []) (args := [.int .i64 x, .int .i64 y]) (rs := [.at .bool]) Tryz.func159 (by kernel_rfl) (by kernel_rfl) h

end Go.Proofs.YtaeledhbkdakcaaGreatDoor
end

section
/- What the code of the stable sort computes to. Printed by a program. -/
namespace Go.Proofs.YtaeledhbkdakcaaGreatDoor
open Go.GX Go.RowKit
set_option linter.unusedVariables false
set_option maxRecDepth 100000

end Go.Proofs.YtaeledhbkdakcaaGreatDoor
end

section
/- All functions' propositions of this seat. -/
end

section
/- Contracts of the small functions. -/
namespace Go.Proofs.YtaeledhbkdakcaaGreatDoor
open Go.GX Go.RowKit

def inR (n lo hi : Int) : Bool := decide (lo ≤ n) && decide (n ≤ hi)

theorem inR_true {n lo hi : Int} (h : inR n lo hi = true) : lo ≤ n ∧ n ≤ hi := by simpa [inR] using h
theorem inR_false {n lo hi : Int} (h : inR n lo hi = false) : ¬ (lo ≤ n ∧ n ≤ hi) := by
  intro ⟨h1, h2⟩; simp [inR, h1, h2] at h

theorem within_ok (n lo hi : Int) (w : World) : Calls Tryz.prog F.i_within #[.int .i64 n, .int .i64 lo, .int .i64 hi] w (Ret [.at .bool] fun (b : Bool) w' => b = inR n lo hi ∧ w = w') := by
  refine C_i_within ?_
  unfold V_i_within inR
  by_cases h : lo ≤ n <;> simp [h]

theorem l1In_ok (n lo hi : Int) (w : World) : Calls Tryz.prog F.s_l1In #[.int .i64 n, .int .i64 lo, .int .i64 hi] w (Ret [.at .bool] fun (b : Bool) w' => b = inR n lo hi ∧ w = w') := by
  refine C_s_l1In ?_
  unfold V_s_l1In inR
  by_cases h : lo ≤ n <;> simp [h]

theorem l1Has_ok {w : World} {s : Sl} {l : List Int} (h : R w s l) (n : Int) :
    Calls Tryz.prog F.s_l1Has #[s.v, .int .i64 n] w (Ret [.at .bool] fun (b : Bool) w' => b = l.contains n ∧ w = w') := by
  refine C_s_l1Has ?_
  unfold V_s_l1Has
  refine ⟨IN l.length fun i w' => w' = w ∧ n ∉ l.take i, MN l.length, IN_zero ⟨rfl, by simp⟩, ?_⟩
  rintro x w1 ⟨i, rfl, hi, rfl, hn⟩
  intros
  rw [h.len]
  refine cond_dec (fun hlt => ?_) (fun hge => ⟨?_, rfl⟩)
  · have hlt' : i < l.length := by omega
    refine h.ixI hlt' fun p _ hc => ?_
    refine LD_int hc ?_
    refine cond_eq (fun he => ⟨?_, rfl⟩) (fun he => ?_)
    · simp [← he]
    · exact IN_next h.le hlt' ⟨rfl, not_mem_take_succ hlt' hn he⟩
  · have hil : i = l.length := by omega
    subst hil
    simp at hn
    simp [hn]

end Go.Proofs.YtaeledhbkdakcaaGreatDoor
end

section
/- Networks: how they lie in memory, and the contracts of the functions that copy, weigh and compare them. -/
namespace Go.Proofs.YtaeledhbkdakcaaGreatDoor
open Go.GX Go.RowKit
set_option maxRecDepth 100000

structure Net where
  ends : List (List (Int × Int))
  ids : List Int
  inputs : List Int

/-- Three slices read as a network. -/
def RNet (w : World) (a b c : Sl) (n : Net) : Prop := R w a n.ends ∧ R w b n.ids ∧ R w c n.inputs

theorem RNet.ext {w w' : World} {a b c : Sl} {n : Net} (h : RNet w a b c n) (hE : Ext w w') : RNet w' a b c n := ⟨h.1.ext hE, h.2.1.ext hE, h.2.2.ext hE⟩

theorem slt_int : SlT Tryz.prog T.t_sl_int T.t_int 1 8 (.int .i64 0) := ⟨by kernel_rfl, by kernel_rfl, rfl, by decide⟩

theorem flat_ok {w : World} {s : Sl} {l : List Int} (h : R w s l) : ∀ x ∈ l, I64 x := fun x hx => by
  obtain ⟨i, hi, rfl⟩ := List.mem_iff_getElem.1 hx
  obtain ⟨_, _, _, _, ⟨_, h1⟩, _⟩ := h.2.2 i l[i] (by simp [hi])
  exact h1

theorem eqIntS_ok {w : World} {a b : Sl} {l m : List Int} (ha : R w a l) (hb : R w b m) :
    Calls Tryz.prog F.l_eqIntS #[a.v, b.v] w (Ret [.at .bool] fun (x : Bool) w' => x = decide (l = m) ∧ Ext w w') := by
  refine C_l_eqIntS ?_
  unfold V_l_eqIntS
  rw [ha.len, hb.len]
  refine cond_ne (fun hne => ⟨?_, Ext.refl _⟩) (fun he => ?_)
  · rw [decide_eq_false]; intro h; subst h; exact hne rfl
  · have hl : l.length = m.length := by omega
    refine ⟨IN l.length fun i w' => Ext w w' ∧ l.take i = m.take i, MN l.length, IN_zero ⟨Ext.refl _, by simp⟩, ?_⟩
    rintro x w1 ⟨i, rfl, hi, hE, ht⟩
    intros
    refine cond_dec (fun hlt => ?_) (fun hge => ⟨?_, hE⟩)
    · have h1 : i < l.length := by omega
      have h2 : i < m.length := by omega
      refine (ha.ext hE).ixI h1 fun p _ hc => LD_int hc ?_
      refine (hb.ext hE).ixI h2 fun p _ hc => LD_int hc ?_
      intro w2 hE2
      refine cond_ne (fun hne => ⟨?_, hE.trans hE2⟩) (fun heq => ?_)
      · rw [decide_eq_false]; intro h; subst h; exact hne rfl
      · exact IN_next ha.le h1 ⟨hE.trans hE2, by rw [List.take_succ_eq_append_getElem h1, List.take_succ_eq_append_getElem h2, ht, heq]⟩
    · have h3 : i = l.length := by omega
      subst h3
      rw [decide_eq_true]
      have h4 : m.take l.length = m := List.take_of_length_le (by omega)
      rw [h4, List.take_length] at ht
      exact ht



/-- A network that fits the law's bound. -/
def Small (n : Net) : Prop := n.ends.length ≤ 1048576 ∧ (∀ r ∈ n.ends, r.length ≤ 1048576) ∧ n.ids.length ≤ 1048576 ∧ n.inputs.length ≤ 1048576


end Go.Proofs.YtaeledhbkdakcaaGreatDoor
end

section
/- The contract of slices.Sort at []int (the kit's shelf, laid at this program by the kit's own tools, in plain words): for every slice the cells are then in order. -/
namespace Go.Proofs.YtaeledhbkdakcaaGreatDoor
open Go.Shelf
def Srt.lays189_ren : Go.Shelf.Ren := ⟨fun | 189 => 85 | 125 => 126 | 257 => 125 | 128 => 162 | 129 => 163 | 294 => 153 | 295 => 154 | 296 => 155 | 297 => 156 | 298 => 157 | 299 => 158 | 216 => 159 | 300 => 160 | 301 => 161 | 328 => 182 | 329 => 183 | 330 => 184 | 331 => 185 | 332 => 186 | 215 => 149 | 343 => 206 | n => n, fun | 28 => 25 | 3 => 3 | 46 => 84 | 0 => 0 | 51 => 132 | 53 => 135 | 4 => 4 | 183 => 160 | 182 => 159 | 131 => 48 | 5 => 5 | 9 => 9 | 218 => 177 | 222 => 181 | 228 => 194 | 229 => 195 | n => n, fun | n => n⟩
theorem Srt.lays189 : Go.Proofs.Lays.n189 Tryz.prog Srt.lays189_ren := {
  mixed := by kernel_rfl
  f125 := Tryz.func126.trans (congrArg some (by kernel_rfl))
  f128 := Tryz.func162.trans (congrArg some (by kernel_rfl))
  f129 := Tryz.func163.trans (congrArg some (by kernel_rfl))
  f189 := Tryz.func85.trans (congrArg some (by kernel_rfl))
  f215 := Tryz.func149.trans (congrArg some (by kernel_rfl))
  f216 := Tryz.func159.trans (congrArg some (by kernel_rfl))
  f257 := Tryz.func125.trans (congrArg some (by kernel_rfl))
  f294 := Tryz.func153.trans (congrArg some (by kernel_rfl))
  f295 := Tryz.func154.trans (congrArg some (by kernel_rfl))
  f296 := Tryz.func155.trans (congrArg some (by kernel_rfl))
  f297 := Tryz.func156.trans (congrArg some (by kernel_rfl))
  f298 := Tryz.func157.trans (congrArg some (by kernel_rfl))
  f299 := Tryz.func158.trans (congrArg some (by kernel_rfl))
  f300 := Tryz.func160.trans (congrArg some (by kernel_rfl))
  f301 := Tryz.func161.trans (congrArg some (by kernel_rfl))
  f328 := Tryz.func182.trans (congrArg some (by kernel_rfl))
  f329 := Tryz.func183.trans (congrArg some (by kernel_rfl))
  f330 := Tryz.func184.trans (congrArg some (by kernel_rfl))
  f331 := Tryz.func185.trans (congrArg some (by kernel_rfl))
  f332 := Tryz.func186.trans (congrArg some (by kernel_rfl))
  f343 := Tryz.func206.trans (congrArg some (by kernel_rfl))
  t0 := Tryz.underlying0
  a0 := Tryz.isAgg0
  z0 := Tryz.sizeOf0
  v0 := Tryz.zeroValue0
  t3 := Tryz.underlying3
  a3 := Tryz.isAgg3
  z3 := Tryz.sizeOf3
  v3 := Tryz.zeroValue3
  t4 := Tryz.underlying4
  a4 := Tryz.isAgg4
  z4 := Tryz.sizeOf4
  v4 := Tryz.zeroValue4
  t5 := Tryz.underlying5
  a5 := Tryz.isAgg5
  z5 := Tryz.sizeOf5
  v5 := Tryz.zeroValue5
  t9 := Tryz.underlying9
  a9 := Tryz.isAgg9
  z9 := Tryz.sizeOf9
  v9 := Tryz.zeroValue9
  t28 := Tryz.underlying25
  a28 := Tryz.isAgg25
  z28 := Tryz.sizeOf25
  v28 := Tryz.zeroValue25
  t46 := Tryz.underlying84
  a46 := Tryz.isAgg84
  z46 := Tryz.sizeOf84
  v46 := Tryz.zeroValue84
  t51 := Tryz.underlying132
  a51 := Tryz.isAgg132
  z51 := Tryz.sizeOf132
  v51 := Tryz.zeroValue132
  t53 := Tryz.underlying135
  a53 := Tryz.isAgg135
  z53 := Tryz.sizeOf135
  v53 := Tryz.zeroValue135
  t131 := Tryz.underlying48
  a131 := Tryz.isAgg48
  z131 := Tryz.sizeOf48
  v131 := Tryz.zeroValue48
  t182 := Tryz.underlying159
  a182 := Tryz.isAgg159
  z182 := Tryz.sizeOf159
  v182 := Tryz.zeroValue159
  t183 := Tryz.underlying160
  a183 := Tryz.isAgg160
  z183 := Tryz.sizeOf160
  v183 := Tryz.zeroValue160
  t218 := Tryz.underlying177
  a218 := Tryz.isAgg177
  z218 := Tryz.sizeOf177
  v218 := Tryz.zeroValue177
  t222 := Tryz.underlying181
  a222 := Tryz.isAgg181
  z222 := Tryz.sizeOf181
  v222 := Tryz.zeroValue181
  t228 := Tryz.underlying194
  a228 := Tryz.isAgg194
  z228 := Tryz.sizeOf194
  v228 := Tryz.zeroValue194
  t229 := Tryz.underlying195
  a229 := Tryz.isAgg195
  z229 := Tryz.sizeOf195
  v229 := Tryz.zeroValue195 }
open Go.Sort Go.RowKit in
theorem Srt.slices_Sort_int (blk off cap : Nat) (zs : List Int) (w : World) (hH : Holds (Value.int .i64) w blk off zs.toArray) (hblk : blk < w.heap.size) (hsz : zs.length < 4611686018427387904) :
    Calls Tryz.prog 85 #[.slice (some ⟨blk, off, none⟩) zs.length cap] w fun e w' =>
      e = .returned (.tuple #[]) ∧ ∃ n os, w' = grow (putRow (Value.int .i64) (Sort.ahead w n) blk off (zs.mergeSort fun x y => decide (x ≤ y)).toArray) os := Any.slices_Sort_int Srt.lays189 blk off cap zs w hH hblk hsz
open Go.RowKit Go.Sort in
/-- .. and plain. (LAID: no walk: one application.) -/
theorem Srt.slices_Sort_int_none (p : Option Addr) (cap : Nat) (w : World) :
    Calls Tryz.prog 85 #[.slice p 0 cap] w fun e w' => e = .returned (.tuple #[]) ∧ w' = w := Any.slices_Sort_int_none Srt.lays189 p cap w
end Go.Proofs.YtaeledhbkdakcaaGreatDoor
end

section
/- Contracts of the functions on lists of numbers: sorting, copying, searching, ranges. -/
namespace Go.Proofs.YtaeledhbkdakcaaGreatDoor
open Go.GX Go.RowKit
set_option maxRecDepth 100000

/-! ### slices.Sort, slices.Clone -/

def sortI (l : List Int) : List Int := l.mergeSort fun x y => decide (x ≤ y)

theorem flatI (l : List Int) : l.flatMap Flat.cells = l.map (Value.int .i64) := by
  induction l with
  | nil => rfl
  | cons x r ih => rw [List.flatMap_cons, ih]; rfl

theorem Ret_nil {Q : World → Prop} {w : World} (h : Q w) : Ret [] Q (.returned (.tuple #[])) w := h

theorem sort_ok {w : World} {base : Nat} {s : Sl} {l : List Int} (h : OwnL w base T.t_int s l) (hl : l.length ≤ 1048576) :
    Calls Tryz.prog F.slices_Sort_sl_int_int #[s.v] w (Ret [] fun w' => OwnL w' base T.t_int s (sortI l) ∧ Step w w' s.v.ownBlock) := by
  rcases h.2.2 with ⟨hv, h0⟩ | ⟨g, cap, cur, hv, hb, hg, hle, hmx, hsz, htake⟩
  · have hnil : l = [] := by rw [h.1] at h0; exact List.length_eq_zero_iff.1 h0
    subst hnil
    have hlen : s.len = 0 := h0
    have hsv : s.v = .slice s.a 0 s.cap := by rw [← hlen]
    rw [hsv]
    refine (Srt.slices_Sort_int_none s.a s.cap w).mono ?_
    rintro e w' ⟨rfl, rfl⟩
    exact Ret_nil ⟨by simpa [sortI] using h, Step.refl _ _⟩
  · have htake' : cur.toList.take l.length = l.map (Value.int .i64) := by rw [← flatI, ← htake, h.1]; simp [Rep.sz]
    have hsv : s.v = .slice (some ⟨g, 0, none⟩) l.length cap := by rw [← h.1]; exact hv
    rw [hsv]
    refine (Srt.slices_Sort_int g 0 cap l w (holds_of_blockI hg htake') (Array.getElem?_eq_some_iff.1 hg).1 (by omega)).mono ?_
    rintro e w' ⟨rfl, n, os, rfl⟩
    refine Ret_nil ⟨⟨by simp [sortI, h.1], ?_⟩, Step.of_grown (grownBy_sortedI _)⟩
    unfold Go.GX.Own
    rw [h.1, hsv, flatI]
    exact ownsRow_sortedI (by simp) hb hg (by rw [← h.1]; exact hle) hmx hsz

theorem clone_ok {w : World} {s : Sl} {l : List Int} (h : R w s l) (hl : l.length ≤ 1048576) :
    Calls Tryz.prog F.slices_Clone_sl_int_int #[s.v] w (Ret [.at .sl] fun (r : Sl) w' => Ext w w' ∧ OwnL w' w.heap.size T.t_int r l) := by
  refine C_slices_Clone_sl_int_int ?_
  unfold V_slices_Clone_sl_int_int
  refine cond_b (fun hn => ?_) (fun _ => ?_)
  · have hnil : l = [] := by
      cases l with
      | nil => rfl
      | cons x r => obtain ⟨a, _, ha, _⟩ := h.2.2 0 x rfl; rw [ha] at hn; cases hn
    subst hnil
    exact ⟨Ext.refl _, OwnL.nil _ _ _⟩
  · refine RUN_lit0 (α := Int) slt_int fun r w1 hE1 hO1 => ?_
    refine RUN_append (α := Int) slt_int hO1 hE1.size (h.ext hE1) (by simp; omega) (by simp [maxLen]; omega) fun r' w2 hO2 hs => ?_
    exact ⟨hs.ext0 hE1 (fun k hk => (hO1.blk k hk).1), by simpa using hO2⟩

/-! ### Ranges -/

/-- Strictly increasing, step by step. -/
def Incr (l : List Int) : Prop := ∀ i, (h : i + 1 < l.length) → l[i] < l[i + 1]

def AllIn (l : List Int) (lo hi : Int) : Prop := ∀ x ∈ l, lo ≤ x ∧ x ≤ hi

theorem allIn_take_succ {l : List Int} {lo hi : Int} {i : Nat} (hi' : i < l.length) (h : AllIn (l.take i) lo hi) (hx : lo ≤ l[i] ∧ l[i] ≤ hi) : AllIn (l.take (i + 1)) lo hi := fun x hm => by
  rw [List.take_succ_eq_append_getElem hi'] at hm
  rcases List.mem_append.1 hm with h1 | h1
  · exact h x h1
  · rw [List.mem_singleton.1 h1]; exact hx

theorem l1All_ok {w : World} {s : Sl} {l : List Int} (h : R w s l) (lo hi : Int) :
    Calls Tryz.prog F.s_l1All #[s.v, .int .i64 lo, .int .i64 hi] w (Ret [.at .bool] fun (b : Bool) w' => (b = true ↔ AllIn l lo hi) ∧ w = w') := by
  refine C_s_l1All ?_
  unfold V_s_l1All
  rw [h.len]
  refine ⟨IN l.length fun i w' => w = w' ∧ AllIn (l.take i) lo hi, MN l.length, IN_zero ⟨rfl, fun x hx => by simp at hx⟩, ?_⟩
  rintro x _ ⟨i, rfl, hi', rfl, ha⟩
  intros
  refine cond_dec (fun hlt => ?_) (fun hge => ⟨?_, rfl⟩)
  · have hlt' : i < l.length := by omega
    refine h.ixI hlt' fun p _ hc => LD_int hc ?_
    refine call (l1In_ok _ _ _ _) ?_
    rintro b _ ⟨hb, rfl⟩
    refine cond_not (fun hf => ⟨?_, rfl⟩) (fun ht => IN_next h.le hlt' ⟨rfl, allIn_take_succ hlt' ha (inR_true (hb ▸ ht))⟩)
    simp only [Bool.false_eq_true, false_iff]
    intro hall
    exact inR_false (hb ▸ hf) (hall _ (List.getElem_mem hlt'))
  · have : i = l.length := by omega
    subst this
    simpa using ha

/-- What both sides' test of increasing lists comes to. -/
def Rising (l : List Int) (lo hi : Int) : Prop := AllIn l lo hi ∧ Incr l

/-! ### Searching with a function -/

/-- A function value that answers p for each element of a list, whatever the world that goes on from this one. -/
def Answers (w : World) (f : Value) (l : List Int) (p : Int → Bool) : Prop :=
  ∀ x ∈ l, ∀ w', Ext w w' → CALLV Tryz.prog f #[.int .i64 x] w' (Ret [.at .bool] fun (b : Bool) w'' => b = p x ∧ Ext w' w'')

theorem callv {P : Program} {f : Value} {args : Array Value} {w : World} {rs : List Sh} {Q Q' : Cur (World → Prop) (atsR rs)} (h : CALLV P f args w (Ret rs Q)) (hk : CurLe (atsR rs) Q Q') : CALLV P f args w (Ret rs Q') := by
  obtain ⟨g, caps, h1, h2, h3⟩ := h
  exact ⟨g, caps, h1, h2, call h3 hk⟩

theorem indexFuncI_ok {w : World} {s : Sl} {l : List Int} (h : R w s l) {f : Value} {p : Int → Bool} (hf : Answers w f l p) :
    Calls Tryz.prog F.slices_IndexFunc_sl_int_int #[s.v, f] w (Ret [.at (.int .i64)] fun (i : Int) w' => (match l.findIdx? p with | some k => i = k | none => i = -1) ∧ Ext w w') := by
  refine C_slices_IndexFunc_sl_int_int ?_
  unfold V_slices_IndexFunc_sl_int_int
  rw [h.len]
  refine ⟨IN l.length fun i w' => Ext w w' ∧ ∀ x ∈ l.take i, p x = false, MN l.length, IN_zero ⟨Ext.refl _, by simp⟩, ?_⟩
  rintro x w1 ⟨i, rfl, hi', hE, ha⟩
  intros
  refine cond_dec (fun hlt => ?_) (fun hge => ⟨?_, hE⟩)
  · have hlt' : i < l.length := by omega
    refine (h.ext hE).ixI hlt' fun q _ hc => LD_int hc ?_
    refine callv (hf _ (List.getElem_mem hlt') w1 hE) ?_
    rintro b w2 ⟨rfl, hE2⟩
    refine cond_b (fun ht => ⟨?_, hE.trans hE2⟩) (fun hf => ?_)
    · have : l.findIdx? p = some i := by
        rw [List.findIdx?_eq_some_iff_getElem]
        refine ⟨hlt', ht, fun j hj => ?_⟩
        have := ha l[j] (by rw [List.mem_take_iff_getElem]; exact ⟨j, by omega, rfl⟩)
        simp [this]
      rw [this]
    · refine IN_next h.le hlt' ⟨hE.trans hE2, fun y hy => ?_⟩
      rw [List.take_succ_eq_append_getElem hlt'] at hy
      rcases List.mem_append.1 hy with h1 | h1
      · exact ha y h1
      · rw [List.mem_singleton.1 h1]; exact hf
  · have : i = l.length := by omega
    subst this
    have : l.findIdx? p = none := by
      rw [List.findIdx?_eq_none_iff]
      intro y hy
      exact ha y (by simpa using hy)
    rw [this]

theorem containsFuncI_ok {w : World} {s : Sl} {l : List Int} (h : R w s l) {f : Value} {p : Int → Bool} (hf : Answers w f l p) :
    Calls Tryz.prog F.slices_ContainsFunc_sl_int_int #[s.v, f] w (Ret [.at .bool] fun (b : Bool) w' => b = l.any p ∧ Ext w w') := by
  refine C_slices_ContainsFunc_sl_int_int ?_
  unfold V_slices_ContainsFunc_sl_int_int
  refine call (indexFuncI_ok h hf) ?_
  rintro i w1 ⟨hi, hE⟩
  refine ⟨?_, hE⟩
  cases hf : l.findIdx? p with
  | none =>
    rw [hf] at hi
    simp only at hi
    subst hi
    have h1 := List.findIdx?_eq_none_iff.1 hf
    have : l.any p = false := by
      rw [List.any_eq_false]; intro x hx; simp [h1 x hx]
    rw [this]; rfl
  | some k =>
    rw [hf] at hi
    simp only at hi
    subst hi
    obtain ⟨hk, hp, _⟩ := List.findIdx?_eq_some_iff_getElem.1 hf
    have : l.any p = true := List.any_eq_true.2 ⟨l[k], List.getElem_mem hk, hp⟩
    rw [this]
    simp

theorem allWithin_ok {w : World} {s : Sl} {l : List Int} (h : R w s l) (lo hi : Int) :
    Calls Tryz.prog F.i_allWithin #[s.v, .int .i64 lo, .int .i64 hi] w (Ret [.at .bool] fun (b : Bool) w' => (b = true ↔ AllIn l lo hi) ∧ Ext w w') := by
  refine C_i_allWithin ?_
  unfold V_i_allWithin
  refine NEW_intro fun p1 w1 hp1 hs1 hE1 hb1 => ?_
  refine NEW_intro fun p2 w2 hp2 hs2 hE2 hb2 => ?_
  have hb1' := hb1.ext hE2
  have hE := hE1.trans hE2
  refine call (containsFuncI_ok (p := fun x => !inR x lo hi) (h.ext hE) ?_) ?_
  · intro x hx w' hw'
    refine CALLV_mk (by kernel_rfl) (C_i_allWithin_1 ?_)
    unfold V_i_allWithin_1
    refine LD_bi (hb1'.ext hw') (LD_bi (hb2.ext hw') ?_)
    refine call (within_ok _ _ _ _) ?_
    rintro b _ ⟨rfl, rfl⟩
    exact ⟨rfl, Ext.refl _⟩
  · rintro b w3 ⟨rfl, hE3⟩
    refine ⟨?_, hE.trans hE3⟩
    simp [AllIn, inR]

/-! ### Identifiers, inputs -/

def IdsOk (ids : List Int) (k : Nat) : Prop := AllIn ids 1 999999 ∧ ids.Nodup ∧ (ids.length = 0 ∨ ids.length = k)

theorem sortI_perm (l : List Int) : (sortI l).Perm l := List.mergeSort_perm _ _

theorem sortI_sorted (l : List Int) : (sortI l).Pairwise (· ≤ ·) := by
  have := List.pairwise_mergeSort (le := fun x y : Int => decide (x ≤ y)) (fun a b c h1 h2 => by simp at *; omega) (fun a b => by simp; omega) l
  exact this.imp (by intro a b h; simpa using h)

end Go.Proofs.YtaeledhbkdakcaaGreatDoor
end

section
/- Copying between slices, digits of numbers. No program is named here. -/
namespace Go.GX
open Go.RowKit

/-! ### Digits -/

theorem wrap_u64 {n : Int} (h0 : 0 ≤ n) (h1 : n < 18446744073709551616) : IntKind.u64.wrap n = n := by
  have e1 : (2 : Int) ^ 64 = 18446744073709551616 := rfl
  have hs : IntKind.u64.signed = false := rfl
  simp only [IntKind.wrap, IntKind.bits, hs, Bool.false_and, e1]
  rw [Int.emod_eq_of_lt h0 h1]; simp

theorem shr_nat (k : IntKind) (a j : Nat) (hj : j ≤ k.bits) : shrI k a j = ((a / 2 ^ j : Nat) : Int) := by
  unfold shrI
  rw [Int.toNat_natCast, Nat.min_eq_left hj, Int.fdiv_eq_ediv_of_nonneg _ (Int.le_of_lt (Int.pow_pos (by decide)))]
  simp

/-! ### Cutting -/

/-- s[lo:] of a slice of the call's own. -/
theorem SLC_from {s : Sl} {lo : Nat} {sz : Nat} (hle : s.len ≤ s.cap) (hlo : lo ≤ s.len) {K : Sl → Prop}
    (hk : ∀ d : Sl, d.len = s.len - lo → (lo < s.len → d.a = s.a.map (·.add (lo * sz))) → K d) : SLC s (some (lo : Int)) none sz K := by
  refine ⟨by simp, by simp; omega, by simp; omega, hk _ ?_ ?_⟩
  · simp
  · intro hlt
    simp
    intro h; omega

theorem SLC_from' {s : Sl} {lo : Nat} {sz : Nat} (hle : s.len ≤ s.cap) (hlo : lo ≤ s.len) {K : Sl → Prop}
    (hk : ∀ d : Sl, d.len = s.len - lo → d.cap = s.cap - lo → (lo < s.len → d.a = s.a.map (·.add (lo * sz))) → K d) : SLC s (some (lo : Int)) none sz K := by
  refine ⟨by simp, by simp; omega, by simp; omega, hk _ ?_ ?_ ?_⟩
  · simp
  · simp
  · intro hlt
    simp
    intro h; omega

/-- s[:hi]. -/
theorem SLC_to {s : Sl} {hi : Nat} {sz : Nat} (hhi : hi ≤ s.cap) {K : Sl → Prop}
    (hk : ∀ d : Sl, d.len = hi → d.a = s.a → d.cap = s.cap → K d) : SLC s none (some (hi : Int)) sz K := by
  refine ⟨by simp, by simp, by simp; omega, hk _ (by simp) ?_ (by simp)⟩
  simp
  intro _
  cases s.a <;> simp [add_zero']

/-! ### copy -/

/-! ### clear, and the first part of a slice of the call's own -/

theorem RUN_clear {P : Program} {t ti e : TypeId} {bytes : Nat} {z : Value} (hT : SlT P t e 1 bytes z) (hz : z.cells = #[z]) {w : World} {d : Sl} {a : Addr} (hd : d.a = some a) (hn : 0 < d.len) {K : Value → World → Prop}
    (h : ST a 0 (List.replicate d.len z) w (K (.tuple #[]))) : RUN P (.at .val) (bsem .clear #[t] ti #[d.v]) w K := by
  obtain ⟨i, hi, hz0, hsz, hby⟩ := hT.parts
  obtain ⟨w', hr, hk⟩ := ST_run (P := P) h
  have hzv : (zeroValue e).run P w = .ok z w := by simp [zeroValue, typeInfo, program, Sem.run, hi, hz0]
  have hzc : (Builtin.zeroCells z.cells d.len).toList = List.replicate d.len z := by
    rw [hz]
    simp [Builtin.zeroCells]
    apply List.ext_getElem
    · simp
    · intro i h1 h2
      simp [Nat.mod_one]
  have hrun : (Builtin.clear_ #[t] ti #[d.v]).run P w = .ok (.tuple #[]) w' := by
    obtain ⟨m, hm⟩ : ∃ m, d.len = m + 1 := ⟨d.len - 1, by omega⟩
    rw [hm] at hzc hr
    have hdv : d.v = .slice (some a) (m + 1) d.cap := by simp [Sl.v, hd, hm]
    rw [hdv]
    simp [Builtin.clear_, underlying_run hT.under, hzv, hzc, hr]
  unfold RUN
  show (match (Builtin.clear_ #[t] ti #[d.v]).run P w with | .ok v w' => _ | .halt _ _ => False)
  rw [hrun]
  exact hk

theorem OwnL.front {α : Type} [Flat α] {w : World} {base : Nat} {e : TypeId} {s : Sl} {l : List α} (h : OwnL w base e s l) {k : Nat} (hk : k ≤ l.length) : OwnL w base e ⟨s.a, k, s.cap⟩ (l.take k) := by
  have hlen : ∀ q : List α, (q.flatMap Flat.cells).length = q.length * Rep.sz α := by
    intro q
    induction q with
    | nil => simp
    | cons x r ih => rw [List.flatMap_cons, List.length_append, ih, Flat.size x, List.length_cons, Nat.succ_mul, Nat.add_comm]
  refine ⟨by simp; omega, ?_, ?_⟩
  · rw [hlen, List.length_take, Nat.min_eq_left hk]
  · rcases h.2.2 with ⟨hv, h0⟩ | ⟨g, cap, cur, hv, hb, hg, hle, hmx, hsz, htake⟩
    · simp [Sl.v] at hv
      have := h.1
      refine .inl ⟨?_, by simp only; omega⟩
      simp [Sl.v, hv.1]
      omega
    · have hv' := hv
      simp [Sl.v] at hv
      have hl := h.1
      refine .inr ⟨g, cap, cur, ?_, hb, hg, by simp only; omega, hmx, hsz, ?_⟩
      · simp [Sl.v, hv.1, hv.2]
      · have hk2 : ((l.take k).flatMap Flat.cells).length = k * Rep.sz α := by rw [hlen, List.length_take, Nat.min_eq_left hk]
        have e2 : (l.take k).flatMap Flat.cells = (l.flatMap Flat.cells).take (k * Rep.sz α) := by
          have e3 : l.flatMap Flat.cells = (l.take k).flatMap Flat.cells ++ (l.drop k).flatMap Flat.cells := by rw [← List.flatMap_append, List.take_append_drop]
          rw [e3, ← hk2, List.take_left]
        rw [e2, ← htake, List.take_take]
        have : k * Rep.sz α ≤ s.len * Rep.sz α := Nat.mul_le_mul_right _ (by omega)
        rw [Nat.min_eq_left this]

/-- Clearing the last part of a slice of the call's own, from place i on. -/
theorem RUN_clearI {P : Program} {t ti e : TypeId} {bytes : Nat} (hT : SlT P t e 1 bytes (.int .i64 0)) {w : World} {base : Nat} {s d : Sl} {l : List Int} (h : OwnL w base e s l) {i : Nat} (hi : i < l.length) (hd : d.a = s.a.map (·.add i)) (hdl : d.len = l.length - i) {K : Value → World → Prop}
    (hk : ∀ w', OwnL w' base e s (l.take i ++ List.replicate (l.length - i) 0) → Step w w' s.v.ownBlock → K (.tuple #[]) w') : RUN P (.at .val) (bsem .clear #[t] ti #[d.v]) w K := by
  rcases h.2.2 with ⟨hv, h0⟩ | ⟨g, cap, cur, hv, hb, hg, hle, hmx, hsz, htake⟩
  · have := h.1; omega
  · have hv' := hv
    simp [Sl.v] at hv
    obtain ⟨hsa, rfl⟩ := hv
    have hf : ∀ q : List Int, q.flatMap Flat.cells = q.map (Value.int .i64) := by
      intro q
      induction q with
      | nil => rfl
      | cons x r ih => rw [List.flatMap_cons, ih]; rfl
    have hda : d.a = some ((⟨g, 0, none⟩ : Addr).add i) := by rw [hd, hsa]; rfl
    have hown : w.ownsRow base e 1 (.slice (some ⟨g, 0, none⟩) s.len s.cap) s.len (l.map (Value.int .i64)) := by
      have := h.2; unfold Own at this; rw [hv', hf] at this; exact this
    refine RUN_clear hT rfl hda (by omega) ?_
    refine setMany_own (List.replicate d.len (.int .i64 0)) i _ w _ hown (by intro v hv; rw [List.eq_of_mem_replicate hv]; rfl) (by simp; omega) (fun w' hw' hs => hk w' ⟨by simp; have := h.1; omega, ?_⟩ (by rw [hv']; exact hs)) _ 0 (by simp only [Addr.add]; split <;> simp_all)
    unfold Own
    rw [hv', hf]
    have e1 : (l.take i ++ List.replicate (l.length - i) 0).map (Value.int .i64) = (l.map (Value.int .i64)).take i ++ List.replicate d.len (.int .i64 0) ++ (l.map (Value.int .i64)).drop (i + (List.replicate d.len (Value.int .i64 0)).length) := by
      rw [List.drop_of_length_le (by simp; omega)]
      simp [hdl]
    rw [e1]
    exact hw'

end Go.GX
end

section
/- Contracts of functions of the library: Mul, Repeat. -/
namespace Go.Proofs.YtaeledhbkdakcaaGreatDoor
open Go.GX Go.RowKit
set_option maxRecDepth 100000

theorem l1Own_ok {w : World} {s : Sl} {l : List Int} (h : R w s l) (hl : l.length ≤ 1048576) :
    Calls Tryz.prog F.s_l1Own #[s.v] w (Ret [.at .sl] fun (r : Sl) w' => Ext w w' ∧ OwnL w' w.heap.size T.t_int r l) := by
  refine C_s_l1Own ?_
  unfold V_s_l1Own
  refine RUN_lit0 (α := Int) slt_int fun r w1 hE1 hO1 => ?_
  refine RUN_append (α := Int) slt_int hO1 hE1.size (h.ext hE1) (by simp; omega) (by simp [maxLen]; omega) fun r' w2 hO2 hs => ?_
  exact ⟨hs.ext0 hE1 (fun k hk => (hO1.blk k hk).1), by simpa using hO2⟩

end Go.Proofs.YtaeledhbkdakcaaGreatDoor
end

section
/- Texts, the reference's side: cutting at a byte, numerals written and read. -/
namespace Go.Proofs.YtaeledhbkdakcaaGreatDoor
open Go.GX Go.RowKit
open Go.Lib (decDigits)
set_option maxRecDepth 100000

theorem slt_str : SlT Tryz.prog T.t_sl_string T.t_string 1 16 (.string (ByteArray.mk #[])) := ⟨by kernel_rfl, by kernel_rfl, rfl, by decide⟩
theorem slt_u8 : SlT Tryz.prog T.t_sl_uint8 T.t_uint8 1 1 (.int .u8 0) := ⟨by kernel_rfl, by kernel_rfl, rfl, by decide⟩
theorem und_str : Tryz.prog.underlying T.t_string = some .string := by kernel_rfl
theorem und_u8s : Tryz.prog.underlying T.t_sl_uint8 = some (.slice T.t_uint8) := by kernel_rfl
theorem und_u8 : Tryz.prog.underlying T.t_uint8 = some (.int .u8) := by kernel_rfl

theorem wrap_u8 {n : Int} (h0 : 0 ≤ n) (h1 : n < 256) : IntKind.u8.wrap n = n := by
  have e1 : (2 : Int) ^ 8 = 256 := rfl
  have hs : IntKind.u8.signed = false := rfl
  simp only [IntKind.wrap, IntKind.bits, hs, Bool.false_and, e1]
  rw [Int.emod_eq_of_lt h0 h1]; simp

theorem strs_ok (L : List ByteArray) : ∀ x ∈ L, Flat.ok x := fun _ _ => trivial

theorem l1Split_ok {w : World} {l : List UInt8} {c : UInt8} (hl : l.length ≤ 1099511627776) :
    Calls Tryz.prog F.s_l1Split #[.string (mkS l), .int .u8 (c.toNat : Int)] w (Ret [.at .sl] fun (r : Sl) w' => Ext w w' ∧ OwnL w' w.heap.size T.t_string r ((splitB c l).map mkS)) := by
  refine C_s_l1Split ?_
  unfold V_s_l1Split
  refine ⟨fun (out : Sl) (fr i : Int) w' => ∃ (k f : Nat) (L : List (List UInt8)), i = k ∧ fr = f ∧ k ≤ l.length ∧ f ≤ k ∧ Ext w w' ∧ OwnL w' w.heap.size T.t_string out (L.map mkS) ∧ splitB c (l.take k) = L ++ [(l.take k).drop f],
    fun _ _ i _ => l.length - i.toNat, ⟨0, 0, [], rfl, rfl, Nat.zero_le _, Nat.zero_le _, Ext.refl _, OwnL.nil _ _ _, rfl⟩, ?_⟩
  rintro out _ _ w1 ⟨k, f, L, rfl, rfl, hk, hf, hE1, hO1, hS⟩
  intros
  have hLl : L.length ≤ l.length := by
    have := splitB_len c (l.take k)
    rw [hS] at this
    simp at this; omega
  have hz1 := hE1.size_le
  -- one piece more
  have push : ∀ {w2 : World} (x : List UInt8) {K : Sl → World → Prop}, Ext w1 w2 → (∀ r w', Ext w w' → OwnL w' w.heap.size T.t_string r ((L ++ [x]).map mkS) → K r w') →
      RUN Tryz.prog (.at .sl) (Instr.buildSlice T.t_sl_string 1 #[(0, .string (mkS x))]) w2 fun y w3 => RUN Tryz.prog (.at .sl) (bsem .append #[T.t_sl_string, T.t_sl_string] T.t_sl_string #[out.v, y.v]) w3 K := by
    intro w2 x K hE2 hK
    refine RUN_lit1 (α := ByteArray) slt_str (mkS x) rfl (by decide) fun y w3 hE3 hO3 => ?_
    have hz2 := hE2.size_le
    have hz3 := hE3.size_le
    refine RUN_append (α := ByteArray) slt_str ((hO1.ext hE2).ext hE3) (by omega) (hO3.rep (strs_ok _)).any (by simp; omega) (by simp [maxLen]; omega) fun r w4 hO4 hs4 => ?_
    have hOb := (hO1.ext hE2).ext hE3
    refine hK r w4 (hs4.ext0 ((hE1.trans hE2).trans hE3) fun k hk => (hOb.blk k hk).1) ?_
    rw [List.map_append]; exact hO4
  rw [mkS_size]
  refine cond_dec (fun hlt => ?_) (fun hge => ?_)
  · have hk' : k < l.length := by omega
    refine SIX_of hk' ?_
    have htk : l.take (k + 1) = l.take k ++ [l[k]] := List.take_succ_eq_append_getElem hk'
    have hsn := splitB_snoc (b := l[k]) hS
    rw [← htk] at hsn
    rw [wrap_of (n := (k : Int) + 1) (by omega) (by omega)]
    have e1 : ((k : Int) + 1) = ((k + 1 : Nat) : Int) := by omega
    rw [e1]
    refine cond_eq (fun heq => ?_) (fun hne => ?_)
    · have hb : l[k] = c := UInt8.toNat_inj.1 (by omega)
      rw [if_pos hb] at hsn
      refine RUN_sub und_str hf (by omega) ?_
      refine push _ (Ext.refl _) fun r w4 hE4 hO4 => ⟨⟨k + 1, k + 1, L ++ [(l.take k).drop f], rfl, rfl, by omega, Nat.le_refl _, hE4, ?_, ?_⟩, by simp only []; omega⟩
      · have e2 : (l.drop f).take (k - f) = (l.take k).drop f := by rw [List.drop_take]
        rw [← e2]; exact hO4
      · rw [hsn, show (l.take (k + 1)).drop (k + 1) = [] from List.drop_of_length_le (by rw [List.length_take]; omega)]
    · have hb : l[k] ≠ c := fun e => hne (by rw [e])
      rw [if_neg hb] at hsn
      refine ⟨⟨k + 1, f, L, rfl, rfl, by omega, by omega, hE1, hO1, ?_⟩, by simp only []; omega⟩
      rw [hsn, htk, List.drop_append_of_le_length (by rw [List.length_take]; omega)]
  · have : k = l.length := by omega
    subst this
    rw [List.take_length] at hS
    refine RUN_from und_str hf ?_
    refine push _ (Ext.refl _) fun r w4 hE4 hO4 => ?_
    rw [hS]
    exact ⟨hE4, hO4⟩

theorem l1Num_ok : ∀ (n : Nat), (n : Int) ≤ 9223372036854775807 → ∀ w : World, Calls Tryz.prog F.s_l1Num #[.int .i64 (n : Int)] w (Ret [.at .str] fun (r : ByteArray) w' => r = mkS (decDigits n) ∧ Ext w w') := by
  intro n
  induction n using Nat.strongRecOn with
  | _ n ih =>
    intro hn w
    refine C_s_l1Num ?_
    unfold V_s_l1Num
    -- one digit
    have one : ∀ {w1 : World} (d : Nat) (x : Int) {K : ByteArray → World → Prop}, d < 10 → x = d → (∀ w', Ext w1 w' → K (mkS [UInt8.ofNat (48 + d)]) w') →
        RUN Tryz.prog (.at .sl) (Instr.buildSlice T.t_sl_uint8 1 #[(0, .int .u8 (IntKind.u8.wrap (IntKind.i64.wrap (48 + x))))]) w1 fun y w2 => RUN Tryz.prog (.at .str) (convert T.t_sl_uint8 T.t_string y.v) w2 K := by
      intro w1 d x K hd hx hK
      subst hx
      have e : IntKind.u8.wrap (IntKind.i64.wrap (48 + (d : Int))) = ((UInt8.ofNat (48 + d)).toNat : Int) := by
        rw [wrap_of (by omega) (by omega), wrap_u8 (by omega) (by omega)]
        have : (UInt8.ofNat (48 + d)).toNat = 48 + d := by simp; omega
        omega
      rw [e]
      refine RUN_lit1 (α := UInt8) slt_u8 (UInt8.ofNat (48 + d)) rfl (by decide) fun y w2 hE2 hO2 => ?_
      exact RUN_bytes und_u8s und_u8 und_str hO2 (hK w2 hE2)
    refine cond_dec (fun hlt => ?_) (fun hge => ?_)
    · refine one n n (by omega) rfl fun w' hE' => ⟨?_, hE'⟩
      rw [decDigits_small (by omega)]
    · have hdiv : IntKind.i64.wrap (Int.tdiv (n : Int) 10) = ((n / 10 : Nat) : Int) := by
        have : Int.tdiv (n : Int) 10 = ((n / 10 : Nat) : Int) := by rw [show (10 : Int) = ((10 : Nat) : Int) from rfl, ← Int.ofNat_tdiv]
        rw [this, wrap_of (by omega) (by omega)]
      have hmod : Int.tmod (n : Int) 10 = ((n % 10 : Nat) : Int) := by rw [show (10 : Int) = ((10 : Nat) : Int) from rfl, Int.ofNat_tmod]
      have hrec := ih (n / 10) (by omega) (by omega)
      have hm10 : n % 10 < 10 := Nat.mod_lt _ (by omega)
      have hbig := decDigits_big (n := n) (by omega)
      have hlen : (decDigits (n / 10)).length + 1 ≤ 9223372036854775807 := by
        rw [Go.Lib.decDigits_length]
        have key : ∀ u : Nat, Go.Lib.nDigits u ≤ u + 1 := by
          intro u
          induction u using Nat.strongRecOn with
          | _ u ih =>
            by_cases h : u < 10
            · rw [Go.Lib.nDigits_small h]; omega
            · rw [Go.Lib.nDigits_big h]; have := ih (u / 10) (by omega); omega
        have := key (n / 10)
        omega
      intro w3 hE3 _
      refine ⟨by decide, by decide, ?_⟩
      rw [hdiv, hmod]
      have fin : ∀ {w' : World}, Ext w3 w' → (mkS (decDigits (n / 10)) ++ mkS [UInt8.ofNat (48 + n % 10)] = mkS (decDigits n)) ∧ Ext w w' := fun hE => ⟨by rw [mkS_app, hbig], hE3.trans hE⟩
      have hsz : (mkS (decDigits (n / 10))).size + (mkS [UInt8.ofNat (48 + n % 10)]).size ≤ 9223372036854775807 := by rw [mkS_size, mkS_size]; simpa using hlen
      -- the literal alone, the conversion alone
      have lit : ∀ {w1 : World} {K : Sl → World → Prop}, (∀ y w', Ext w1 w' → OwnL w' w1.heap.size T.t_uint8 y [UInt8.ofNat (48 + n % 10)] → K y w') →
          RUN Tryz.prog (.at .sl) (Instr.buildSlice T.t_sl_uint8 1 #[(0, .int .u8 (IntKind.u8.wrap (IntKind.i64.wrap (48 + ((n % 10 : Nat) : Int)))))]) w1 K := by
        intro w1 K hK
        have e : IntKind.u8.wrap (IntKind.i64.wrap (48 + ((n % 10 : Nat) : Int))) = ((UInt8.ofNat (48 + n % 10)).toNat : Int) := by
          rw [wrap_of (by omega) (by omega), wrap_u8 (by omega) (by omega)]
          have : (UInt8.ofNat (48 + n % 10)).toNat = 48 + n % 10 := by simp; omega
          omega
        rw [e]
        exact RUN_lit1 (α := UInt8) slt_u8 (UInt8.ofNat (48 + n % 10)) rfl (by decide) fun y w2 hE2 hO2 => hK y w2 hE2 hO2
      refine ⟨?_, Ext.refl _, ?_, ?_⟩
      · refine call (hrec w3) ?_
        rintro _ w4 ⟨rfl, hE4⟩
        refine ⟨hE4, Ext.refl _, lit fun y w5 hE5 hO5 => ⟨hE5, RUN_bytes und_u8s und_u8 und_str hO5 ⟨Ext.refl _, hsz, Ext.refl _, Ext.refl _, fin (hE4.trans hE5)⟩⟩⟩
      · refine call (hrec w3) ?_
        rintro _ w4 ⟨rfl, hE4⟩
        refine ⟨hE4, lit fun y w5 hE5 hO5 => ⟨hE5, RUN_bytes und_u8s und_u8 und_str hO5 ⟨Ext.refl _, hsz, Ext.refl _, Ext.refl _, fin (hE4.trans hE5)⟩⟩⟩
      · refine lit fun y w5 hE5 hO5 => ⟨hE5, ?_, ?_⟩
        · refine call (hrec w5) ?_
          rintro _ w4 ⟨rfl, hE4⟩
          exact ⟨hE4, RUN_bytes und_u8s und_u8 und_str (hO5.ext hE4) ⟨Ext.refl _, hsz, Ext.refl _, Ext.refl _, fin (hE5.trans hE4)⟩⟩
        · refine RUN_bytes und_u8s und_u8 und_str hO5 ⟨Ext.refl _, ?_⟩
          refine call (hrec w5) ?_
          rintro _ w4 ⟨rfl, hE4⟩
          exact ⟨hE4, hsz, Ext.refl _, Ext.refl _, fin (hE5.trans hE4)⟩

/-- What a text reads as: its number, or -1. -/
def ReadIs (l : List UInt8) (x : Int) : Prop := NumOf l x ∨ (x = -1 ∧ ∀ y, ¬ NumOf l y)

theorem l1Read_ok {w : World} {l : List UInt8} (hl : l.length ≤ 1099511627776) :
    Calls Tryz.prog F.s_l1Read #[.string (mkS l)] w (Ret [.at (.int .i64)] fun (x : Int) w' => w' = w ∧ ReadIs l x) := by
  refine C_s_l1Read ?_
  unfold V_s_l1Read
  have num : ∀ {y}, NumOf l y → 1 ≤ l.length ∧ l.length ≤ 6 ∧ (∀ b ∈ l, 48 ≤ b.toNat ∧ b.toNat ≤ 57) ∧ (l.head? = some 48 → l.length = 1) := by
    rintro y ⟨n, h1, rfl, rfl⟩
    refine ⟨List.length_pos_iff.2 (decDigits_ne n), decDigits_few.1 h1, decDigits_mem n, ?_⟩
    induction n using Nat.strongRecOn with
    | _ n ih =>
      by_cases h : n < 10
      · intro _; rw [decDigits_small h]; rfl
      · rw [decDigits_big h]
        intro hh
        have h10 : n / 10 ≠ 0 := by omega
        have hne := decDigits_ne (n / 10)
        replace hh : (decDigits (n / 10)).head? = some 48 := by
          obtain ⟨a, r, e⟩ := List.exists_cons_of_ne_nil hne
          rw [e] at hh ⊢
          simpa using hh
        have hl1 := ih (n / 10) (by omega) (by omega) (by have := decDigits_few.1 h1; rw [decDigits_big h] at this; simp at this; omega) hh
        exfalso
        have h9 : n / 10 < 10 := by
          rcases Nat.lt_or_ge (n / 10) 10 with h | h
          · exact h
          · rw [decDigits_big (by omega)] at hl1
            have := List.length_pos_iff.2 (decDigits_ne (n / 10 / 10))
            rw [List.length_append, List.length_singleton] at hl1; omega
        rw [decDigits_small h9] at hh
        have e : UInt8.ofNat (48 + n / 10) = 48 := by simpa using hh
        have e2 := congrArg UInt8.toNat e
        have e3 : (UInt8.ofNat (48 + n / 10)).toNat = 48 + n / 10 := by simp; omega
        rw [e3] at e2
        have e4 : (48 : UInt8).toNat = 48 := rfl
        omega
  have no : (∀ y, ¬ NumOf l y) → w = w ∧ ReadIs l (-1) := fun h => ⟨rfl, .inr ⟨rfl, h⟩⟩
  rw [mkS_size]
  refine call (l1In_ok _ _ _ _) ?_
  rintro _ _ ⟨rfl, rfl⟩
  refine cond_not (fun hf => no fun y hy => ?_) (fun ht => ?_)
  · have := num hy
    simp only [inR, Bool.and_eq_false_iff, decide_eq_false_iff_not] at hf
    omega
  have hr : 1 ≤ (l.length : Int) ∧ (l.length : Int) ≤ 6 := by simpa [inR] using ht
  -- the digits
  have rest : (l.head? = some 48 → l.length = 1) → V_s_l1Read_k1 (mkS l) (fun (x : Int) w' => w' = w ∧ ReadIs l x) w := by
    intro hz
    unfold V_s_l1Read_k1
    refine ⟨fun (n i : Int) w' => w' = w ∧ ∃ (k m : Nat), i = k ∧ n = m ∧ k ≤ l.length ∧ (∀ b ∈ l.take k, 48 ≤ b.toNat ∧ b.toNat ≤ 57) ∧ Go.Lib.decFrom 0 (l.take k) = some m ∧ m < 10 ^ k, fun _ i _ => l.length - i.toNat, ⟨rfl, 0, 0, rfl, rfl, Nat.zero_le _, by simp, rfl, by decide⟩, ?_⟩
    rintro _ _ _ ⟨rfl, k, m, rfl, rfl, hk, hd, hv, hm⟩
    intros
    rw [mkS_size]
    have h6 : (10 : Nat) ^ k ≤ 1000000 := by
      have : (10 : Nat) ^ k ≤ 10 ^ 6 := Nat.pow_le_pow_right (by decide) (by omega)
      have e : (10 : Nat) ^ 6 = 1000000 := by decide
      omega
    refine cond_dec (fun hlt => ?_) (fun hge => ?_)
    · have hk' : k < l.length := by omega
      have hmem : l[k] ∈ l := List.getElem_mem hk'
      refine SIX_of hk' ?_
      refine cond_dec (fun hlow => no fun y hy => by have := (num hy).2.2.1 _ hmem; omega) (fun hlow => ?_)
      refine SIX_of hk' ?_
      refine cond_dec (fun hhi => no fun y hy => by have := (num hy).2.2.1 _ hmem; omega) (fun hhi => ?_)
      refine SIX_of hk' ?_
      unfold V_s_l1Read_k5
      have htk : l.take (k + 1) = l.take k ++ [l[k]] := List.take_succ_eq_append_getElem hk'
      have e1 : IntKind.u8.wrap ((l[k].toNat : Int) - 48) = ((l[k].toNat - 48 : Nat) : Int) := by rw [wrap_u8 (by omega) (by omega)]; omega
      rw [e1, wrap_of (n := 10 * (m : Int)) (by omega) (by omega), wrap_of (n := ((l[k].toNat - 48 : Nat) : Int)) (by omega) (by omega), wrap_of (n := 10 * (m : Int) + _) (by omega) (by omega), wrap_of (n := (k : Int) + 1) (by omega) (by omega)]
      refine ⟨⟨rfl, k + 1, m * 10 + (l[k].toNat - 48), by omega, by omega, by omega, ?_, ?_, by rw [Nat.pow_succ]; omega⟩, by simp only []; omega⟩
      · intro b hb
        rw [htk] at hb
        rcases List.mem_append.1 hb with hb | hb
        · exact hd b hb
        · rw [List.mem_singleton.1 hb]; omega
      · rw [htk]
        refine decFrom_snoc ?_ _ _ _ hv
        unfold Go.Lib.digitVal
        rw [if_pos (by omega)]
    · have : k = l.length := by omega
      subst this
      rw [List.take_length] at hd hv
      obtain ⟨n, hn⟩ := digits_of l.length l rfl (List.length_pos_iff.1 (by omega)) hz hd
      have e : n = m := by
        have := decFrom_digits n
        rw [hn, hv] at this
        exact (Option.some.inj this).symm
      subst e
      exact ⟨rfl, .inl ⟨n, by omega, hn, rfl⟩⟩
  have h0 : 0 < l.length := by omega
  refine SIX_of (i := 0) h0 ?_
  have hhd : l.head? = some l[0] := by rw [List.head?_eq_getElem?, List.getElem?_eq_getElem h0]
  refine cond_eq (fun h48 => ?_) (fun hne => rest fun hh => ?_)
  · have hb : l[0] = 48 := UInt8.toNat_inj.1 (by have : (48 : UInt8).toNat = 48 := rfl; omega)
    refine cond_dec (fun hgt => no fun y hy => ?_) (fun hle => rest fun _ => by omega)
    have := (num hy).2.2.2 (by rw [hhd, hb])
    omega
  · rw [hhd] at hh
    have : l[0] = 48 := Option.some.inj hh
    exact absurd (by rw [this]; rfl) hne

end Go.Proofs.YtaeledhbkdakcaaGreatDoor
end
