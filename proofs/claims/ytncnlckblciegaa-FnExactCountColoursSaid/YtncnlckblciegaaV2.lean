/- What each function's code computes to. Printed by a program. -/
import Derived.Test.YtncnlckblciegaaNames
namespace Go.Proofs.Ytncnlckblciegaa
open Go.GX Go.RowKit
set_option linter.unusedVariables false
set_option maxRecDepth 100000

def V_s_clHalve (Q : Sl → Int → World → Prop) (x0_0 : Sl) (x0_1 : Sl) (x0_2 : Sl) (x1 : Sl) (x2 : Int) (x3 : Int) (w : World) : Prop :=
  NEW T.t_i_Network #[x0_0.v, x0_1.v, x0_2.v] w fun (px4 : Addr) w1 =>
  ∃ (I3 : Sl → Int → World → Prop) (m3 : Sl → Int → World → Nat), I3 x1 0 w1 ∧ ∀ (x1_2 : Sl) (x11 : Int) w2, I3 x1_2 x11 w2 → ∀ _ _ _ _ _ _ _ _ _ _ _ _ _ _ _ _ _ _ _ _ _ _ _ _ _ _ _ _ _ _ _ _ _ _ _ _ _ _ _ _ _ _ _ _ _ _ _ _ _ _ _ _ _ _ _ _ _ _ _ _ _ _ _ _ : Value,
  cond (decide ((x11 : Int) ≤ x3)) (
  Calls Try.prog F.s_l1Own #[x1_2.v] w2 (Ret [.at .sl] fun (x30 : Sl) w3 =>
  ∃ (I7 : Int → World → Prop) (m7 : Int → World → Nat), I7 0 w3 ∧ ∀ (x33 : Int) w4, I7 x33 w4 → ∀ _ _ _ _ _ _ _ _ _ _ _ _ _ _ _ _ _ _ _ _ _ _ _ _ _ _ _ _ _ _ _ _ _ _ _ _ _ _ _ _ _ _ _ _ _ _ _ _ _ _ _ _ : Value,
  cond (decide ((x33 : Int) < x1_2.len)) (
  IX x1_2 x33 1 fun (px36 : Addr) =>
  LD [.int .i64] px36 w4 fun (x37 : Int) =>
  ((IntKind.i64.wrap (2 * (IntKind.i64.wrap (x3 + 1)))) : Int) ≠ 0 ∧ (
  cond (((Int.tmod x37 (IntKind.i64.wrap (2 * (IntKind.i64.wrap (x3 + 1))))) : Int) != (IntKind.i64.wrap ((IntKind.i64.wrap (x3 + 1)) + x11))) (
  I7 (IntKind.i64.wrap (x33 + 1)) w4 ∧ m7 (IntKind.i64.wrap (x33 + 1)) w4 < m7 x33 w4) (
  LD [.sl, .sl, .sl] px4 w4 fun (x47_0 : Sl) (x47_1 : Sl) (x47_2 : Sl) =>
  Calls Try.prog F.s_neNear #[.agg #[x47_0.v, x47_1.v, x47_2.v], .int .i64 x33] w4 (Ret [.at .sl] fun (x49 : Sl) w5 =>
  Calls Try.prog F.s_coThrough #[x1_2.v, x49.v] w5 (Ret [.at .sl] fun (x50 : Sl) w6 =>
  ∃ (I12 : Sl → Int → World → Prop) (m12 : Sl → Int → World → Nat), I12 (⟨none, 0, 0⟩) 0 w6 ∧ ∀ (x15 : Sl) (x52 : Int) w7, I12 x15 x52 w7 → ∀ _ _ _ _ _ _ _ _ _ _ _ _ _ _ _ _ _ _ : Value,
  cond (decide ((x52 : Int) < x50.len)) (
  IX x50 x52 1 fun (px54 : Addr) =>
  LD [.int .i64] px54 w7 fun (x55 : Int) =>
  ((IntKind.i64.wrap (2 * (IntKind.i64.wrap (x3 + 1)))) : Int) ≠ 0 ∧ (
  ((IntKind.i64.wrap (2 * (IntKind.i64.wrap (x3 + 1)))) : Int) ≠ 0 ∧ (
  ∀ w8, Ext w7 w8 →
  cond (((IntKind.i64.wrap (Int.tdiv x55 (IntKind.i64.wrap (2 * (IntKind.i64.wrap (x3 + 1)))))) : Int) == (IntKind.i64.wrap (Int.tdiv x37 (IntKind.i64.wrap (2 * (IntKind.i64.wrap (x3 + 1))))))) (
  ((IntKind.i64.wrap (2 * (IntKind.i64.wrap (x3 + 1)))) : Int) ≠ 0 ∧ (
  RUN Try.prog (.at .sl) (Instr.buildSlice T.t_sl_int 1 #[(0, .int .i64 (Int.tmod x55 (IntKind.i64.wrap (2 * (IntKind.i64.wrap (x3 + 1))))))]) w8 fun (x67 : Sl) w9 =>
  RUN Try.prog (.at .sl) (bsem .append #[T.t_sl_int, T.t_sl_int] T.t_sl_int #[x15.v, x67.v]) w9 fun (x68 : Sl) w10 =>
  I12 x68 (IntKind.i64.wrap (x52 + 1)) w10 ∧ m12 x68 (IntKind.i64.wrap (x52 + 1)) w10 < m12 x15 x52 w7)) (
  I12 x15 (IntKind.i64.wrap (x52 + 1)) w8 ∧ m12 x15 (IntKind.i64.wrap (x52 + 1)) w8 < m12 x15 x52 w7)))) (
  ∀ w11, Ext w7 w11 → w11.heap = w7.heap → ∃ (D11 : Nat → Prop),
  ((IntKind.i64.wrap (2 * (IntKind.i64.wrap (x3 + 1)))) : Int) ≠ 0 ∧ (
  Chg w11 w11 D11 ∧ (
  Calls Try.prog F.s_clLeast #[x15.v] w11 (Ret [.at (.int .i64)] fun (x78 : Int) w12 =>
  Chg w11 w12 D11 ∧ (
  Chg w11 w12 D11 ∧ (
  IX x30 x33 1 fun (px80 : Addr) =>
  ST px80 0 [.int .i64 (IntKind.i64.wrap ((IntKind.i64.wrap ((IntKind.i64.wrap (Int.tdiv x37 (IntKind.i64.wrap (2 * (IntKind.i64.wrap (x3 + 1)))))) * (IntKind.i64.wrap (2 * (IntKind.i64.wrap (x3 + 1)))))) + x78))] w12 fun w13 =>
  I7 (IntKind.i64.wrap (x33 + 1)) w13 ∧ m7 (IntKind.i64.wrap (x33 + 1)) w13 < m7 x33 w4))))))))))) (
  I3 x30 (IntKind.i64.wrap (x11 + 1)) w4 ∧ m3 x30 (IntKind.i64.wrap (x11 + 1)) w4 < m3 x1_2 x11 w2))) (
  ∃ (I22 : Sl → Int → World → Prop) (m22 : Sl → Int → World → Nat), I22 (⟨none, 0, 0⟩) 0 w2 ∧ ∀ (x18 : Sl) (x85 : Int) w14, I22 x18 x85 w14 → ∀ _ _ _ _ _ _ _ _ _ _ _ _ _ _ _ _ _ _ : Value,
  cond (decide ((x85 : Int) < x1_2.len)) (
  IX x1_2 x85 1 fun (px87 : Addr) =>
  LD [.int .i64] px87 w14 fun (x88 : Int) =>
  ∀ w15, Ext w14 w15 → w15.heap = w14.heap → ∃ (D15 : Nat → Prop),
  ((IntKind.i64.wrap (2 * (IntKind.i64.wrap (x3 + 1)))) : Int) ≠ 0 ∧ (
  Chg w15 w15 D15 ∧ (
  ((IntKind.i64.wrap (2 * (IntKind.i64.wrap (x3 + 1)))) : Int) ≠ 0 ∧ (
  Chg w15 w15 D15 ∧ (
  Chg w15 w15 D15 ∧ (
  RUN Try.prog (.at .sl) (Instr.buildSlice T.t_sl_int 1 #[(0, .int .i64 (IntKind.i64.wrap ((IntKind.i64.wrap ((IntKind.i64.wrap (Int.tdiv x88 (IntKind.i64.wrap (2 * (IntKind.i64.wrap (x3 + 1)))))) * (IntKind.i64.wrap (x3 + 1)))) + (Int.tmod x88 (IntKind.i64.wrap (2 * (IntKind.i64.wrap (x3 + 1))))))))]) w15 fun (x100 : Sl) w16 =>
  Chg w15 w16 D15 ∧ (
  RUN Try.prog (.at .sl) (bsem .append #[T.t_sl_int, T.t_sl_int] T.t_sl_int #[x18.v, x100.v]) w16 fun (x101 : Sl) w17 =>
  Chg w15 w17 D15 ∧ (
  I22 x101 (IntKind.i64.wrap (x85 + 1)) w17 ∧ m22 x101 (IntKind.i64.wrap (x85 + 1)) w17 < m22 x18 x85 w14)))))))) (
  ((IntKind.i64.wrap (2 * (IntKind.i64.wrap (x3 + 1)))) : Int) ≠ 0 ∧ (
  ∀ w18, Ext w14 w18 →
  Q x18 (IntKind.i64.wrap ((IntKind.i64.wrap (Int.tdiv (IntKind.i64.wrap ((IntKind.i64.wrap (x2 + (IntKind.i64.wrap (2 * (IntKind.i64.wrap (x3 + 1)))))) - 1)) (IntKind.i64.wrap (2 * (IntKind.i64.wrap (x3 + 1)))))) * (IntKind.i64.wrap (x3 + 1)))) w18)))

theorem C_s_clHalve {Q : Sl → Int → World → Prop} {x0_0 : Sl} {x0_1 : Sl} {x0_2 : Sl} {x1 : Sl} {x2 : Int} {x3 : Int} {w : World} (h : V_s_clHalve Q x0_0 x0_1 x0_2 x1 x2 x3 w) : Calls Try.prog F.s_clHalve #[.agg #[x0_0.v, x0_1.v, x0_2.v], x1.v, .int .i64 x2, .int .i64 x3] w (Ret [.at .sl, .at (.int .i64)] Q) :=
  mkC (hint := hint) (ann := annOf [(3, ⟨[(1, .sl), (11, .int .i64)], [12, 13, 14, 15, 17, 24, 25, 26, 27, 28, 29, 30, 31, 32, 33, 34, 35, 36, 37, 38, 39, 40, 41, 42, 43, 44, 45, 46, 47, 48, 49, 50, 51, 52, 53, 54, 55, 56, 57, 58, 59, 60, 61, 62, 63, 64, 65, 66, 67, 68, 69, 70, 71, 72, 73, 74, 75, 76, 77, 78, 79, 80, 81, 82]⟩), (7, ⟨[(33, .int .i64)], [13, 14, 15, 17, 34, 35, 36, 37, 38, 39, 40, 41, 42, 43, 44, 45, 46, 47, 48, 49, 50, 51, 52, 53, 54, 55, 56, 57, 58, 59, 60, 61, 62, 63, 64, 65, 66, 67, 68, 69, 70, 71, 72, 73, 74, 75, 76, 77, 78, 79, 80, 81]⟩), (12, ⟨[(15, .sl), (52, .int .i64)], [17, 53, 54, 55, 56, 57, 58, 59, 60, 61, 62, 63, 64, 65, 66, 67, 68, 69]⟩), (22, ⟨[(18, .sl), (85, .int .i64)], [20, 86, 87, 88, 89, 90, 91, 92, 93, 94, 95, 96, 97, 98, 99, 100, 101, 102]⟩)]) (args := [.agg #[x0_0.v, x0_1.v, x0_2.v], x1.v, .int .i64 x2, .int .i64 x3]) (rs := [.at .sl, .at (.int .i64)]) Try.func59 (by kernel_rfl) (by kernel_rfl) h

def V_i_halveColours (Q : Sl → Int → World → Prop) (x0_0 : Sl) (x0_1 : Sl) (x0_2 : Sl) (x1 : Sl) (x2 : Int) (x3 : Int) (w : World) : Prop :=
  NEW T.t_i_Network #[x0_0.v, x0_1.v, x0_2.v] w fun (px4 : Addr) w1 =>
  Calls Try.prog F.slices_Clone_sl_int_int #[x1.v] w1 (Ret [.at .sl] fun (x25 : Sl) w2 =>
  ∃ (I4 : Int → World → Prop) (m4 : Int → World → Nat), I4 0 w2 ∧ ∀ (x28 : Int) w3, I4 x28 w3 → ∀ _ _ _ _ _ _ _ _ _ _ _ _ _ _ _ _ _ _ _ _ _ _ _ _ _ _ _ _ _ _ _ _ _ _ _ _ _ _ _ _ _ _ _ _ _ _ _ _ _ _ _ _ _ _ _ _ _ _ _ _ _ : Value,
  cond (decide ((x28 : Int) < (IntKind.i64.wrap (x3 + 1)))) (
  Calls Try.prog F.slices_Clone_sl_int_int #[x25.v] w3 (Ret [.at .sl] fun (x32 : Sl) w4 =>
  ∃ (I8 : Int → World → Prop) (m8 : Int → World → Nat), I8 0 w4 ∧ ∀ (x35 : Int) w5, I8 x35 w5 → ∀ _ _ _ _ _ _ _ _ _ _ _ _ _ _ _ _ _ _ _ _ _ _ _ _ _ _ _ _ _ _ _ _ _ _ _ _ _ _ _ _ _ _ _ _ _ _ _ _ _ _ _ : Value,
  cond (decide ((x35 : Int) < x32.len)) (
  IX x32 x35 1 fun (px38 : Addr) =>
  LD [.int .i64] px38 w5 fun (x39 : Int) =>
  ((IntKind.i64.wrap (2 * (IntKind.i64.wrap (x3 + 1)))) : Int) ≠ 0 ∧ (
  cond (((Int.tmod x39 (IntKind.i64.wrap (2 * (IntKind.i64.wrap (x3 + 1))))) : Int) != (IntKind.i64.wrap ((IntKind.i64.wrap (x3 + 1)) + x28))) (
  I8 (IntKind.i64.wrap (x35 + 1)) w5 ∧ m8 (IntKind.i64.wrap (x35 + 1)) w5 < m8 x35 w5) (
  LD [.sl, .sl, .sl] px4 w5 fun (x48_0 : Sl) (x48_1 : Sl) (x48_2 : Sl) =>
  Calls Try.prog F.i_near #[.agg #[x48_0.v, x48_1.v, x48_2.v], .int .i64 x35, x32.v] w5 (Ret [.at .sl] fun (x51 : Sl) w6 =>
  ∃ (I13 : Sl → Int → World → Prop) (m13 : Sl → Int → World → Nat), I13 (⟨none, 0, 0⟩) 0 w6 ∧ ∀ (x16 : Sl) (x53 : Int) w7, I13 x16 x53 w7 → ∀ _ _ _ _ _ _ _ _ _ _ _ _ _ _ _ _ _ _ : Value,
  cond (decide ((x53 : Int) < x51.len)) (
  IX x51 x53 1 fun (px55 : Addr) =>
  LD [.int .i64] px55 w7 fun (x56 : Int) =>
  ((IntKind.i64.wrap (2 * (IntKind.i64.wrap (x3 + 1)))) : Int) ≠ 0 ∧ (
  ((IntKind.i64.wrap (2 * (IntKind.i64.wrap (x3 + 1)))) : Int) ≠ 0 ∧ (
  ∀ w8, Ext w7 w8 →
  cond (((IntKind.i64.wrap (Int.tdiv x56 (IntKind.i64.wrap (2 * (IntKind.i64.wrap (x3 + 1)))))) : Int) == (IntKind.i64.wrap (Int.tdiv x39 (IntKind.i64.wrap (2 * (IntKind.i64.wrap (x3 + 1))))))) (
  ((IntKind.i64.wrap (2 * (IntKind.i64.wrap (x3 + 1)))) : Int) ≠ 0 ∧ (
  RUN Try.prog (.at .sl) (Instr.buildSlice T.t_sl_int 1 #[(0, .int .i64 (Int.tmod x56 (IntKind.i64.wrap (2 * (IntKind.i64.wrap (x3 + 1))))))]) w8 fun (x68 : Sl) w9 =>
  RUN Try.prog (.at .sl) (bsem .append #[T.t_sl_int, T.t_sl_int] T.t_sl_int #[x16.v, x68.v]) w9 fun (x69 : Sl) w10 =>
  I13 x69 (IntKind.i64.wrap (x53 + 1)) w10 ∧ m13 x69 (IntKind.i64.wrap (x53 + 1)) w10 < m13 x16 x53 w7)) (
  I13 x16 (IntKind.i64.wrap (x53 + 1)) w8 ∧ m13 x16 (IntKind.i64.wrap (x53 + 1)) w8 < m13 x16 x53 w7)))) (
  ∀ w11, Ext w7 w11 → w11.heap = w7.heap → ∃ (D11 : Nat → Prop),
  ((IntKind.i64.wrap (2 * (IntKind.i64.wrap (x3 + 1)))) : Int) ≠ 0 ∧ (
  Chg w11 w11 D11 ∧ (
  Calls Try.prog F.i_leastFree #[x16.v] w11 (Ret [.at (.int .i64)] fun (x79 : Int) w12 =>
  Chg w11 w12 D11 ∧ (
  Chg w11 w12 D11 ∧ (
  IX x25 x35 1 fun (px81 : Addr) =>
  ST px81 0 [.int .i64 (IntKind.i64.wrap ((IntKind.i64.wrap (x39 - (Int.tmod x39 (IntKind.i64.wrap (2 * (IntKind.i64.wrap (x3 + 1))))))) + x79))] w12 fun w13 =>
  I8 (IntKind.i64.wrap (x35 + 1)) w13 ∧ m8 (IntKind.i64.wrap (x35 + 1)) w13 < m8 x35 w5)))))))))) (
  I4 (IntKind.i64.wrap (x28 + 1)) w5 ∧ m4 (IntKind.i64.wrap (x28 + 1)) w5 < m4 x28 w3))) (
  ∃ (I22 : Int → World → Prop) (m22 : Int → World → Nat), I22 0 w3 ∧ ∀ (x86 : Int) w14, I22 x86 w14 → ∀ _ _ _ _ _ _ _ _ _ _ _ _ _ _ _ _ _ _ _ _ : Value,
  cond (decide ((x86 : Int) < x25.len)) (
  IX x25 x86 1 fun (px89 : Addr) =>
  LD [.int .i64] px89 w14 fun (x90 : Int) =>
  ∀ w15, Ext w14 w15 → w15.heap = w14.heap → ∃ (D15 : Nat → Prop),
  ((IntKind.i64.wrap (2 * (IntKind.i64.wrap (x3 + 1)))) : Int) ≠ 0 ∧ (
  Chg w15 w15 D15 ∧ (
  ((IntKind.i64.wrap (2 * (IntKind.i64.wrap (x3 + 1)))) : Int) ≠ 0 ∧ (
  Chg w15 w15 D15 ∧ (
  Chg w15 w15 D15 ∧ (
  IX x25 x86 1 fun (px103 : Addr) =>
  ST px103 0 [.int .i64 (IntKind.i64.wrap ((IntKind.i64.wrap ((IntKind.i64.wrap (Int.tdiv x90 (IntKind.i64.wrap (2 * (IntKind.i64.wrap (x3 + 1)))))) * (IntKind.i64.wrap (x3 + 1)))) + (Int.tmod x90 (IntKind.i64.wrap (2 * (IntKind.i64.wrap (x3 + 1)))))))] w15 fun w16 =>
  I22 (IntKind.i64.wrap (x86 + 1)) w16 ∧ m22 (IntKind.i64.wrap (x86 + 1)) w16 < m22 x86 w14)))))) (
  ((IntKind.i64.wrap (2 * (IntKind.i64.wrap (x3 + 1)))) : Int) ≠ 0 ∧ (
  ∀ w17, Ext w14 w17 →
  Q x25 (IntKind.i64.wrap ((IntKind.i64.wrap (x3 + 1)) * (IntKind.i64.wrap (Int.tdiv (IntKind.i64.wrap ((IntKind.i64.wrap (x2 + (IntKind.i64.wrap (2 * (IntKind.i64.wrap (x3 + 1)))))) - 1)) (IntKind.i64.wrap (2 * (IntKind.i64.wrap (x3 + 1)))))))) w17))))

theorem C_i_halveColours {Q : Sl → Int → World → Prop} {x0_0 : Sl} {x0_1 : Sl} {x0_2 : Sl} {x1 : Sl} {x2 : Int} {x3 : Int} {w : World} (h : V_i_halveColours Q x0_0 x0_1 x0_2 x1 x2 x3 w) : Calls Try.prog F.i_halveColours #[.agg #[x0_0.v, x0_1.v, x0_2.v], x1.v, .int .i64 x2, .int .i64 x3] w (Ret [.at .sl, .at (.int .i64)] Q) :=
  mkC (hint := hint) (ann := annOf [(4, ⟨[(28, .int .i64)], [12, 13, 14, 15, 16, 18, 29, 30, 31, 32, 33, 34, 35, 36, 37, 38, 39, 40, 41, 42, 43, 44, 45, 46, 47, 48, 49, 50, 51, 52, 53, 54, 55, 56, 57, 58, 59, 60, 61, 62, 63, 64, 65, 66, 67, 68, 69, 70, 71, 72, 73, 74, 75, 76, 77, 78, 79, 80, 81, 82, 83]⟩), (8, ⟨[(35, .int .i64)], [14, 15, 16, 18, 36, 37, 38, 39, 40, 41, 42, 43, 44, 45, 46, 47, 48, 49, 50, 51, 52, 53, 54, 55, 56, 57, 58, 59, 60, 61, 62, 63, 64, 65, 66, 67, 68, 69, 70, 71, 72, 73, 74, 75, 76, 77, 78, 79, 80, 81, 82]⟩), (13, ⟨[(16, .sl), (53, .int .i64)], [18, 54, 55, 56, 57, 58, 59, 60, 61, 62, 63, 64, 65, 66, 67, 68, 69, 70]⟩), (22, ⟨[(86, .int .i64)], [19, 20, 87, 88, 89, 90, 91, 92, 93, 94, 95, 96, 97, 98, 99, 100, 101, 102, 103, 104]⟩)]) (args := [.agg #[x0_0.v, x0_1.v, x0_2.v], x1.v, .int .i64 x2, .int .i64 x3]) (rs := [.at .sl, .at (.int .i64)]) Try.func60 (by kernel_rfl) (by kernel_rfl) h

def V_s_neGood_k1 (Q : Bool → World → Prop) (px1 : Addr) (w5 : World) : Prop :=
  LD [.sl] (px1.add 0) w5 fun (x37 : Sl) =>
  ∃ (I4 : Int → World → Prop) (m4 : Int → World → Nat), I4 0 w5 ∧ ∀ (x39 : Int) w6, I4 x39 w6 → ∀ _ _ _ _ _ _ _ _ _ _ _ _ _ _ _ _ _ _ _ _ _ _ _ _ _ _ _ _ _ _ _ _ _ _ _ _ _ _ _ _ _ _ _ _ _ _ _ _ _ _ _ _ _ _ _ _ _ _ _ : Value,
  cond (decide ((x39 : Int) < x37.len)) (
  IX x37 x39 1 fun (px42 : Addr) =>
  LD [.sl] px42 w6 fun (x43 : Sl) =>
  cond (decide ((x43.len : Int) > 6)) (
  Q false w6) (
  ∃ (I9 : Int → World → Prop) (m9 : Int → World → Nat), I9 0 w6 ∧ ∀ (x49 : Int) w7, I9 x49 w7 → ∀ _ _ _ _ _ _ _ _ _ _ _ _ _ _ _ _ _ _ _ _ _ _ _ _ _ _ _ _ _ _ _ _ _ _ _ _ _ _ _ _ _ _ _ _ _ _ : Value,
  cond (decide ((x49 : Int) < x43.len)) (
  IX x43 x49 2 fun (px52 : Addr) =>
  LD [.int .i64, .int .i64] px52 w7 fun (x53_0 : Int) (x53_1 : Int) =>
  NEW T.t_i_End #[.int .i64 0, .int .i64 0] w7 fun (px6 : Addr) w8 =>
  ST px6 0 [.int .i64 x53_0, .int .i64 x53_1] w8 fun w9 =>
  LD [.int .i64] (px6.add 0) w9 fun (x55 : Int) =>
  LD [.sl] (px1.add 0) w9 fun (x57 : Sl) =>
  QCALL Try.prog F.s_l1In #[.int .i64 x55, .int .i64 0, .int .i64 (IntKind.i64.wrap (x57.len - 1))] w9 [.at .bool] fun (x60 : Bool) =>
  cond (!x60) (
  ∀ w10, Ext w9 w10 →
  Q false w10) (
  LD [.int .i64] (px6.add 1) w9 fun (x64 : Int) =>
  LD [.sl] (px1.add 0) w9 fun (x66 : Sl) =>
  LD [.int .i64] (px6.add 0) w9 fun (x68 : Int) =>
  IX x66 x68 1 fun (px69 : Addr) =>
  LD [.sl] px69 w9 fun (x70 : Sl) =>
  QCALL Try.prog F.s_l1In #[.int .i64 x64, .int .i64 0, .int .i64 (IntKind.i64.wrap (x70.len - 1))] w9 [.at .bool] fun (x73 : Bool) =>
  cond (!x73) (
  ∀ w11, Ext w9 w11 →
  Q false w11) (
  LD [.sl] (px1.add 0) w9 fun (x78 : Sl) =>
  LD [.int .i64] (px6.add 0) w9 fun (x80 : Int) =>
  IX x78 x80 1 fun (px81 : Addr) =>
  LD [.sl] px81 w9 fun (x82 : Sl) =>
  LD [.int .i64] (px6.add 1) w9 fun (x84 : Int) =>
  IX x82 x84 2 fun (px85 : Addr) =>
  LD [.int .i64, .int .i64] px85 w9 fun (x86_0 : Int) (x86_1 : Int) =>
  AEQ Try.prog (do eqGuard .neq T.t_i_End (.tmp 86) (.tmp 89) (.agg #[.int .i64 x86_0, .int .i64 x86_1]) (.agg #[.int .i64 x39, .int .i64 x49]); binOp .neq T.t_i_End (.agg #[.int .i64 x86_0, .int .i64 x86_1]) (.agg #[.int .i64 x39, .int .i64 x49])) fun (x90 : Bool) =>
  ∀ w12, Ext w9 w12 →
  cond x90 (
  Q false w12) (
  I9 (IntKind.i64.wrap (x49 + 1)) w12 ∧ m9 (IntKind.i64.wrap (x49 + 1)) w12 < m9 x49 w7)))) (
  I4 (IntKind.i64.wrap (x39 + 1)) w7 ∧ m4 (IntKind.i64.wrap (x39 + 1)) w7 < m4 x39 w6))) (
  Q true w6)

def V_s_neGood (Q : Bool → World → Prop) (x0_0 : Sl) (x0_1 : Sl) (x0_2 : Sl) (w : World) : Prop :=
  NEW T.t_i_Network #[x0_0.v, x0_1.v, x0_2.v] w fun (px1 : Addr) w1 =>
  LD [.sl] (px1.add 0) w1 fun (x8 : Sl) =>
  Calls Try.prog F.s_l1In #[.int .i64 x8.len, .int .i64 1, .int .i64 40] w1 (Ret [.at .bool] fun (x10 : Bool) w2 =>
  cond (!x10) (
  Q false w2) (
  LD [.sl] (px1.add 1) w2 fun (x14 : Sl) =>
  LD [.sl] (px1.add 0) w2 fun (x16 : Sl) =>
  Calls Try.prog F.s_neIds #[x14.v, .int .i64 x16.len] w2 (Ret [.at .bool] fun (x18 : Bool) w3 =>
  cond (!x18) (
  Q false w3) (
  LD [.sl] (px1.add 2) w3 fun (x23 : Sl) =>
  LD [.sl] (px1.add 0) w3 fun (x26 : Sl) =>
  cond ((x23.len : Int) != x26.len) (
  Q false w3) (
  LD [.sl] (px1.add 2) w3 fun (x32 : Sl) =>
  Calls Try.prog F.s_l1All #[x32.v, .int .i64 0, .int .i64 9] w3 (Ret [.at .bool] fun (x33 : Bool) w4 =>
  cond (!x33) (
  Q false w4) (
  V_s_neGood_k1 Q px1 w4)))))))

theorem C_s_neGood {Q : Bool → World → Prop} {x0_0 : Sl} {x0_1 : Sl} {x0_2 : Sl} {w : World} (h : V_s_neGood Q x0_0 x0_1 x0_2 w) : Calls Try.prog F.s_neGood #[.agg #[x0_0.v, x0_1.v, x0_2.v]] w (Ret [.at .bool] Q) :=
  mkC (hint := hint) (ann := annOf [(4, ⟨[(39, .int .i64)], [2, 3, 4, 5, 6, 40, 41, 42, 43, 44, 45, 46, 47, 48, 49, 50, 51, 52, 53, 54, 55, 56, 57, 58, 59, 60, 61, 62, 63, 64, 65, 66, 67, 68, 69, 70, 71, 72, 73, 74, 75, 76, 77, 78, 79, 80, 81, 82, 83, 84, 85, 86, 87, 88, 89, 90, 91, 92, 93]⟩), (9, ⟨[(49, .int .i64)], [2, 5, 6, 50, 51, 52, 53, 54, 55, 56, 57, 58, 59, 60, 61, 62, 63, 64, 65, 66, 67, 68, 69, 70, 71, 72, 73, 74, 75, 76, 77, 78, 79, 80, 81, 82, 83, 84, 85, 86, 87, 88, 89, 90, 91, 92]⟩)]) (args := [.agg #[x0_0.v, x0_1.v, x0_2.v]]) (rs := [.at .bool]) Try.func61 (by kernel_rfl) (by kernel_rfl) h

def V_s_soEmpty (Q : Sl → World → Prop) (n_0 : Sl) (n_1 : Sl) (n_2 : Sl) (w : World) : Prop :=
  NEW T.t_i_Network #[n_0.v, n_1.v, n_2.v] w fun (p_n : Addr) w1 =>
  LD [.sl] (p_n.add 0) w1 fun (x9 : Sl) =>
  ∃ (I3 : Sl → Int → World → Prop) (m3 : Sl → Int → World → Nat), I3 (⟨none, 0, 0⟩) 0 w1 ∧ ∀ (out : Sl) (x11 : Int) w2, I3 out x11 w2 → ∀ _ _ _ _ _ _ _ _ _ _ _ _ _ _ _ _ _ _ _ _ _ _ _ : Value,
  cond (decide ((x11 : Int) < x9.len)) (
  IX x9 x11 1 fun (px13 : Addr) =>
  LD [.sl] px13 w2 fun (x14 : Sl) =>
  RUN Try.prog (.at .sl) (Instr.makeSlice T.t_sl_int (.int .i64 x14.len) (.int .i64 x14.len)) w2 fun (x17 : Sl) w3 =>
  ∃ (I7 : Int → World → Prop) (m7 : Int → World → Nat), I7 0 w3 ∧ ∀ (x20 : Int) w4, I7 x20 w4 → ∀ _ _ _ _ _ _ _ : Value,
  cond (decide ((x20 : Int) < x17.len)) (
  IX x17 x20 1 fun (px25 : Addr) =>
  ST px25 0 [.int .i64 (-1)] w4 fun w5 =>
  I7 (IntKind.i64.wrap (x20 + 1)) w5 ∧ m7 (IntKind.i64.wrap (x20 + 1)) w5 < m7 x20 w4) (
  RUN Try.prog (.at .sl) (Instr.buildSlice T.t_sl_sl_int 1 #[(0, x17.v)]) w4 fun (x29 : Sl) w6 =>
  RUN Try.prog (.at .sl) (bsem .append #[T.t_sl_sl_int, T.t_sl_sl_int] T.t_sl_sl_int #[out.v, x29.v]) w6 fun (x30 : Sl) w7 =>
  I3 x30 (IntKind.i64.wrap (x11 + 1)) w7 ∧ m3 x30 (IntKind.i64.wrap (x11 + 1)) w7 < m3 out x11 w2)) (
  Q out w2)

theorem C_s_soEmpty {Q : Sl → World → Prop} {n_0 : Sl} {n_1 : Sl} {n_2 : Sl} {w : World} (h : V_s_soEmpty Q n_0 n_1 n_2 w) : Calls Try.prog F.s_soEmpty #[.agg #[n_0.v, n_1.v, n_2.v]] w (Ret [.at .sl] Q) :=
  mkC (hint := hint) (ann := annOf [(3, ⟨[(3, .sl), (11, .int .i64)], [5, 6, 7, 12, 13, 14, 15, 16, 17, 18, 19, 20, 21, 22, 23, 24, 25, 26, 27, 28, 29, 30, 31]⟩), (7, ⟨[(20, .int .i64)], [7, 21, 22, 23, 24, 25, 26]⟩)]) (args := [.agg #[n_0.v, n_1.v, n_2.v]]) (rs := [.at .sl]) Try.func62 (by kernel_rfl) (by kernel_rfl) h

def V_s_neEdges (Q : Sl → World → Prop) (n_0 : Sl) (n_1 : Sl) (n_2 : Sl) (w : World) : Prop :=
  NEW T.t_i_Network #[n_0.v, n_1.v, n_2.v] w fun (p_n : Addr) w1 =>
  LD [.sl] (p_n.add 0) w1 fun (x9 : Sl) =>
  ∃ (I3 : Sl → Int → World → Prop) (m3 : Sl → Int → World → Nat), I3 (⟨none, 0, 0⟩) 0 w1 ∧ ∀ (out : Sl) (x11 : Int) w2, I3 out x11 w2 → ∀ _ _ _ _ _ _ _ _ _ _ _ _ _ _ _ _ _ _ _ _ _ _ _ _ _ _ _ _ _ _ _ : Value,
  cond (decide ((x11 : Int) < x9.len)) (
  IX x9 x11 1 fun (px14 : Addr) =>
  LD [.sl] px14 w2 fun (x15 : Sl) =>
  ∃ (I6 : Sl → Int → World → Prop) (m6 : Sl → Int → World → Nat), I6 out 0 w2 ∧ ∀ (out_2 : Sl) (x18 : Int) w3, I6 out_2 x18 w3 → ∀ _ _ _ _ _ _ _ _ _ _ _ _ _ _ _ _ _ _ _ _ _ : Value,
  cond (decide ((x18 : Int) < x15.len)) (
  IX x15 x18 2 fun (px21 : Addr) =>
  LD [.int .i64, .int .i64] px21 w3 fun (x22_0 : Int) (x22_1 : Int) =>
  NEW T.t_i_End #[.int .i64 0, .int .i64 0] w3 fun (p_e : Addr) w4 =>
  ST p_e 0 [.int .i64 x22_0, .int .i64 x22_1] w4 fun w5 =>
  LD [.sl, .sl, .sl] p_n w5 fun (x23_0 : Sl) (x23_1 : Sl) (x23_2 : Sl) =>
  Calls Try.prog F.s_neFirst #[.agg #[x23_0.v, x23_1.v, x23_2.v], .int .i64 x11, .int .i64 x18] w5 (Ret [.at .bool] fun (x26 : Bool) w6 =>
  cond x26 (
  LD [.int .i64] (p_e.add 0) w6 fun (x31 : Int) =>
  LD [.int .i64] (p_e.add 1) w6 fun (x33 : Int) =>
  RUN Try.prog (.at .sl) (Instr.buildSlice T.t_sl_int 4 #[(0, .int .i64 x11), (1, .int .i64 x18), (2, .int .i64 x31), (3, .int .i64 x33)]) w6 fun (x34 : Sl) w7 =>
  RUN Try.prog (.at .sl) (Instr.buildSlice T.t_sl_sl_int 1 #[(0, x34.v)]) w7 fun (x35 : Sl) w8 =>
  RUN Try.prog (.at .sl) (bsem .append #[T.t_sl_sl_int, T.t_sl_sl_int] T.t_sl_sl_int #[out_2.v, x35.v]) w8 fun (x36 : Sl) w9 =>
  I6 x36 (IntKind.i64.wrap (x18 + 1)) w9 ∧ m6 x36 (IntKind.i64.wrap (x18 + 1)) w9 < m6 out_2 x18 w3) (
  I6 out_2 (IntKind.i64.wrap (x18 + 1)) w6 ∧ m6 out_2 (IntKind.i64.wrap (x18 + 1)) w6 < m6 out_2 x18 w3))) (
  I3 out_2 (IntKind.i64.wrap (x11 + 1)) w3 ∧ m3 out_2 (IntKind.i64.wrap (x11 + 1)) w3 < m3 out x11 w2)) (
  Q out w2)

theorem C_s_neEdges {Q : Sl → World → Prop} {n_0 : Sl} {n_1 : Sl} {n_2 : Sl} {w : World} (h : V_s_neEdges Q n_0 n_1 n_2 w) : Calls Try.prog F.s_neEdges #[.agg #[n_0.v, n_1.v, n_2.v]] w (Ret [.at .sl] Q) :=
  mkC (hint := hint) (ann := annOf [(3, ⟨[(3, .sl), (11, .int .i64)], [4, 5, 6, 7, 12, 13, 14, 15, 16, 17, 18, 19, 20, 21, 22, 23, 24, 25, 26, 27, 28, 29, 30, 31, 32, 33, 34, 35, 36, 37, 38]⟩), (6, ⟨[(3, .sl), (18, .int .i64)], [6, 7, 19, 20, 21, 22, 23, 24, 25, 26, 27, 28, 29, 30, 31, 32, 33, 34, 35, 36, 37]⟩)]) (args := [.agg #[n_0.v, n_1.v, n_2.v]]) (rs := [.at .sl]) Try.func63 (by kernel_rfl) (by kernel_rfl) h

def V_s_clLeast (Q : Int → World → Prop) (l : Sl) (w : World) : Prop :=
  ∃ (I2 : Int → World → Prop) (m2 : Int → World → Nat), I2 0 w ∧ ∀ (x : Int) w1, I2 x w1 → ∀ _ _ _ _ _ : Value,
  Calls Try.prog F.s_l1Has #[l.v, .int .i64 x] w1 (Ret [.at .bool] fun (x6 : Bool) w2 =>
  cond x6 (
  I2 (IntKind.i64.wrap (x + 1)) w2 ∧ m2 (IntKind.i64.wrap (x + 1)) w2 < m2 x w1) (
  Q x w2))

theorem C_s_clLeast {Q : Int → World → Prop} {l : Sl} {w : World} (h : V_s_clLeast Q l w) : Calls Try.prog F.s_clLeast #[l.v] w (Ret [.at (.int .i64)] Q) :=
  mkC (hint := hint) (ann := annOf [(2, ⟨[(3, .int .i64)], [4, 5, 6, 7, 8]⟩)]) (args := [l.v]) (rs := [.at (.int .i64)]) Try.func64 (by kernel_rfl) (by kernel_rfl) h

def V_s_l1Own (Q : Sl → World → Prop) (l : Sl) (w : World) : Prop :=
  RUN Try.prog (.at .sl) (Instr.buildSlice T.t_sl_int 0 #[]) w fun (x3 : Sl) w1 =>
  RUN Try.prog (.at .sl) (bsem .append #[T.t_sl_int, T.t_sl_int] T.t_sl_int #[x3.v, l.v]) w1 fun (x5 : Sl) w2 =>
  Q x5 w2

theorem C_s_l1Own {Q : Sl → World → Prop} {l : Sl} {w : World} (h : V_s_l1Own Q l w) : Calls Try.prog F.s_l1Own #[l.v] w (Ret [.at .sl] Q) :=
  mkC (hint := hint) (ann := annOf []) (args := [l.v]) (rs := [.at .sl]) Try.func65 (by kernel_rfl) (by kernel_rfl) h

def V_i_IsNetwork_k1 (Q : Bool → World → Prop) (px1 : Addr) (w5 : World) : Prop :=
  LD [.sl] (px1.add 0) w5 fun (x31 : Sl) =>
  ∃ (I4 : Int → World → Prop) (m4 : Int → World → Nat), I4 0 w5 ∧ ∀ (x33 : Int) w6, I4 x33 w6 → ∀ _ _ _ _ _ _ _ _ _ _ _ _ _ _ _ _ _ _ _ _ _ _ _ _ _ _ _ _ _ _ _ _ _ _ _ _ _ _ _ _ _ _ _ _ : Value,
  cond (decide ((x33 : Int) < x31.len)) (
  IX x31 x33 1 fun (px36 : Addr) =>
  LD [.sl] px36 w6 fun (x37 : Sl) =>
  cond (decide ((x37.len : Int) > 6)) (
  Q false w6) (
  ∃ (I9 : Int → World → Prop) (m9 : Int → World → Nat), I9 0 w6 ∧ ∀ (x43 : Int) w7, I9 x43 w7 → ∀ _ _ _ _ _ _ _ _ _ _ _ _ _ _ _ _ _ _ _ _ _ _ _ _ _ _ _ _ _ _ _ : Value,
  cond (decide ((x43 : Int) < x37.len)) (
  IX x37 x43 2 fun (px46 : Addr) =>
  LD [.int .i64, .int .i64] px46 w7 fun (x47_0 : Int) (x47_1 : Int) =>
  NEW T.t_i_End #[.int .i64 0, .int .i64 0] w7 fun (px6 : Addr) w8 =>
  ST px6 0 [.int .i64 x47_0, .int .i64 x47_1] w8 fun w9 =>
  LD [.sl, .sl, .sl] px1 w9 fun (x48_0 : Sl) (x48_1 : Sl) (x48_2 : Sl) =>
  LD [.int .i64] (px6.add 0) w9 fun (x50 : Int) =>
  LD [.int .i64] (px6.add 1) w9 fun (x52 : Int) =>
  QCALL Try.prog F.i_Network_hasPort #[.agg #[x48_0.v, x48_1.v, x48_2.v], .int .i64 x50, .int .i64 x52] w9 [.at .bool] fun (x53 : Bool) =>
  cond (!x53) (
  ∀ w10, Ext w9 w10 →
  Q false w10) (
  LD [.sl] (px1.add 0) w9 fun (x57 : Sl) =>
  LD [.int .i64] (px6.add 0) w9 fun (x59 : Int) =>
  IX x57 x59 1 fun (px60 : Addr) =>
  LD [.sl] px60 w9 fun (x61 : Sl) =>
  LD [.int .i64] (px6.add 1) w9 fun (x63 : Int) =>
  IX x61 x63 2 fun (px64 : Addr) =>
  LD [.int .i64, .int .i64] px64 w9 fun (x65_0 : Int) (x65_1 : Int) =>
  AEQ Try.prog (do eqGuard .neq T.t_i_End (.tmp 65) (.tmp 68) (.agg #[.int .i64 x65_0, .int .i64 x65_1]) (.agg #[.int .i64 x33, .int .i64 x43]); binOp .neq T.t_i_End (.agg #[.int .i64 x65_0, .int .i64 x65_1]) (.agg #[.int .i64 x33, .int .i64 x43])) fun (x69 : Bool) =>
  ∀ w11, Ext w9 w11 →
  cond x69 (
  Q false w11) (
  I9 (IntKind.i64.wrap (x43 + 1)) w11 ∧ m9 (IntKind.i64.wrap (x43 + 1)) w11 < m9 x43 w7))) (
  I4 (IntKind.i64.wrap (x33 + 1)) w7 ∧ m4 (IntKind.i64.wrap (x33 + 1)) w7 < m4 x33 w6))) (
  Q true w6)

def V_i_IsNetwork (Q : Bool → World → Prop) (x0_0 : Sl) (x0_1 : Sl) (x0_2 : Sl) (w : World) : Prop :=
  NEW T.t_i_Network #[x0_0.v, x0_1.v, x0_2.v] w fun (px1 : Addr) w1 =>
  LD [.sl] (px1.add 0) w1 fun (x8 : Sl) =>
  Calls Try.prog F.i_within #[.int .i64 x8.len, .int .i64 1, .int .i64 40] w1 (Ret [.at .bool] fun (x10 : Bool) w2 =>
  cond (!x10) (
  Q false w2) (
  LD [.sl] (px1.add 1) w2 fun (x14 : Sl) =>
  LD [.sl] (px1.add 0) w2 fun (x16 : Sl) =>
  Calls Try.prog F.i_idsOk #[x14.v, .int .i64 x16.len] w2 (Ret [.at .bool] fun (x18 : Bool) w3 =>
  cond (!x18) (
  Q false w3) (
  LD [.sl] (px1.add 2) w3 fun (x23 : Sl) =>
  LD [.sl] (px1.add 0) w3 fun (x25 : Sl) =>
  Calls Try.prog F.i_inputsOk #[x23.v, .int .i64 x25.len] w3 (Ret [.at .bool] fun (x27 : Bool) w4 =>
  cond (!x27) (
  Q false w4) (
  V_i_IsNetwork_k1 Q px1 w4))))))

theorem C_i_IsNetwork {Q : Bool → World → Prop} {x0_0 : Sl} {x0_1 : Sl} {x0_2 : Sl} {w : World} (h : V_i_IsNetwork Q x0_0 x0_1 x0_2 w) : Calls Try.prog F.i_IsNetwork #[.agg #[x0_0.v, x0_1.v, x0_2.v]] w (Ret [.at .bool] Q) :=
  mkC (hint := hint) (ann := annOf [(4, ⟨[(33, .int .i64)], [2, 3, 4, 5, 6, 34, 35, 36, 37, 38, 39, 40, 41, 42, 43, 44, 45, 46, 47, 48, 49, 50, 51, 52, 53, 54, 55, 56, 57, 58, 59, 60, 61, 62, 63, 64, 65, 66, 67, 68, 69, 70, 71, 72]⟩), (9, ⟨[(43, .int .i64)], [2, 5, 6, 44, 45, 46, 47, 48, 49, 50, 51, 52, 53, 54, 55, 56, 57, 58, 59, 60, 61, 62, 63, 64, 65, 66, 67, 68, 69, 70, 71]⟩)]) (args := [.agg #[x0_0.v, x0_1.v, x0_2.v]]) (rs := [.at .bool]) Try.func66 (by kernel_rfl) (by kernel_rfl) h

def V_slices_ContainsFunc_sl_i_edge_i_edge (Q : Bool → World → Prop) (s : Sl) (f : Value) (w : World) : Prop :=
  Calls Try.prog F.slices_IndexFunc_sl_i_edge_i_edge #[s.v, f] w (Ret [.at (.int .i64)] fun (x7 : Int) w1 =>
  Q (decide ((x7 : Int) ≥ 0)) w1)

theorem C_slices_ContainsFunc_sl_i_edge_i_edge {Q : Bool → World → Prop} {s : Sl} {f : Value} {w : World} (h : V_slices_ContainsFunc_sl_i_edge_i_edge Q s f w) : Calls Try.prog F.slices_ContainsFunc_sl_i_edge_i_edge #[s.v, f] w (Ret [.at .bool] Q) :=
  mkC (hint := hint) (ann := annOf []) (args := [s.v, f]) (rs := [.at .bool]) Try.func67 (by kernel_rfl) (by kernel_rfl) h

def V_i_Network_edges_k5 (I6 : Sl → Int → World → Prop) (m6 : Sl → Int → World → Nat) (out_2 : Sl) (x18 : Int) (w3 : World) (out_3 : Sl) (w10 : World) : Prop :=
  I6 out_3 (IntKind.i64.wrap (x18 + 1)) w10 ∧ m6 out_3 (IntKind.i64.wrap (x18 + 1)) w10 < m6 out_2 x18 w3

def V_i_Network_edges (Q : Sl → World → Prop) (n_0 : Sl) (n_1 : Sl) (n_2 : Sl) (w : World) : Prop :=
  NEW T.t_i_Network #[n_0.v, n_1.v, n_2.v] w fun (p_n : Addr) w1 =>
  LD [.sl] (p_n.add 0) w1 fun (x9 : Sl) =>
  ∃ (I3 : Sl → Int → World → Prop) (m3 : Sl → Int → World → Nat), I3 (⟨none, 0, 0⟩) 0 w1 ∧ ∀ (out : Sl) (x11 : Int) w2, I3 out x11 w2 → ∀ _ _ _ _ _ _ _ _ _ _ _ _ _ _ _ _ _ _ _ _ _ _ _ _ _ _ _ _ _ _ _ _ _ _ _ _ _ _ _ _ _ _ _ : Value,
  cond (decide ((x11 : Int) < x9.len)) (
  IX x9 x11 1 fun (px14 : Addr) =>
  LD [.sl] px14 w2 fun (x15 : Sl) =>
  ∃ (I6 : Sl → Int → World → Prop) (m6 : Sl → Int → World → Nat), I6 out 0 w2 ∧ ∀ (out_2 : Sl) (x18 : Int) w3, I6 out_2 x18 w3 → ∀ _ _ _ _ _ _ _ _ _ _ _ _ _ _ _ _ _ _ _ _ _ _ _ _ _ _ _ _ _ _ _ _ _ : Value,
  cond (decide ((x18 : Int) < x15.len)) (
  IX x15 x18 2 fun (px21 : Addr) =>
  LD [.int .i64, .int .i64] px21 w3 fun (x22_0 : Int) (x22_1 : Int) =>
  NEW T.t_i_End #[.int .i64 0, .int .i64 0] w3 fun (p_e : Addr) w4 =>
  ST p_e 0 [.int .i64 x22_0, .int .i64 x22_1] w4 fun w5 =>
  LD [.int .i64] (p_e.add 0) w5 fun (x25 : Int) =>
  cond (decide ((x11 : Int) < x25)) (
  LD [.int .i64] (p_e.add 0) w5 fun (x43 : Int) =>
  LD [.int .i64] (p_e.add 1) w5 fun (x45 : Int) =>
  RUN Try.prog (.at .sl) (Instr.buildSlice T.t_sl_i_edge 1 #[(0, .agg #[.int .i64 x11, .int .i64 x18, .int .i64 x43, .int .i64 x45])]) w5 fun (x47 : Sl) w6 =>
  RUN Try.prog (.at .sl) (bsem .append #[T.t_sl_i_edge, T.t_sl_i_edge] T.t_sl_i_edge #[out_2.v, x47.v]) w6 fun (x48 : Sl) w7 =>
  V_i_Network_edges_k5 I6 m6 out_2 x18 w3 x48 w7) (
  LD [.int .i64] (p_e.add 0) w5 fun (x30 : Int) =>
  cond ((x11 : Int) == x30) (
  LD [.int .i64] (p_e.add 1) w5 fun (x35 : Int) =>
  cond (decide ((x18 : Int) ≤ x35)) (
  LD [.int .i64] (p_e.add 0) w5 fun (x43_2 : Int) =>
  LD [.int .i64] (p_e.add 1) w5 fun (x45_2 : Int) =>
  RUN Try.prog (.at .sl) (Instr.buildSlice T.t_sl_i_edge 1 #[(0, .agg #[.int .i64 x11, .int .i64 x18, .int .i64 x43_2, .int .i64 x45_2])]) w5 fun (x47_2 : Sl) w8 =>
  RUN Try.prog (.at .sl) (bsem .append #[T.t_sl_i_edge, T.t_sl_i_edge] T.t_sl_i_edge #[out_2.v, x47_2.v]) w8 fun (x48_2 : Sl) w9 =>
  V_i_Network_edges_k5 I6 m6 out_2 x18 w3 x48_2 w9) (
  V_i_Network_edges_k5 I6 m6 out_2 x18 w3 out_2 w5)) (
  V_i_Network_edges_k5 I6 m6 out_2 x18 w3 out_2 w5))) (
  I3 out_2 (IntKind.i64.wrap (x11 + 1)) w3 ∧ m3 out_2 (IntKind.i64.wrap (x11 + 1)) w3 < m3 out x11 w2)) (
  Q out w2)

theorem C_i_Network_edges {Q : Sl → World → Prop} {n_0 : Sl} {n_1 : Sl} {n_2 : Sl} {w : World} (h : V_i_Network_edges Q n_0 n_1 n_2 w) : Calls Try.prog F.i_Network_edges #[.agg #[n_0.v, n_1.v, n_2.v]] w (Ret [.at .sl] Q) :=
  mkC (hint := hint) (ann := annOf [(3, ⟨[(3, .sl), (11, .int .i64)], [4, 5, 6, 7, 12, 13, 14, 15, 16, 17, 18, 19, 20, 21, 22, 23, 24, 25, 26, 27, 28, 29, 30, 31, 32, 33, 34, 35, 36, 37, 38, 39, 40, 41, 42, 43, 44, 45, 46, 47, 48, 49, 50]⟩), (6, ⟨[(3, .sl), (18, .int .i64)], [6, 7, 19, 20, 21, 22, 23, 24, 25, 26, 27, 28, 29, 30, 31, 32, 33, 34, 35, 36, 37, 38, 39, 40, 41, 42, 43, 44, 45, 46, 47, 48, 49]⟩)]) (args := [.agg #[n_0.v, n_1.v, n_2.v]]) (rs := [.at .sl]) Try.func68 (by kernel_rfl) (by kernel_rfl) h

def V_i_edge_isLoop (Q : Bool → World → Prop) (e_0 : Int) (e_1 : Int) (e_2 : Int) (e_3 : Int) (w : World) : Prop :=
  NEW T.t_i_edge #[.int .i64 e_0, .int .i64 e_1, .int .i64 e_2, .int .i64 e_3] w fun (p_e : Addr) w1 =>
  LD [.int .i64] (p_e.add 0) w1 fun (x4 : Int) =>
  LD [.int .i64] (p_e.add 2) w1 fun (x6 : Int) =>
  cond ((x4 : Int) == x6) (
  LD [.int .i64] (p_e.add 1) w1 fun (x10 : Int) =>
  LD [.int .i64] (p_e.add 3) w1 fun (x12 : Int) =>
  Q ((x10 : Int) != x12) w1) (
  Q false w1)

theorem C_i_edge_isLoop {Q : Bool → World → Prop} {e_0 : Int} {e_1 : Int} {e_2 : Int} {e_3 : Int} {w : World} (h : V_i_edge_isLoop Q e_0 e_1 e_2 e_3 w) : Calls Try.prog F.i_edge_isLoop #[.agg #[.int .i64 e_0, .int .i64 e_1, .int .i64 e_2, .int .i64 e_3]] w (Ret [.at .bool] Q) :=
  mkC (hint := hint) (ann := annOf []) (args := [.agg #[.int .i64 e_0, .int .i64 e_1, .int .i64 e_2, .int .i64 e_3]]) (rs := [.at .bool]) Try.func69 (by kernel_rfl) (by kernel_rfl) h

def V_i_unlabeled (Q : Sl → World → Prop) (n_0 : Sl) (n_1 : Sl) (n_2 : Sl) (w : World) : Prop :=
  NEW T.t_i_Network #[n_0.v, n_1.v, n_2.v] w fun (p_n : Addr) w1 =>
  LD [.sl] (p_n.add 0) w1 fun (x7 : Sl) =>
  RUN Try.prog (.at .sl) (Instr.makeSlice T.t_sl_sl_int (.int .i64 x7.len) (.int .i64 x7.len)) w1 fun (x9 : Sl) w2 =>
  LD [.sl] (p_n.add 0) w2 fun (x11 : Sl) =>
  ∃ (I3 : Int → World → Prop) (m3 : Int → World → Nat), I3 0 w2 ∧ ∀ (x13 : Int) w3, I3 x13 w3 → ∀ _ _ _ _ _ _ _ _ _ _ _ _ _ _ : Value,
  cond (decide ((x13 : Int) < x11.len)) (
  IX x11 x13 1 fun (px16 : Addr) =>
  LD [.sl] px16 w3 fun (x17 : Sl) =>
  RUN Try.prog (.at .sl) (Instr.buildSlice T.t_sl_int 1 #[(0, .int .i64 (-1))]) w3 fun (x20 : Sl) w4 =>
  Calls Try.prog F.slices_Repeat_sl_int_int #[x20.v, .int .i64 x17.len] w4 (Ret [.at .sl] fun (x23 : Sl) w5 =>
  IX x9 x13 1 fun (px24 : Addr) =>
  ST px24 0 [x23.v] w5 fun w6 =>
  I3 (IntKind.i64.wrap (x13 + 1)) w6 ∧ m3 (IntKind.i64.wrap (x13 + 1)) w6 < m3 x13 w3)) (
  Q x9 w3)

theorem C_i_unlabeled {Q : Sl → World → Prop} {n_0 : Sl} {n_1 : Sl} {n_2 : Sl} {w : World} (h : V_i_unlabeled Q n_0 n_1 n_2 w) : Calls Try.prog F.i_unlabeled #[.agg #[n_0.v, n_1.v, n_2.v]] w (Ret [.at .sl] Q) :=
  mkC (hint := hint) (ann := annOf [(3, ⟨[(13, .int .i64)], [4, 5, 14, 15, 16, 17, 18, 19, 20, 21, 22, 23, 24, 25]⟩)]) (args := [.agg #[n_0.v, n_1.v, n_2.v]]) (rs := [.at .sl]) Try.func70 (by kernel_rfl) (by kernel_rfl) h

def V_i_leastFree (Q : Int → World → Prop) (used : Sl) (w : World) : Prop :=
  ∃ (I2 : Int → World → Prop) (m2 : Int → World → Nat), I2 0 w ∧ ∀ (c : Int) w1, I2 c w1 → ∀ _ _ _ _ _ : Value,
  Calls Try.prog F.slices_Contains_sl_int_int #[used.v, .int .i64 c] w1 (Ret [.at .bool] fun (x6 : Bool) w2 =>
  cond x6 (
  I2 (IntKind.i64.wrap (c + 1)) w2 ∧ m2 (IntKind.i64.wrap (c + 1)) w2 < m2 c w1) (
  Q c w2))

theorem C_i_leastFree {Q : Int → World → Prop} {used : Sl} {w : World} (h : V_i_leastFree Q used w) : Calls Try.prog F.i_leastFree #[used.v] w (Ret [.at (.int .i64)] Q) :=
  mkC (hint := hint) (ann := annOf [(2, ⟨[(3, .int .i64)], [4, 5, 6, 7, 8]⟩)]) (args := [used.v]) (rs := [.at (.int .i64)]) Try.func71 (by kernel_rfl) (by kernel_rfl) h

def V_slices_Concat_sl_int_int (Q : Sl → World → Prop) (slices : Sl) (w : World) : Prop :=
  ∃ (I3 : Int → Int → World → Prop) (m3 : Int → Int → World → Nat), I3 0 0 w ∧ ∀ (size1 : Int) (x11 : Int) w1, I3 size1 x11 w1 → ∀ _ _ _ _ _ _ _ _ _ _ _ _ : Value,
  cond (decide ((x11 : Int) < slices.len)) (
  IX slices x11 1 fun (px13 : Addr) =>
  LD [.sl] px13 w1 fun (x14 : Sl) =>
  cond (decide (((IntKind.i64.wrap (size1 + x14.len)) : Int) < 0)) (
  False) (
  I3 (IntKind.i64.wrap (size1 + x14.len)) (IntKind.i64.wrap (x11 + 1)) w1 ∧ m3 (IntKind.i64.wrap (size1 + x14.len)) (IntKind.i64.wrap (x11 + 1)) w1 < m3 size1 x11 w1)) (
  Calls Try.prog F.slices_Grow_sl_int_int #[.slice none 0 0, .int .i64 size1] w1 (Ret [.at .sl] fun (x24 : Sl) w2 =>
  ∃ (I11 : Sl → Int → World → Prop) (m11 : Sl → Int → World → Nat), I11 x24 0 w2 ∧ ∀ (newslice : Sl) (x27 : Int) w3, I11 newslice x27 w3 → ∀ _ _ _ _ _ _ _ _ : Value,
  cond (decide ((x27 : Int) < slices.len)) (
  IX slices x27 1 fun (px29 : Addr) =>
  LD [.sl] px29 w3 fun (x30 : Sl) =>
  RUN Try.prog (.at .sl) (bsem .append #[T.t_sl_int, T.t_sl_int] T.t_sl_int #[newslice.v, x30.v]) w3 fun (x33 : Sl) w4 =>
  I11 x33 (IntKind.i64.wrap (x27 + 1)) w4 ∧ m11 x33 (IntKind.i64.wrap (x27 + 1)) w4 < m11 newslice x27 w3) (
  Q newslice w3)))

theorem C_slices_Concat_sl_int_int {Q : Sl → World → Prop} {slices : Sl} {w : World} (h : V_slices_Concat_sl_int_int Q slices w) : Calls Try.prog F.slices_Concat_sl_int_int #[slices.v] w (Ret [.at .sl] Q) :=
  mkC (hint := hint) (ann := annOf [(3, ⟨[(3, .int .i64), (11, .int .i64)], [5, 12, 13, 14, 15, 16, 17, 18, 19, 20, 21, 22]⟩), (11, ⟨[(6, .sl), (27, .int .i64)], [8, 28, 29, 30, 31, 32, 33, 34]⟩)]) (args := [slices.v]) (rs := [.at .sl]) Try.func72 (by kernel_rfl) (by kernel_rfl) h

def V_s_DoubleCover (Q : Sl → Sl → Sl → Bool → World → Prop) (n_0 : Sl) (n_1 : Sl) (n_2 : Sl) (w : World) : Prop :=
  NEW T.t_i_Network #[n_0.v, n_1.v, n_2.v] w fun (p_n : Addr) w1 =>
  NEW T.t_i_Network #[.slice none 0 0, .slice none 0 0, .slice none 0 0] w1 fun (px2 : Addr) w2 =>
  LD [.sl, .sl, .sl] p_n w2 fun (x4_0 : Sl) (x4_1 : Sl) (x4_2 : Sl) =>
  Calls Try.prog F.s_neGood #[.agg #[x4_0.v, x4_1.v, x4_2.v]] w2 (Ret [.at .bool] fun (x5 : Bool) w3 =>
  cond (!x5) (
  ST px2 0 [.slice none 0 0, .slice none 0 0, .slice none 0 0] w3 fun w4 =>
  LD [.sl, .sl, .sl] px2 w4 fun (r0_0 : Sl) (r0_1 : Sl) (r0_2 : Sl) =>
  Q r0_0 r0_1 r0_2 false w4) (
  LD [.sl, .sl, .sl] p_n w3 fun (x8_0 : Sl) (x8_1 : Sl) (x8_2 : Sl) =>
  Calls Try.prog F.s_buDouble #[.agg #[x8_0.v, x8_1.v, x8_2.v]] w3 (Ret [.agg [.sl, .sl, .sl]] fun (x9_0 : Sl) (x9_1 : Sl) (x9_2 : Sl) w5 =>
  Calls Try.prog F.s_neIf #[.agg #[x9_0.v, x9_1.v, x9_2.v]] w5 (Ret [.agg [.sl, .sl, .sl], .at .bool] fun (x10_0_0 : Sl) (x10_0_1 : Sl) (x10_0_2 : Sl) (x10_1 : Bool) w6 =>
  ST px2 0 [x10_0_0.v, x10_0_1.v, x10_0_2.v] w6 fun w7 =>
  LD [.sl, .sl, .sl] px2 w7 fun (r0_0_2 : Sl) (r0_1_2 : Sl) (r0_2_2 : Sl) =>
  Q r0_0_2 r0_1_2 r0_2_2 x10_1 w7))))

theorem C_s_DoubleCover {Q : Sl → Sl → Sl → Bool → World → Prop} {n_0 : Sl} {n_1 : Sl} {n_2 : Sl} {w : World} (h : V_s_DoubleCover Q n_0 n_1 n_2 w) : Calls Try.prog F.s_DoubleCover #[.agg #[n_0.v, n_1.v, n_2.v]] w (Ret [.agg [.sl, .sl, .sl], .at .bool] Q) :=
  mkC (hint := hint) (ann := annOf []) (args := [.agg #[n_0.v, n_1.v, n_2.v]]) (rs := [.agg [.sl, .sl, .sl], .at .bool]) Try.func73 (by kernel_rfl) (by kernel_rfl) h

def V_s_mtCover (Q : Sl → World → Prop) (n_0 : Sl) (n_1 : Sl) (n_2 : Sl) (w : World) : Prop :=
  NEW T.t_i_Network #[n_0.v, n_1.v, n_2.v] w fun (p_n : Addr) w1 =>
  LD [.sl] (p_n.add 0) w1 fun (x11 : Sl) =>
  RUN Try.prog (.at .sl) (Instr.makeSlice T.t_sl_int (.int .i64 (IntKind.i64.wrap (2 * x11.len))) (.int .i64 (IntKind.i64.wrap (2 * x11.len)))) w1 fun (x15 : Sl) w2 =>
  ∃ (I4 : Int → World → Prop) (m4 : Int → World → Nat), I4 x11.len w2 ∧ ∀ (v : Int) w3, I4 v w3 → ∀ _ _ _ _ _ _ _ _ _ : Value,
  cond (decide ((v : Int) < (IntKind.i64.wrap (2 * x11.len)))) (
  IX x15 v 1 fun (px25 : Addr) =>
  ST px25 0 [.int .i64 1] w3 fun w4 =>
  I4 (IntKind.i64.wrap (v + 1)) w4 ∧ m4 (IntKind.i64.wrap (v + 1)) w4 < m4 v w3) (
  LD [.sl, .sl, .sl] p_n w3 fun (x27_0 : Sl) (x27_1 : Sl) (x27_2 : Sl) =>
  Calls Try.prog F.s_buDouble #[.agg #[x27_0.v, x27_1.v, x27_2.v]] w3 (Ret [.agg [.sl, .sl, .sl]] fun (x28_0 : Sl) (x28_1 : Sl) (x28_2 : Sl) w5 =>
  Calls Try.prog F.s_mtProposals #[.agg #[x28_0.v, x28_1.v, x28_2.v], x15.v] w5 (Ret [.at .sl, .at (.int .i64)] fun (x30_0 : Sl) (x30_1 : Int) w6 =>
  ∃ (I10 : Sl → Int → World → Prop) (m10 : Sl → Int → World → Nat), I10 (⟨none, 0, 0⟩) 0 w6 ∧ ∀ (out : Sl) (v_2 : Int) w7, I10 out v_2 w7 → ∀ _ _ _ _ _ _ _ _ _ _ _ _ _ _ _ _ _ _ _ _ _ _ _ : Value,
  cond (decide ((v_2 : Int) < x11.len)) (
  IX x30_0 v_2 1 fun (px40 : Addr) =>
  LD [.int .i64] px40 w7 fun (x41 : Int) =>
  cond (decide ((x41 : Int) ≥ 0)) (
  RUN Try.prog (.at .sl) (Instr.buildSlice T.t_sl_int 1 #[(0, .int .i64 v_2)]) w7 fun (x54 : Sl) w8 =>
  RUN Try.prog (.at .sl) (bsem .append #[T.t_sl_int, T.t_sl_int] T.t_sl_int #[out.v, x54.v]) w8 fun (x55 : Sl) w9 =>
  I10 x55 (IntKind.i64.wrap (v_2 + 1)) w9 ∧ m10 x55 (IntKind.i64.wrap (v_2 + 1)) w9 < m10 out v_2 w7) (
  IX x30_0 (IntKind.i64.wrap (v_2 + x11.len)) 1 fun (px48 : Addr) =>
  LD [.int .i64] px48 w7 fun (x49 : Int) =>
  cond (decide ((x49 : Int) ≥ 0)) (
  RUN Try.prog (.at .sl) (Instr.buildSlice T.t_sl_int 1 #[(0, .int .i64 v_2)]) w7 fun (x54_2 : Sl) w10 =>
  RUN Try.prog (.at .sl) (bsem .append #[T.t_sl_int, T.t_sl_int] T.t_sl_int #[out.v, x54_2.v]) w10 fun (x55_2 : Sl) w11 =>
  I10 x55_2 (IntKind.i64.wrap (v_2 + 1)) w11 ∧ m10 x55_2 (IntKind.i64.wrap (v_2 + 1)) w11 < m10 out v_2 w7) (
  I10 out (IntKind.i64.wrap (v_2 + 1)) w7 ∧ m10 out (IntKind.i64.wrap (v_2 + 1)) w7 < m10 out v_2 w7))) (
  Q out w7))))

theorem C_s_mtCover {Q : Sl → World → Prop} {n_0 : Sl} {n_1 : Sl} {n_2 : Sl} {w : World} (h : V_s_mtCover Q n_0 n_1 n_2 w) : Calls Try.prog F.s_mtCover #[.agg #[n_0.v, n_1.v, n_2.v]] w (Ret [.at .sl] Q) :=
  mkC (hint := hint) (ann := annOf [(4, ⟨[(5, .int .i64)], [17, 18, 19, 20, 21, 22, 23, 24, 25]⟩), (10, ⟨[(8, .sl), (9, .int .i64)], [33, 34, 35, 36, 37, 38, 39, 40, 41, 42, 43, 44, 45, 46, 47, 48, 49, 50, 51, 52, 53, 54, 55]⟩)]) (args := [.agg #[n_0.v, n_1.v, n_2.v]]) (rs := [.at .sl]) Try.func74 (by kernel_rfl) (by kernel_rfl) h

def V_i_proposalMatching_k9 (I14 : Int → World → Prop) (m14 : Int → World → Nat) (x46 : Int) (w7 : World) (w16 : World) : Prop :=
  I14 (IntKind.i64.wrap (x46 + 1)) w16 ∧ m14 (IntKind.i64.wrap (x46 + 1)) w16 < m14 x46 w7

def V_i_proposalMatching_k10 (I14 : Int → World → Prop) (m14 : Int → World → Nat) (x46 : Int) (w7 : World) (x18 : Sl) (x38 : Int) (x42 : Sl) (x50 : Sl) (w8 : World) : Prop :=
  IX x50 x38 2 fun (px71 : Addr) =>
  LD [.int .i64, .int .i64] px71 w8 fun (x72_0 : Int) (x72_1 : Int) =>
  NEW T.t_i_End #[.int .i64 0, .int .i64 0] w8 fun (px14 : Addr) w9 =>
  ST px14 0 [.int .i64 x72_0, .int .i64 x72_1] w9 fun w10 =>
  LD [.int .i64] (px14.add 0) w10 fun (x75 : Int) =>
  IX x18 x75 1 fun (px76 : Addr) =>
  LD [.int .i64] px76 w10 fun (x77 : Int) =>
  cond (decide ((x77 : Int) < 0)) (
  LD [.int .i64] (px14.add 0) w10 fun (x82 : Int) =>
  IX x42 x82 1 fun (px83 : Addr) =>
  LD [.int .i64] px83 w10 fun (x84 : Int) =>
  cond (decide ((x84 : Int) < 0)) (
  ∀ w11, Ext w10 w11 →
  LD [.int .i64] (px14.add 0) w11 fun (x99 : Int) =>
  LD [.int .i64] (px14.add 1) w11 fun (x101 : Int) =>
  IX x42 x99 1 fun (px102 : Addr) =>
  ST px102 0 [.int .i64 x101] w11 fun w14 =>
  V_i_proposalMatching_k9 I14 m14 x46 w7 w14) (
  LD [.int .i64] (px14.add 1) w10 fun (x88 : Int) =>
  LD [.int .i64] (px14.add 0) w10 fun (x91 : Int) =>
  IX x42 x91 1 fun (px92 : Addr) =>
  LD [.int .i64] px92 w10 fun (x93 : Int) =>
  ∀ w12, Ext w10 w12 →
  cond (decide ((x88 : Int) < x93)) (
  LD [.int .i64] (px14.add 0) w12 fun (x99_2 : Int) =>
  LD [.int .i64] (px14.add 1) w12 fun (x101_2 : Int) =>
  IX x42 x99_2 1 fun (px102_2 : Addr) =>
  ST px102_2 0 [.int .i64 x101_2] w12 fun w15 =>
  V_i_proposalMatching_k9 I14 m14 x46 w7 w15) (
  V_i_proposalMatching_k9 I14 m14 x46 w7 w12))) (
  ∀ w13, Ext w10 w13 →
  V_i_proposalMatching_k9 I14 m14 x46 w7 w13)

def V_i_proposalMatching (Q : Sl → Int → World → Prop) (x0_0 : Sl) (x0_1 : Sl) (x0_2 : Sl) (x1 : Sl) (w : World) : Prop :=
  NEW T.t_i_Network #[x0_0.v, x0_1.v, x0_2.v] w fun (px2 : Addr) w1 =>
  LD [.sl, .sl, .sl] px2 w1 fun (x17_0 : Sl) (x17_1 : Sl) (x17_2 : Sl) =>
  Calls Try.prog F.i_noMatching #[.agg #[x17_0.v, x17_1.v, x17_2.v]] w1 (Ret [.at .sl] fun (x18 : Sl) w2 =>
  LD [.sl] (px2.add 0) w2 fun (x20 : Sl) =>
  ∃ (I4 : Int → Int → World → Prop) (m4 : Int → Int → World → Nat), I4 0 0 w2 ∧ ∀ (x7 : Int) (x22 : Int) w3, I4 x7 x22 w3 → ∀ _ _ _ _ _ _ _ _ _ _ _ _ _ _ _ _ : Value,
  cond (decide ((x22 : Int) < x20.len)) (
  IX x20 x22 1 fun (px25 : Addr) =>
  LD [.sl] px25 w3 fun (x26 : Sl) =>
  IX x1 x22 1 fun (px29 : Addr) =>
  LD [.int .i64] px29 w3 fun (x30 : Int) =>
  cond ((x30 : Int) == 0) (
  RUN Try.prog (.at (.int .i64)) (bsem .max #[T.t_int, T.t_int] T.t_int #[.int .i64 x7, .int .i64 x26.len]) w3 fun (x35 : Int) w4 =>
  I4 x35 (IntKind.i64.wrap (x22 + 1)) w4 ∧ m4 x35 (IntKind.i64.wrap (x22 + 1)) w4 < m4 x7 x22 w3) (
  I4 x7 (IntKind.i64.wrap (x22 + 1)) w3 ∧ m4 x7 (IntKind.i64.wrap (x22 + 1)) w3 < m4 x7 x22 w3)) (
  ∃ (I10 : Int → World → Prop) (m10 : Int → World → Nat), I10 0 w3 ∧ ∀ (x38 : Int) w5, I10 x38 w5 → ∀ _ _ _ _ _ _ _ _ _ _ _ _ _ _ _ _ _ _ _ _ _ _ _ _ _ _ _ _ _ _ _ _ _ _ _ _ _ _ _ _ _ _ _ _ _ _ _ _ _ _ _ _ _ _ _ _ _ _ _ _ _ _ _ _ _ _ _ _ _ _ _ _ _ _ _ _ _ _ _ _ _ _ _ _ _ _ _ _ _ _ _ _ _ _ _ _ _ _ _ : Value,
  cond (decide ((x38 : Int) < x7)) (
  LD [.sl, .sl, .sl] px2 w5 fun (x41_0 : Sl) (x41_1 : Sl) (x41_2 : Sl) =>
  Calls Try.prog F.i_noMatching #[.agg #[x41_0.v, x41_1.v, x41_2.v]] w5 (Ret [.at .sl] fun (x42 : Sl) w6 =>
  LD [.sl] (px2.add 0) w6 fun (x44 : Sl) =>
  ∃ (I14 : Int → World → Prop) (m14 : Int → World → Nat), I14 0 w6 ∧ ∀ (x46 : Int) w7, I14 x46 w7 → ∀ _ _ _ _ _ _ _ _ _ _ _ _ _ _ _ _ _ _ _ _ _ _ _ _ _ _ _ _ _ _ _ _ _ _ _ _ _ _ _ _ _ _ _ _ _ _ _ _ _ _ _ _ _ _ _ _ _ _ _ _ : Value,
  cond (decide ((x46 : Int) < x44.len)) (
  IX x44 x46 1 fun (px49 : Addr) =>
  LD [.sl] px49 w7 fun (x50 : Sl) =>
  IX x1 x46 1 fun (px53 : Addr) =>
  LD [.int .i64] px53 w7 fun (x54 : Int) =>
  cond ((x54 : Int) != 0) (
  V_i_proposalMatching_k9 I14 m14 x46 w7 w7) (
  IX x18 x46 1 fun (px59 : Addr) =>
  LD [.int .i64] px59 w7 fun (x60 : Int) =>
  cond (decide ((x60 : Int) ≥ 0)) (
  V_i_proposalMatching_k9 I14 m14 x46 w7 w7) (
  cond (decide ((x38 : Int) ≥ x50.len)) (
  V_i_proposalMatching_k9 I14 m14 x46 w7 w7) (
  V_i_proposalMatching_k10 I14 m14 x46 w7 x18 x38 x42 x50 w7)))) (
  ∃ (I22 : Int → World → Prop) (m22 : Int → World → Nat), I22 0 w7 ∧ ∀ (x106 : Int) w17, I22 x106 w17 → ∀ _ _ _ _ _ _ _ _ _ _ _ _ _ _ _ _ _ _ _ _ _ _ _ _ _ : Value,
  cond (decide ((x106 : Int) < x42.len)) (
  IX x42 x106 1 fun (px109 : Addr) =>
  LD [.int .i64] px109 w17 fun (x110 : Int) =>
  cond (decide ((x110 : Int) ≥ 0)) (
  LD [.sl] (px2.add 0) w17 fun (x117 : Sl) =>
  IX x117 x106 1 fun (px119 : Addr) =>
  LD [.sl] px119 w17 fun (x120 : Sl) =>
  IX x120 x110 2 fun (px122 : Addr) =>
  LD [.int .i64] (px122.add 0) w17 fun (x124 : Int) =>
  IX x18 x106 1 fun (px127 : Addr) =>
  ST px127 0 [.int .i64 x110] w17 fun w18 =>
  IX x18 x124 1 fun (px128 : Addr) =>
  ST px128 0 [.int .i64 x38] w18 fun w19 =>
  I22 (IntKind.i64.wrap (x106 + 1)) w19 ∧ m22 (IntKind.i64.wrap (x106 + 1)) w19 < m22 x106 w17) (
  I22 (IntKind.i64.wrap (x106 + 1)) w17 ∧ m22 (IntKind.i64.wrap (x106 + 1)) w17 < m22 x106 w17)) (
  I10 (IntKind.i64.wrap (x38 + 1)) w17 ∧ m10 (IntKind.i64.wrap (x38 + 1)) w17 < m10 x38 w5)))) (
  Q x18 x7 w5)))

theorem C_i_proposalMatching {Q : Sl → Int → World → Prop} {x0_0 : Sl} {x0_1 : Sl} {x0_2 : Sl} {x1 : Sl} {w : World} (h : V_i_proposalMatching Q x0_0 x0_1 x0_2 x1 w) : Calls Try.prog F.i_proposalMatching #[.agg #[x0_0.v, x0_1.v, x0_2.v], x1.v] w (Ret [.at .sl, .at (.int .i64)] Q) :=
  mkC (hint := hint) (ann := annOf [(4, ⟨[(7, .int .i64), (22, .int .i64)], [8, 9, 23, 24, 25, 26, 27, 28, 29, 30, 31, 32, 33, 34, 35, 36]⟩), (10, ⟨[(38, .int .i64)], [10, 11, 12, 13, 14, 15, 16, 39, 40, 41, 42, 43, 44, 45, 46, 47, 48, 49, 50, 51, 52, 53, 54, 55, 56, 57, 58, 59, 60, 61, 62, 63, 64, 65, 66, 67, 68, 69, 70, 71, 72, 73, 74, 75, 76, 77, 78, 79, 80, 81, 82, 83, 84, 85, 86, 87, 88, 89, 90, 91, 92, 93, 94, 95, 96, 97, 98, 99, 100, 101, 102, 103, 104, 105, 106, 107, 108, 109, 110, 111, 112, 113, 114, 115, 116, 117, 118, 119, 120, 121, 122, 123, 124, 125, 126, 127, 128, 129, 130]⟩), (14, ⟨[(46, .int .i64)], [12, 13, 14, 47, 48, 49, 50, 51, 52, 53, 54, 55, 56, 57, 58, 59, 60, 61, 62, 63, 64, 65, 66, 67, 68, 69, 70, 71, 72, 73, 74, 75, 76, 77, 78, 79, 80, 81, 82, 83, 84, 85, 86, 87, 88, 89, 90, 91, 92, 93, 94, 95, 96, 97, 98, 99, 100, 101, 102, 103]⟩), (22, ⟨[(106, .int .i64)], [15, 16, 107, 108, 109, 110, 111, 112, 113, 114, 115, 116, 117, 118, 119, 120, 121, 122, 123, 124, 125, 126, 127, 128, 129]⟩)]) (args := [.agg #[x0_0.v, x0_1.v, x0_2.v], x1.v]) (rs := [.at .sl, .at (.int .i64)]) Try.func76 (by kernel_rfl) (by kernel_rfl) h

def V_slices_Repeat_sl_int_int_k2 (x : Sl) (Q : Sl → World → Prop) (x18_1 : Int) (w2 : World) : Prop :=
  RUN Try.prog (.at .sl) (Instr.makeSlice T.t_sl_int (.int .i64 (IntKind.i64.wrap x18_1)) (.int .i64 (IntKind.i64.wrap x18_1))) w2 fun (x30 : Sl) w3 =>
  RUN Try.prog (.at (.int .i64)) (bsem .copy #[T.t_sl_int, T.t_sl_int] T.t_int #[x30.v, x.v]) w3 fun (x33 : Int) w4 =>
  ∃ (I8 : Int → World → Prop) (m8 : Int → World → Nat), I8 x33 w4 ∧ ∀ (n : Int) w5, I8 n w5 → ∀ _ _ _ _ _ _ _ _ _ _ _ _ _ : Value,
  cond (decide ((n : Int) < x30.len)) (
  ∀ w6, Ext w5 w6 → w6.heap = w5.heap → ∃ (D6 : Nat → Prop),
  SLC x30 (some n) none 1 fun (x41 : Sl) =>
  Chg w6 w6 D6 ∧ (
  SLC x30 none (some n) 1 fun (x44 : Sl) =>
  Chg w6 w6 D6 ∧ (
  RUN Try.prog (.at (.int .i64)) (bsem .copy #[T.t_sl_int, T.t_sl_int] T.t_int #[x41.v, x44.v]) w6 fun (x45 : Int) w7 =>
  Chg w6 w7 D6 ∧ (
  Chg w6 w7 D6 ∧ (
  I8 (IntKind.i64.wrap (n + x45)) w7 ∧ m8 (IntKind.i64.wrap (n + x45)) w7 < m8 n w5))))) (
  Q x30 w5)

def V_slices_Repeat_sl_int_int (Q : Sl → World → Prop) (x : Sl) (count : Int) (w : World) : Prop :=
  cond (decide ((count : Int) < 0)) (
  False) (
  Calls Try.prog F.math_bits_Mul #[.int .u64 (IntKind.u64.wrap x.len), .int .u64 (IntKind.u64.wrap count)] w (Ret [.at (.int .u64), .at (.int .u64)] fun (x18_0 : Int) (x18_1 : Int) w1 =>
  cond (decide ((x18_0 : Int) > 0)) (
  False) (
  cond (decide ((x18_1 : Int) > 9223372036854775807)) (
  False) (
  V_slices_Repeat_sl_int_int_k2 x Q x18_1 w1))))

theorem C_slices_Repeat_sl_int_int {Q : Sl → World → Prop} {x : Sl} {count : Int} {w : World} (h : V_slices_Repeat_sl_int_int Q x count w) : Calls Try.prog F.slices_Repeat_sl_int_int #[x.v, .int .i64 count] w (Ret [.at .sl] Q) :=
  mkC (hint := hint) (ann := annOf [(8, ⟨[(8, .int .i64)], [34, 35, 36, 37, 38, 39, 40, 41, 42, 43, 44, 45, 46]⟩)]) (args := [x.v, .int .i64 count]) (rs := [.at .sl]) Try.func77 (by kernel_rfl) (by kernel_rfl) h

def V_s_clParameters (Q : Int → Int → World → Prop) (k : Int) (a : Int) (w : World) : Prop :=
  ∃ (I3 : Int → World → Prop) (m3 : Int → World → Nat), I3 2 w ∧ ∀ (q : Int) w1, I3 q w1 → ∀ _ _ _ _ _ _ _ _ _ _ _ _ _ _ _ _ _ _ _ _ _ _ _ : Value,
  ∃ (I4 : Int → World → Prop) (m4 : Int → World → Nat), I4 1 w1 ∧ ∀ (d : Int) w2, I4 d w2 → ∀ _ _ _ _ _ _ _ _ _ _ _ _ _ _ _ _ _ _ _ : Value,
  cond (decide (((IntKind.i64.wrap (a * d)) : Int) < q)) (
  cond (decide ((d : Int) ≤ 60)) (
  Calls Try.prog F.s_clPower #[.int .i64 q, .int .i64 d, .int .i64 k] w2 (Ret [.at .bool] fun (x25_2 : Bool) w4 =>
  cond x25_2 (
  Q q d w4) (
  I4 (IntKind.i64.wrap (d + 1)) w4 ∧ m4 (IntKind.i64.wrap (d + 1)) w4 < m4 d w2))) (
  Calls Try.prog F.s_nuNext #[.int .i64 (IntKind.i64.wrap (q + 1))] w2 (Ret [.at (.int .i64)] fun (x10_3 : Int) w7 =>
  I3 x10_3 w7 ∧ m3 x10_3 w7 < m3 q w1))) (
  Calls Try.prog F.s_nuNext #[.int .i64 (IntKind.i64.wrap (q + 1))] w2 (Ret [.at (.int .i64)] fun (x10_4 : Int) w8 =>
  I3 x10_4 w8 ∧ m3 x10_4 w8 < m3 q w1))

theorem C_s_clParameters {Q : Int → Int → World → Prop} {k : Int} {a : Int} {w : World} (h : V_s_clParameters Q k a w) : Calls Try.prog F.s_clParameters #[.int .i64 k, .int .i64 a] w (Ret [.at (.int .i64), .at (.int .i64)] Q) :=
  mkC (hint := hint) (ann := annOf [(3, ⟨[(6, .int .i64)], [4, 5, 7, 8, 9, 10, 11, 12, 13, 14, 15, 16, 17, 18, 19, 20, 21, 22, 23, 24, 25, 26, 27]⟩), (4, ⟨[(7, .int .i64)], [4, 5, 11, 12, 13, 14, 15, 16, 17, 18, 19, 20, 21, 22, 23, 24, 25, 26, 27]⟩)]) (args := [.int .i64 k, .int .i64 a]) (rs := [.at (.int .i64), .at (.int .i64)]) Try.func78 (by kernel_rfl) (by kernel_rfl) h

def V_s_clStep (Q : Sl → World → Prop) (n_0 : Sl) (n_1 : Sl) (n_2 : Sl) (l : Sl) (q : Int) (d : Int) (w : World) : Prop :=
  NEW T.t_i_Network #[n_0.v, n_1.v, n_2.v] w fun (p_n : Addr) w1 =>
  LD [.sl] (p_n.add 0) w1 fun (x12 : Sl) =>
  ∃ (I3 : Sl → Int → World → Prop) (m3 : Sl → Int → World → Nat), I3 (⟨none, 0, 0⟩) 0 w1 ∧ ∀ (out : Sl) (x14 : Int) w2, I3 out x14 w2 → ∀ _ _ _ _ _ _ _ _ _ _ _ _ _ _ _ _ _ _ _ : Value,
  cond (decide ((x14 : Int) < x12.len)) (
  ∀ w3, Ext w2 w3 → w3.heap = w2.heap → ∃ (D3 : Nat → Prop),
  IX l x14 1 fun (px22 : Addr) =>
  ¬ D3 px22.block ∧ (
  LD [.int .i64] px22 w3 fun (x23 : Int) =>
  ¬ D3 p_n.block ∧ (
  LD [.sl, .sl, .sl] p_n w3 fun (x25_0 : Sl) (x25_1 : Sl) (x25_2 : Sl) =>
  Chg w3 w3 D3 ∧ (
  Calls Try.prog F.s_neNear #[.agg #[x25_0.v, x25_1.v, x25_2.v], .int .i64 x14] w3 (Ret [.at .sl] fun (x27 : Sl) w4 =>
  Chg w3 w4 D3 ∧ (
  Calls Try.prog F.s_coThrough #[l.v, x27.v] w4 (Ret [.at .sl] fun (x28 : Sl) w5 =>
  Chg w3 w5 D3 ∧ (
  Calls Try.prog F.s_clTake #[.int .i64 q, .int .i64 d, .int .i64 x23, x28.v] w5 (Ret [.at (.int .i64)] fun (x29 : Int) w6 =>
  Chg w3 w6 D3 ∧ (
  RUN Try.prog (.at .sl) (Instr.buildSlice T.t_sl_int 1 #[(0, .int .i64 x29)]) w6 fun (x30 : Sl) w7 =>
  Chg w3 w7 D3 ∧ (
  RUN Try.prog (.at .sl) (bsem .append #[T.t_sl_int, T.t_sl_int] T.t_sl_int #[out.v, x30.v]) w7 fun (x31 : Sl) w8 =>
  Chg w3 w8 D3 ∧ (
  I3 x31 (IntKind.i64.wrap (x14 + 1)) w8 ∧ m3 x31 (IntKind.i64.wrap (x14 + 1)) w8 < m3 out x14 w2)))))))))))) (
  Q out w2)

theorem C_s_clStep {Q : Sl → World → Prop} {n_0 : Sl} {n_1 : Sl} {n_2 : Sl} {l : Sl} {q : Int} {d : Int} {w : World} (h : V_s_clStep Q n_0 n_1 n_2 l q d w) : Calls Try.prog F.s_clStep #[.agg #[n_0.v, n_1.v, n_2.v], l.v, .int .i64 q, .int .i64 d] w (Ret [.at .sl] Q) :=
  mkC (hint := hint) (ann := annOf [(3, ⟨[(9, .sl), (14, .int .i64)], [10, 15, 16, 17, 18, 19, 20, 21, 22, 23, 24, 25, 26, 27, 28, 29, 30, 31, 32]⟩)]) (args := [.agg #[n_0.v, n_1.v, n_2.v], l.v, .int .i64 q, .int .i64 d]) (rs := [.at .sl]) Try.func79 (by kernel_rfl) (by kernel_rfl) h

def V_i_polynomialStep (Q : Sl → Int → World → Prop) (x0_0 : Sl) (x0_1 : Sl) (x0_2 : Sl) (x1 : Sl) (x2 : Int) (x3 : Int) (w : World) : Prop :=
  NEW T.t_i_Network #[x0_0.v, x0_1.v, x0_2.v] w fun (px4 : Addr) w1 =>
  Calls Try.prog F.i_polynomialParameters #[.int .i64 x2, .int .i64 x3] w1 (Ret [.at (.int .i64), .at (.int .i64)] fun (x27_0 : Int) (x27_1 : Int) w2 =>
  RUN Try.prog (.at .sl) (Instr.makeSlice T.t_sl_sl_int (.int .i64 x1.len) (.int .i64 x1.len)) w2 fun (x32 : Sl) w3 =>
  NEW T.t_sl_sl_int #[.slice none 0 0] w3 fun (px12 : Addr) w4 =>
  ST px12 0 [x32.v] w4 fun w5 =>
  ∃ (I4 : Int → World → Prop) (m4 : Int → World → Nat), I4 0 w5 ∧ ∀ (x35 : Int) w6, I4 x35 w6 → ∀ _ _ _ _ _ _ _ _ _ _ _ _ _ _ _ _ _ _ _ _ _ _ _ _ _ _ _ _ _ _ _ _ _ _ _ _ _ _ _ _ _ _ : Value,
  cond (decide ((x35 : Int) < x1.len)) (
  IX x1 x35 1 fun (px38 : Addr) =>
  LD [.int .i64] px38 w6 fun (x39 : Int) =>
  Calls Try.prog F.i_DigitsOf #[.int .i64 x39, .int .i64 x27_0, .int .i64 (IntKind.i64.wrap (x27_1 + 1))] w6 (Ret [.at .sl, .at .bool] fun (x45_0 : Sl) (x45_1 : Bool) w7 =>
  ∃ (I8 : Int → World → Prop) (m8 : Int → World → Nat), I8 0 w7 ∧ ∀ (x49 : Int) w8, I8 x49 w8 → ∀ _ _ _ _ _ _ _ _ _ _ _ _ _ _ _ _ _ _ _ _ _ _ _ : Value,
  cond (decide ((x49 : Int) < x27_0)) (
  Calls Try.prog F.i_PolynomialAt #[.int .i64 x27_0, x45_0.v, .int .i64 x49] w8 (Ret [.at (.int .i64), .at .bool] fun (x56_0 : Int) (x56_1 : Bool) w9 =>
  ∀ w10, Ext w9 w10 → w10.heap = w9.heap → ∃ (D10 : Nat → Prop),
  ¬ D10 px12.block ∧ (
  LD [.sl] px12 w10 fun (x59 : Sl) =>
  ¬ D10 px12.block ∧ (
  LD [.sl] px12 w10 fun (x61 : Sl) =>
  IX x61 x35 1 fun (px63 : Addr) =>
  ¬ D10 px63.block ∧ (
  LD [.sl] px63 w10 fun (x64 : Sl) =>
  Chg w10 w10 D10 ∧ (
  RUN Try.prog (.at .sl) (Instr.buildSlice T.t_sl_int 1 #[(0, .int .i64 x56_0)]) w10 fun (x66 : Sl) w11 =>
  Chg w10 w11 D10 ∧ (
  RUN Try.prog (.at .sl) (bsem .append #[T.t_sl_int, T.t_sl_int] T.t_sl_int #[x64.v, x66.v]) w11 fun (x67 : Sl) w12 =>
  Chg w10 w12 D10 ∧ (
  IX x59 x35 1 fun (px68 : Addr) =>
  ST px68 0 [x67.v] w12 fun w13 =>
  I8 (IntKind.i64.wrap (x49 + 1)) w13 ∧ m8 (IntKind.i64.wrap (x49 + 1)) w13 < m8 x49 w8)))))))) (
  I4 (IntKind.i64.wrap (x35 + 1)) w8 ∧ m4 (IntKind.i64.wrap (x35 + 1)) w8 < m4 x35 w6))) (
  LD [.sl] (px4.add 0) w6 fun (x72 : Sl) =>
  ∃ (I16 : Sl → Int → World → Prop) (m16 : Sl → Int → World → Nat), I16 (⟨none, 0, 0⟩) 0 w6 ∧ ∀ (x20 : Sl) (x74 : Int) w14, I16 x20 x74 w14 → ∀ _ _ _ _ _ _ _ _ _ _ _ _ _ _ _ _ _ _ _ _ _ _ _ _ _ _ _ : Value,
  cond (decide ((x74 : Int) < x72.len)) (
  IX x72 x74 1 fun (px77 : Addr) =>
  LD [.sl] px77 w14 fun (x78 : Sl) =>
  NEW T.t_int #[.int .i64 0] w14 fun (px21 : Addr) w15 =>
  ST px21 0 [.int .i64 x74] w15 fun w16 =>
  NEW T.t_int #[.int .i64 0] w16 fun (px23 : Addr) w17 =>
  ST px23 0 [.int .i64 0] w17 fun w18 =>
  ∃ (I19 : World → Prop) (m19 : World → Nat), I19 w18 ∧ ∀  w19, I19 w19 → ∀ _ _ _ _ _ : Value,
  Calls Try.prog F.slices_ContainsFunc_sl_i_End_i_End #[x78.v, .func (.func F.i_polynomialStep_1) #[] #[.pointer (some px12), .pointer (some px23), .pointer (some px21)]] w19 (Ret [.at .bool] fun (x81 : Bool) w20 =>
  cond x81 (
  LD [.int .i64] px23 w20 fun (x82 : Int) =>
  ST px23 0 [.int .i64 (IntKind.i64.wrap (x82 + 1))] w20 fun w21 =>
  I19 w21 ∧ m19 w21 < m19 w19) (
  ∀ w22, Ext w20 w22 → w22.heap = w20.heap → ∃ (D22 : Nat → Prop),
  ¬ D22 px23.block ∧ (
  LD [.int .i64] px23 w22 fun (x85 : Int) =>
  ¬ D22 px12.block ∧ (
  LD [.sl] px12 w22 fun (x88 : Sl) =>
  ¬ D22 px21.block ∧ (
  LD [.int .i64] px21 w22 fun (x89 : Int) =>
  IX x88 x89 1 fun (px90 : Addr) =>
  ¬ D22 px90.block ∧ (
  LD [.sl] px90 w22 fun (x91 : Sl) =>
  LD [.int .i64] px23 w22 fun (x92 : Int) =>
  Chg w22 w22 D22 ∧ (
  IX x91 x92 1 fun (px93 : Addr) =>
  Chg w22 w22 D22 ∧ (
  LD [.int .i64] px93 w22 fun (x94 : Int) =>
  Chg w22 w22 D22 ∧ (
  Chg w22 w22 D22 ∧ (
  RUN Try.prog (.at .sl) (Instr.buildSlice T.t_sl_int 1 #[(0, .int .i64 (IntKind.i64.wrap ((IntKind.i64.wrap (x85 * x27_0)) + x94)))]) w22 fun (x96 : Sl) w23 =>
  Chg w22 w23 D22 ∧ (
  RUN Try.prog (.at .sl) (bsem .append #[T.t_sl_int, T.t_sl_int] T.t_sl_int #[x20.v, x96.v]) w23 fun (x97 : Sl) w24 =>
  Chg w22 w24 D22 ∧ (
  I16 x97 (IntKind.i64.wrap (x74 + 1)) w24 ∧ m16 x97 (IntKind.i64.wrap (x74 + 1)) w24 < m16 x20 x74 w14))))))))))))) (
  Q x20 (IntKind.i64.wrap (x27_0 * x27_0)) w14)))

theorem C_i_polynomialStep {Q : Sl → Int → World → Prop} {x0_0 : Sl} {x0_1 : Sl} {x0_2 : Sl} {x1 : Sl} {x2 : Int} {x3 : Int} {w : World} (h : V_i_polynomialStep Q x0_0 x0_1 x0_2 x1 x2 x3 w) : Calls Try.prog F.i_polynomialStep #[.agg #[x0_0.v, x0_1.v, x0_2.v], x1.v, .int .i64 x2, .int .i64 x3] w (Ret [.at .sl, .at (.int .i64)] Q) :=
  mkC (hint := hint) (ann := annOf [(4, ⟨[(35, .int .i64)], [13, 14, 15, 16, 17, 18, 19, 36, 37, 38, 39, 40, 41, 42, 43, 44, 45, 46, 47, 48, 49, 50, 51, 52, 53, 54, 55, 56, 57, 58, 59, 60, 61, 62, 63, 64, 65, 66, 67, 68, 69, 70]⟩), (8, ⟨[(49, .int .i64)], [17, 18, 19, 50, 51, 52, 53, 54, 55, 56, 57, 58, 59, 60, 61, 62, 63, 64, 65, 66, 67, 68, 69]⟩), (16, ⟨[(20, .sl), (74, .int .i64)], [21, 22, 23, 75, 76, 77, 78, 79, 80, 81, 82, 83, 84, 85, 86, 87, 88, 89, 90, 91, 92, 93, 94, 95, 96, 97, 98]⟩), (19, ⟨[], [79, 80, 81, 82, 83]⟩)]) (args := [.agg #[x0_0.v, x0_1.v, x0_2.v], x1.v, .int .i64 x2, .int .i64 x3]) (rs := [.at .sl, .at (.int .i64)]) Try.func80 (by kernel_rfl) (by kernel_rfl) h

end Go.Proofs.Ytncnlckblciegaa
