/- What the code of the stable sort computes to. Printed by a program. -/
import Derived.Test.YtoeaoinedidbiaaNames
namespace Go.Proofs.Ytoeaoinedidbiaa
open Go.GX Go.RowKit
set_option linter.unusedVariables false
set_option maxRecDepth 100000

def V_slices_stableCmpFunc_int (Q : World → Prop) (data : Sl) (n : Int) (cmp : Value) (w : World) : Prop :=
  ∃ (I2 : Int → Int → World → Prop) (m2 : Int → Int → World → Nat), I2 0 20 w ∧ ∀ (a : Int) (b : Int) w1, I2 a b w1 → ∀ _ _ _ _ _ _ _ _ _ _ _ _ : Value,
  cond (decide ((b : Int) ≤ n)) (
  Calls Try.prog F.slices_insertionSortCmpFunc_int #[data.v, .int .i64 a, .int .i64 b, cmp] w1 (Ret [] fun w2 =>
  I2 b (IntKind.i64.wrap (b + 20)) w2 ∧ m2 b (IntKind.i64.wrap (b + 20)) w2 < m2 a b w1)) (
  Calls Try.prog F.slices_insertionSortCmpFunc_int #[data.v, .int .i64 a, .int .i64 n, cmp] w1 (Ret [] fun w3 =>
  ∃ (I7 : Int → World → Prop) (m7 : Int → World → Nat), I7 20 w3 ∧ ∀ (blockSize : Int) w4, I7 blockSize w4 → ∀ _ _ _ _ _ _ _ _ _ _ _ _ _ _ _ _ _ _ _ _ _ _ _ _ _ _ _ _ _ _ _ _ _ _ _ _ _ _ : Value,
  cond (decide ((blockSize : Int) < n)) (
  ∃ (I9 : Int → Int → World → Prop) (m9 : Int → Int → World → Nat), I9 0 (IntKind.i64.wrap (2 * blockSize)) w4 ∧ ∀ (a_2 : Int) (b_2 : Int) w5, I9 a_2 b_2 w5 → ∀ _ _ _ _ _ _ _ _ _ _ _ _ _ _ _ _ : Value,
  cond (decide ((b_2 : Int) ≤ n)) (
  Calls Try.prog F.slices_symMergeCmpFunc_int #[data.v, .int .i64 a_2, .int .i64 (IntKind.i64.wrap (a_2 + blockSize)), .int .i64 b_2, cmp] w5 (Ret [] fun w6 =>
  I9 b_2 (IntKind.i64.wrap (b_2 + (IntKind.i64.wrap (2 * blockSize)))) w6 ∧ m9 b_2 (IntKind.i64.wrap (b_2 + (IntKind.i64.wrap (2 * blockSize)))) w6 < m9 a_2 b_2 w5)) (
  cond (decide (((IntKind.i64.wrap (a_2 + blockSize)) : Int) < n)) (
  Calls Try.prog F.slices_symMergeCmpFunc_int #[data.v, .int .i64 a_2, .int .i64 (IntKind.i64.wrap (a_2 + blockSize)), .int .i64 n, cmp] w5 (Ret [] fun w7 =>
  I7 (IntKind.i64.wrap (blockSize * 2)) w7 ∧ m7 (IntKind.i64.wrap (blockSize * 2)) w7 < m7 blockSize w4)) (
  I7 (IntKind.i64.wrap (blockSize * 2)) w5 ∧ m7 (IntKind.i64.wrap (blockSize * 2)) w5 < m7 blockSize w4))) (
  Q w4)))

theorem C_slices_stableCmpFunc_int {Q : World → Prop} {data : Sl} {n : Int} {cmp : Value} {w : World} (h : V_slices_stableCmpFunc_int Q data n cmp w) : Calls Try.prog F.slices_stableCmpFunc_int #[data.v, .int .i64 n, cmp] w (Ret [] Q) :=
  mkC (hint := hint) (ann := annOf [(2, ⟨[(7, .int .i64), (8, .int .i64)], [11, 12, 13, 14, 15, 16, 17, 18, 19, 20, 21, 22]⟩), (7, ⟨[(6, .int .i64)], [7, 8, 9, 28, 29, 30, 31, 32, 33, 34, 35, 36, 37, 38, 39, 40, 41, 42, 43, 44, 45, 46, 47, 48, 49, 50, 51, 52, 53, 54, 55, 56, 57, 58, 59, 60, 61, 62]⟩), (9, ⟨[(7, .int .i64), (8, .int .i64)], [33, 34, 35, 36, 37, 38, 39, 40, 41, 42, 43, 44, 45, 46, 47, 48]⟩)]) (args := [data.v, .int .i64 n, cmp]) (rs := []) Try.func180 (by kernel_rfl) (by kernel_rfl) h

def V_slices_insertionSortCmpFunc_int (Q : World → Prop) (data : Sl) (a : Int) (b : Int) (cmp : Value) (w : World) : Prop :=
  ∃ (I1 : Int → World → Prop) (m1 : Int → World → Nat), I1 (IntKind.i64.wrap (a + 1)) w ∧ ∀ (i : Int) w1, I1 i w1 → ∀ _ _ _ _ _ _ _ _ _ _ _ _ _ _ _ _ _ _ _ _ _ _ _ _ _ _ _ _ _ _ _ _ _ _ _ _ _ _ _ _ _ _ : Value,
  cond (decide ((i : Int) < b)) (
  ∃ (I4 : Int → World → Prop) (m4 : Int → World → Nat), I4 i w1 ∧ ∀ (j : Int) w2, I4 j w2 → ∀ _ _ _ _ _ _ _ _ _ _ _ _ _ _ _ _ _ _ _ _ _ _ _ _ _ _ _ _ _ _ _ _ _ _ _ : Value,
  ∀ w3, Ext w2 w3 → w3.heap = w2.heap →
  Ext w3 w3 ∧ (
  Ext w3 w3 ∧ (
  Ext w3 w3 ∧ (
  cond (decide ((j : Int) > a)) (
  IX data j 1 fun (px25 : Addr) =>
  LD [.int .i64] px25 w3 fun (x26 : Int) =>
  Ext w3 w3 ∧ (
  Ext w3 w3 ∧ (
  IX data (IntKind.i64.wrap (j - 1)) 1 fun (px30 : Addr) =>
  Ext w3 w3 ∧ (
  LD [.int .i64] px30 w3 fun (x31 : Int) =>
  Ext w3 w3 ∧ (
  CALLV Try.prog cmp #[.int .i64 x26, .int .i64 x31] w3 (Ret [.at (.int .i64)] fun (x32 : Int) w4 =>
  Ext w3 w4 ∧ (
  Ext w4 w4 ∧ (
  Ext w4 w4 ∧ (
  cond (decide ((x32 : Int) < 0)) (
  ∀ w8, Ext w4 w8 → w8.heap = w4.heap → ∃ (D8 : Nat → Prop),
  IX data (IntKind.i64.wrap (j - 1)) 1 fun (px45_2 : Addr) =>
  IX data j 1 fun (px49_2 : Addr) =>
  ¬ D8 px45_2.block ∧ (
  LD [.int .i64] px45_2 w8 fun (x46_2 : Int) =>
  LD [.int .i64] px49_2 w8 fun (x50_2 : Int) =>
  Chg w8 w8 D8 ∧ (
  IX data j 1 fun (px51_2 : Addr) =>
  ST px51_2 0 [.int .i64 x46_2] w8 fun w9 =>
  IX data (IntKind.i64.wrap (j - 1)) 1 fun (px52_2 : Addr) =>
  ST px52_2 0 [.int .i64 x50_2] w9 fun w10 =>
  I4 (IntKind.i64.wrap (j - 1)) w10 ∧ m4 (IntKind.i64.wrap (j - 1)) w10 < m4 j w2))) (
  I1 (IntKind.i64.wrap (i + 1)) w4 ∧ m1 (IntKind.i64.wrap (i + 1)) w4 < m1 i w1)))))))))) (
  Ext w3 w3 ∧ (
  I1 (IntKind.i64.wrap (i + 1)) w3 ∧ m1 (IntKind.i64.wrap (i + 1)) w3 < m1 i w1)))))) (
  Q w1)

theorem C_slices_insertionSortCmpFunc_int {Q : World → Prop} {data : Sl} {a : Int} {b : Int} {cmp : Value} {w : World} (h : V_slices_insertionSortCmpFunc_int Q data a b cmp w) : Calls Try.prog F.slices_insertionSortCmpFunc_int #[data.v, .int .i64 a, .int .i64 b, cmp] w (Ret [] Q) :=
  mkC (hint := hint) (ann := annOf [(1, ⟨[(8, .int .i64)], [9, 12, 13, 14, 15, 16, 17, 18, 19, 20, 21, 22, 23, 24, 25, 26, 27, 28, 29, 30, 31, 32, 33, 34, 35, 36, 37, 38, 39, 40, 41, 42, 43, 44, 45, 46, 47, 48, 49, 50, 51, 52]⟩), (4, ⟨[(9, .int .i64)], [18, 19, 20, 21, 22, 23, 24, 25, 26, 27, 28, 29, 30, 31, 32, 33, 34, 35, 36, 37, 38, 39, 40, 41, 42, 43, 44, 45, 46, 47, 48, 49, 50, 51, 52]⟩), (500006, ⟨[], [1]⟩)]) (args := [data.v, .int .i64 a, .int .i64 b, cmp]) (rs := []) Try.func223 (by kernel_rfl) (by kernel_rfl) h

def V_slices_symMergeCmpFunc_int_k18 (x0 : Sl) (x1 : Int) (x2 : Int) (x3 : Int) (x4 : Value) (Q : World → Prop) (x20_2 : Int) (w22 : World) : Prop :=
  cond (decide (((IntKind.i64.wrap (shrI .u64 (IntKind.u64.wrap (IntKind.i64.wrap (x1 + x3))) 1)) : Int) < (IntKind.i64.wrap ((IntKind.i64.wrap ((IntKind.i64.wrap (shrI .u64 (IntKind.u64.wrap (IntKind.i64.wrap (x1 + x3))) 1)) + x2)) - x20_2)))) (
  cond (decide (((IntKind.i64.wrap ((IntKind.i64.wrap ((IntKind.i64.wrap (shrI .u64 (IntKind.u64.wrap (IntKind.i64.wrap (x1 + x3))) 1)) + x2)) - x20_2)) : Int) < x3)) (
  Calls Try.prog F.slices_symMergeCmpFunc_int #[x0.v, .int .i64 (IntKind.i64.wrap (shrI .u64 (IntKind.u64.wrap (IntKind.i64.wrap (x1 + x3))) 1)), .int .i64 (IntKind.i64.wrap ((IntKind.i64.wrap ((IntKind.i64.wrap (shrI .u64 (IntKind.u64.wrap (IntKind.i64.wrap (x1 + x3))) 1)) + x2)) - x20_2)), .int .i64 x3, x4] w22 (Ret [] fun w23 =>
  Q w23)) (
  Q w22)) (
  Q w22)

def V_slices_symMergeCmpFunc_int_k16 (x0 : Sl) (x1 : Int) (x2 : Int) (x3 : Int) (x4 : Value) (Q : World → Prop) (x20_2 : Int) (w20 : World) : Prop :=
  cond (decide ((x1 : Int) < x20_2)) (
  cond (decide ((x20_2 : Int) < (IntKind.i64.wrap (shrI .u64 (IntKind.u64.wrap (IntKind.i64.wrap (x1 + x3))) 1)))) (
  Calls Try.prog F.slices_symMergeCmpFunc_int #[x0.v, .int .i64 x1, .int .i64 x20_2, .int .i64 (IntKind.i64.wrap (shrI .u64 (IntKind.u64.wrap (IntKind.i64.wrap (x1 + x3))) 1)), x4] w20 (Ret [] fun w21 =>
  V_slices_symMergeCmpFunc_int_k18 x0 x1 x2 x3 x4 Q x20_2 w21)) (
  V_slices_symMergeCmpFunc_int_k18 x0 x1 x2 x3 x4 Q x20_2 w20)) (
  V_slices_symMergeCmpFunc_int_k18 x0 x1 x2 x3 x4 Q x20_2 w20)

def V_slices_symMergeCmpFunc_int_k13 (x0 : Sl) (x1 : Int) (x2 : Int) (x3 : Int) (x4 : Value) (Q : World → Prop) (x20 : Int) (x21 : Int) (w15 : World) : Prop :=
  ∃ (I33 : Int → Int → World → Prop) (m33 : Int → Int → World → Nat), I33 x20 x21 w15 ∧ ∀ (x20_2 : Int) (x21_2 : Int) w16, I33 x20_2 x21_2 w16 → ∀ _ _ _ _ _ _ _ _ _ _ _ _ _ _ _ _ _ _ _ _ _ _ _ _ _ _ _ : Value,
  cond (decide ((x20_2 : Int) < x21_2)) (
  (0 : Int) ≤ 1 ∧ (
  ∀ w17, Ext w16 w17 → w17.heap = w16.heap →
  IX x0 (IntKind.i64.wrap ((IntKind.i64.wrap ((IntKind.i64.wrap ((IntKind.i64.wrap (shrI .u64 (IntKind.u64.wrap (IntKind.i64.wrap (x1 + x3))) 1)) + x2)) - 1)) - (IntKind.i64.wrap (shrI .u64 (IntKind.u64.wrap (IntKind.i64.wrap (x20_2 + x21_2))) 1)))) 1 fun (px163 : Addr) =>
  LD [.int .i64] px163 w17 fun (x164 : Int) =>
  Ext w17 w17 ∧ (
  IX x0 (IntKind.i64.wrap (shrI .u64 (IntKind.u64.wrap (IntKind.i64.wrap (x20_2 + x21_2))) 1)) 1 fun (px167 : Addr) =>
  Ext w17 w17 ∧ (
  LD [.int .i64] px167 w17 fun (x168 : Int) =>
  Ext w17 w17 ∧ (
  CALLV Try.prog x4 #[.int .i64 x164, .int .i64 x168] w17 (Ret [.at (.int .i64)] fun (x169 : Int) w18 =>
  Ext w17 w18 ∧ (
  Ext w17 w18 ∧ (
  Ext w17 w18 ∧ (
  cond (!(decide ((x169 : Int) < 0))) (
  I33 (IntKind.i64.wrap ((IntKind.i64.wrap (shrI .u64 (IntKind.u64.wrap (IntKind.i64.wrap (x20_2 + x21_2))) 1)) + 1)) x21_2 w18 ∧ m33 (IntKind.i64.wrap ((IntKind.i64.wrap (shrI .u64 (IntKind.u64.wrap (IntKind.i64.wrap (x20_2 + x21_2))) 1)) + 1)) x21_2 w18 < m33 x20_2 x21_2 w16) (
  I33 x20_2 (IntKind.i64.wrap (shrI .u64 (IntKind.u64.wrap (IntKind.i64.wrap (x20_2 + x21_2))) 1)) w18 ∧ m33 x20_2 (IntKind.i64.wrap (shrI .u64 (IntKind.u64.wrap (IntKind.i64.wrap (x20_2 + x21_2))) 1)) w18 < m33 x20_2 x21_2 w16)))))))))) (
  cond (decide ((x20_2 : Int) < x2)) (
  cond (decide ((x2 : Int) < (IntKind.i64.wrap ((IntKind.i64.wrap ((IntKind.i64.wrap (shrI .u64 (IntKind.u64.wrap (IntKind.i64.wrap (x1 + x3))) 1)) + x2)) - x20_2)))) (
  Calls Try.prog F.slices_rotateCmpFunc_int #[x0.v, .int .i64 x20_2, .int .i64 x2, .int .i64 (IntKind.i64.wrap ((IntKind.i64.wrap ((IntKind.i64.wrap (shrI .u64 (IntKind.u64.wrap (IntKind.i64.wrap (x1 + x3))) 1)) + x2)) - x20_2)), x4] w16 (Ret [] fun w19 =>
  V_slices_symMergeCmpFunc_int_k16 x0 x1 x2 x3 x4 Q x20_2 w19)) (
  V_slices_symMergeCmpFunc_int_k16 x0 x1 x2 x3 x4 Q x20_2 w16)) (
  V_slices_symMergeCmpFunc_int_k16 x0 x1 x2 x3 x4 Q x20_2 w16))

def V_slices_symMergeCmpFunc_int (Q : World → Prop) (x0 : Sl) (x1 : Int) (x2 : Int) (x3 : Int) (x4 : Value) (w : World) : Prop :=
  cond (((IntKind.i64.wrap (x2 - x1)) : Int) == 1) (
  ∃ (I3 : Int → Int → World → Prop) (m3 : Int → Int → World → Nat), I3 x2 x3 w ∧ ∀ (x10 : Int) (x11 : Int) w1, I3 x10 x11 w1 → ∀ _ _ _ _ _ _ _ _ _ _ _ _ _ _ _ _ _ _ _ _ _ _ _ _ : Value,
  cond (decide ((x10 : Int) < x11)) (
  (0 : Int) ≤ 1 ∧ (
  ∀ w2, Ext w1 w2 → w2.heap = w1.heap →
  IX x0 (IntKind.i64.wrap (shrI .u64 (IntKind.u64.wrap (IntKind.i64.wrap (x10 + x11))) 1)) 1 fun (px43 : Addr) =>
  LD [.int .i64] px43 w2 fun (x44 : Int) =>
  Ext w2 w2 ∧ (
  IX x0 x1 1 fun (px47 : Addr) =>
  Ext w2 w2 ∧ (
  LD [.int .i64] px47 w2 fun (x48 : Int) =>
  Ext w2 w2 ∧ (
  CALLV Try.prog x4 #[.int .i64 x44, .int .i64 x48] w2 (Ret [.at (.int .i64)] fun (x49 : Int) w3 =>
  Ext w2 w3 ∧ (
  Ext w2 w3 ∧ (
  cond (decide ((x49 : Int) < 0)) (
  I3 (IntKind.i64.wrap ((IntKind.i64.wrap (shrI .u64 (IntKind.u64.wrap (IntKind.i64.wrap (x10 + x11))) 1)) + 1)) x11 w3 ∧ m3 (IntKind.i64.wrap ((IntKind.i64.wrap (shrI .u64 (IntKind.u64.wrap (IntKind.i64.wrap (x10 + x11))) 1)) + 1)) x11 w3 < m3 x10 x11 w1) (
  I3 x10 (IntKind.i64.wrap (shrI .u64 (IntKind.u64.wrap (IntKind.i64.wrap (x10 + x11))) 1)) w3 ∧ m3 x10 (IntKind.i64.wrap (shrI .u64 (IntKind.u64.wrap (IntKind.i64.wrap (x10 + x11))) 1)) w3 < m3 x10 x11 w1))))))))) (
  ∃ (I9 : Int → World → Prop) (m9 : Int → World → Nat), I9 x1 w1 ∧ ∀ (x13 : Int) w4, I9 x13 w4 → ∀ _ _ _ _ _ _ _ _ _ _ _ _ _ _ _ _ _ _ _ _ _ _ : Value,
  cond (decide ((x13 : Int) < (IntKind.i64.wrap (x10 - 1)))) (
  ∀ w5, Ext w4 w5 → w5.heap = w4.heap → ∃ (D5 : Nat → Prop),
  IX x0 (IntKind.i64.wrap (x13 + 1)) 1 fun (px69 : Addr) =>
  IX x0 x13 1 fun (px73 : Addr) =>
  ¬ D5 px69.block ∧ (
  LD [.int .i64] px69 w5 fun (x70 : Int) =>
  LD [.int .i64] px73 w5 fun (x74 : Int) =>
  Chg w5 w5 D5 ∧ (
  IX x0 x13 1 fun (px75 : Addr) =>
  ST px75 0 [.int .i64 x70] w5 fun w6 =>
  IX x0 (IntKind.i64.wrap (x13 + 1)) 1 fun (px76 : Addr) =>
  ST px76 0 [.int .i64 x74] w6 fun w7 =>
  I9 (IntKind.i64.wrap (x13 + 1)) w7 ∧ m9 (IntKind.i64.wrap (x13 + 1)) w7 < m9 x13 w4))) (
  Q w4))) (
  cond (((IntKind.i64.wrap (x3 - x2)) : Int) == 1) (
  ∃ (I15 : Int → Int → World → Prop) (m15 : Int → Int → World → Nat), I15 x1 x2 w ∧ ∀ (x14 : Int) (x15 : Int) w8, I15 x14 x15 w8 → ∀ _ _ _ _ _ _ _ _ _ _ _ _ _ _ _ _ _ _ _ _ _ _ _ _ _ : Value,
  cond (decide ((x14 : Int) < x15)) (
  (0 : Int) ≤ 1 ∧ (
  ∀ w9, Ext w8 w9 → w9.heap = w8.heap →
  IX x0 x2 1 fun (px95 : Addr) =>
  LD [.int .i64] px95 w9 fun (x96 : Int) =>
  Ext w9 w9 ∧ (
  IX x0 (IntKind.i64.wrap (shrI .u64 (IntKind.u64.wrap (IntKind.i64.wrap (x14 + x15))) 1)) 1 fun (px99 : Addr) =>
  Ext w9 w9 ∧ (
  LD [.int .i64] px99 w9 fun (x100 : Int) =>
  Ext w9 w9 ∧ (
  CALLV Try.prog x4 #[.int .i64 x96, .int .i64 x100] w9 (Ret [.at (.int .i64)] fun (x101 : Int) w10 =>
  Ext w9 w10 ∧ (
  Ext w9 w10 ∧ (
  Ext w9 w10 ∧ (
  cond (!(decide ((x101 : Int) < 0))) (
  I15 (IntKind.i64.wrap ((IntKind.i64.wrap (shrI .u64 (IntKind.u64.wrap (IntKind.i64.wrap (x14 + x15))) 1)) + 1)) x15 w10 ∧ m15 (IntKind.i64.wrap ((IntKind.i64.wrap (shrI .u64 (IntKind.u64.wrap (IntKind.i64.wrap (x14 + x15))) 1)) + 1)) x15 w10 < m15 x14 x15 w8) (
  I15 x14 (IntKind.i64.wrap (shrI .u64 (IntKind.u64.wrap (IntKind.i64.wrap (x14 + x15))) 1)) w10 ∧ m15 x14 (IntKind.i64.wrap (shrI .u64 (IntKind.u64.wrap (IntKind.i64.wrap (x14 + x15))) 1)) w10 < m15 x14 x15 w8)))))))))) (
  ∃ (I21 : Int → World → Prop) (m21 : Int → World → Nat), I21 x2 w8 ∧ ∀ (x17 : Int) w11, I21 x17 w11 → ∀ _ _ _ _ _ _ _ _ _ _ _ _ _ _ _ _ _ _ _ _ _ : Value,
  cond (decide ((x17 : Int) > x14)) (
  ∀ w12, Ext w11 w12 → w12.heap = w11.heap → ∃ (D12 : Nat → Prop),
  IX x0 (IntKind.i64.wrap (x17 - 1)) 1 fun (px121 : Addr) =>
  IX x0 x17 1 fun (px125 : Addr) =>
  ¬ D12 px121.block ∧ (
  LD [.int .i64] px121 w12 fun (x122 : Int) =>
  LD [.int .i64] px125 w12 fun (x126 : Int) =>
  Chg w12 w12 D12 ∧ (
  IX x0 x17 1 fun (px127 : Addr) =>
  ST px127 0 [.int .i64 x122] w12 fun w13 =>
  IX x0 (IntKind.i64.wrap (x17 - 1)) 1 fun (px128 : Addr) =>
  ST px128 0 [.int .i64 x126] w13 fun w14 =>
  I21 (IntKind.i64.wrap (x17 - 1)) w14 ∧ m21 (IntKind.i64.wrap (x17 - 1)) w14 < m21 x17 w11))) (
  Q w11))) (
  (0 : Int) ≤ 1 ∧ (
  cond (decide ((x2 : Int) > (IntKind.i64.wrap (shrI .u64 (IntKind.u64.wrap (IntKind.i64.wrap (x1 + x3))) 1)))) (
  V_slices_symMergeCmpFunc_int_k13 x0 x1 x2 x3 x4 Q (IntKind.i64.wrap ((IntKind.i64.wrap ((IntKind.i64.wrap (shrI .u64 (IntKind.u64.wrap (IntKind.i64.wrap (x1 + x3))) 1)) + x2)) - x3)) (IntKind.i64.wrap (shrI .u64 (IntKind.u64.wrap (IntKind.i64.wrap (x1 + x3))) 1)) w) (
  V_slices_symMergeCmpFunc_int_k13 x0 x1 x2 x3 x4 Q x1 x2 w))))

theorem C_slices_symMergeCmpFunc_int {Q : World → Prop} {x0 : Sl} {x1 : Int} {x2 : Int} {x3 : Int} {x4 : Value} {w : World} (h : V_slices_symMergeCmpFunc_int Q x0 x1 x2 x3 x4 w) : Calls Try.prog F.slices_symMergeCmpFunc_int #[x0.v, .int .i64 x1, .int .i64 x2, .int .i64 x3, x4] w (Ret [] Q) :=
  mkC (hint := hint) (ann := annOf [(3, ⟨[(10, .int .i64), (11, .int .i64)], [12, 31, 32, 33, 34, 35, 36, 37, 38, 39, 40, 41, 42, 43, 44, 45, 46, 47, 48, 49, 50, 51, 52, 53]⟩), (9, ⟨[(13, .int .i64)], [55, 56, 57, 58, 59, 60, 61, 62, 63, 64, 65, 66, 67, 68, 69, 70, 71, 72, 73, 74, 75, 76]⟩), (500011, ⟨[], [1]⟩), (15, ⟨[(14, .int .i64), (15, .int .i64)], [16, 83, 84, 85, 86, 87, 88, 89, 90, 91, 92, 93, 94, 95, 96, 97, 98, 99, 100, 101, 102, 103, 104, 105, 106]⟩), (21, ⟨[(17, .int .i64)], [108, 109, 110, 111, 112, 113, 114, 115, 116, 117, 118, 119, 120, 121, 122, 123, 124, 125, 126, 127, 128]⟩), (500023, ⟨[], [1]⟩), (33, ⟨[(20, .int .i64), (21, .int .i64)], [23, 149, 150, 151, 152, 153, 154, 155, 156, 157, 158, 159, 160, 161, 162, 163, 164, 165, 166, 167, 168, 169, 170, 171, 172, 173, 174]⟩)]) (args := [x0.v, .int .i64 x1, .int .i64 x2, .int .i64 x3, x4]) (rs := []) Try.func224 (by kernel_rfl) (by kernel_rfl) h

def V_slices_rotateCmpFunc_int (Q : World → Prop) (data : Sl) (a : Int) (m : Int) (b : Int) (cmp : Value) (w : World) : Prop :=
  ∃ (I2 : Int → Int → World → Prop) (m2 : Int → Int → World → Nat), I2 (IntKind.i64.wrap (m - a)) (IntKind.i64.wrap (b - m)) w ∧ ∀ (i : Int) (j : Int) w1, I2 i j w1 → ∀ _ _ _ _ _ _ _ _ _ _ _ _ _ _ _ _ _ _ _ _ _ _ _ _ _ _ _ _ _ _ _ _ : Value,
  cond ((i : Int) != j) (
  cond (decide ((i : Int) > j)) (
  Calls Try.prog F.slices_swapRangeCmpFunc_int #[data.v, .int .i64 (IntKind.i64.wrap (m - i)), .int .i64 m, .int .i64 j, cmp] w1 (Ret [] fun w2 =>
  I2 (IntKind.i64.wrap (i - j)) j w2 ∧ m2 (IntKind.i64.wrap (i - j)) j w2 < m2 i j w1)) (
  Calls Try.prog F.slices_swapRangeCmpFunc_int #[data.v, .int .i64 (IntKind.i64.wrap (m - i)), .int .i64 (IntKind.i64.wrap ((IntKind.i64.wrap (m + j)) - i)), .int .i64 i, cmp] w1 (Ret [] fun w3 =>
  I2 i (IntKind.i64.wrap (j - i)) w3 ∧ m2 i (IntKind.i64.wrap (j - i)) w3 < m2 i j w1))) (
  Calls Try.prog F.slices_swapRangeCmpFunc_int #[data.v, .int .i64 (IntKind.i64.wrap (m - i)), .int .i64 m, .int .i64 i, cmp] w1 (Ret [] fun w4 =>
  Q w4))

theorem C_slices_rotateCmpFunc_int {Q : World → Prop} {data : Sl} {a : Int} {m : Int} {b : Int} {cmp : Value} {w : World} (h : V_slices_rotateCmpFunc_int Q data a m b cmp w) : Calls Try.prog F.slices_rotateCmpFunc_int #[data.v, .int .i64 a, .int .i64 m, .int .i64 b, cmp] w (Ret [] Q) :=
  mkC (hint := hint) (ann := annOf [(2, ⟨[(10, .int .i64), (11, .int .i64)], [18, 19, 20, 21, 22, 23, 24, 25, 26, 27, 28, 29, 30, 31, 32, 33, 34, 35, 36, 37, 38, 39, 40, 41, 42, 43, 44, 45, 46, 47, 48, 49]⟩)]) (args := [data.v, .int .i64 a, .int .i64 m, .int .i64 b, cmp]) (rs := []) Try.func252 (by kernel_rfl) (by kernel_rfl) h

def V_slices_swapRangeCmpFunc_int (Q : World → Prop) (data : Sl) (a : Int) (b : Int) (n : Int) (cmp : Value) (w : World) : Prop :=
  ∃ (I1 : Int → World → Prop) (m1 : Int → World → Nat), I1 0 w ∧ ∀ (i : Int) w1, I1 i w1 → ∀ _ _ _ _ _ _ _ _ _ _ _ _ _ _ _ _ _ _ _ _ _ _ _ _ _ _ _ : Value,
  cond (decide ((i : Int) < n)) (
  ∀ w2, Ext w1 w2 → w2.heap = w1.heap → ∃ (D2 : Nat → Prop),
  IX data (IntKind.i64.wrap (b + i)) 1 fun (px28 : Addr) =>
  IX data (IntKind.i64.wrap (a + i)) 1 fun (px34 : Addr) =>
  ¬ D2 px28.block ∧ (
  LD [.int .i64] px28 w2 fun (x29 : Int) =>
  LD [.int .i64] px34 w2 fun (x35 : Int) =>
  Chg w2 w2 D2 ∧ (
  IX data (IntKind.i64.wrap (a + i)) 1 fun (px36 : Addr) =>
  ST px36 0 [.int .i64 x29] w2 fun w3 =>
  IX data (IntKind.i64.wrap (b + i)) 1 fun (px37 : Addr) =>
  ST px37 0 [.int .i64 x35] w3 fun w4 =>
  I1 (IntKind.i64.wrap (i + 1)) w4 ∧ m1 (IntKind.i64.wrap (i + 1)) w4 < m1 i w1))) (
  Q w1)

theorem C_slices_swapRangeCmpFunc_int {Q : World → Prop} {data : Sl} {a : Int} {b : Int} {n : Int} {cmp : Value} {w : World} (h : V_slices_swapRangeCmpFunc_int Q data a b n cmp w) : Calls Try.prog F.slices_swapRangeCmpFunc_int #[data.v, .int .i64 a, .int .i64 b, .int .i64 n, cmp] w (Ret [] Q) :=
  mkC (hint := hint) (ann := annOf [(1, ⟨[(10, .int .i64)], [11, 12, 13, 14, 15, 16, 17, 18, 19, 20, 21, 22, 23, 24, 25, 26, 27, 28, 29, 30, 31, 32, 33, 34, 35, 36, 37]⟩), (500003, ⟨[], [1]⟩)]) (args := [data.v, .int .i64 a, .int .i64 b, .int .i64 n, cmp]) (rs := []) Try.func265 (by kernel_rfl) (by kernel_rfl) h

end Go.Proofs.Ytoeaoinedidbiaa
