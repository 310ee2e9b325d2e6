/- What the code of the stable sort computes to. Printed by a program. -/
import Derived.Test.YtjfodknpphhajaaNames
namespace Go.Proofs.Ytjfodknpphhajaa
open Go.GX Go.RowKit
set_option linter.unusedVariables false
set_option maxRecDepth 100000

def V_slices_insertionSortCmpFunc_sl_int (Q : World → Prop) (data : Sl) (a : Int) (b : Int) (cmp : Value) (w : World) : Prop :=
  ∃ (I1 : Int → World → Prop) (m1 : Int → World → Nat), I1 (IntKind.i64.wrap (a + 1)) w ∧ ∀ (i : Int) w1, I1 i w1 → ∀ _ _ _ _ _ _ _ _ _ _ _ _ _ _ _ _ _ _ _ _ _ _ _ _ _ _ _ _ _ _ _ _ _ _ _ _ _ _ _ _ _ _ : Value,
  cond (decide ((i : Int) < b)) (
  ∃ (I4 : Int → World → Prop) (m4 : Int → World → Nat), I4 i w1 ∧ ∀ (j : Int) w2, I4 j w2 → ∀ _ _ _ _ _ _ _ _ _ _ _ _ _ _ _ _ _ _ _ _ _ _ _ _ _ _ _ _ _ _ _ _ _ _ _ : Value,
  ∀ w3, Ext w2 w3 → w3.heap = w2.heap →
  Ext w3 w3 ∧ (
  Ext w3 w3 ∧ (
  Ext w3 w3 ∧ (
  cond (decide ((j : Int) > a)) (
  IX data j 1 fun (px25 : Addr) =>
  LD [.sl] px25 w3 fun (x26 : Sl) =>
  Ext w3 w3 ∧ (
  Ext w3 w3 ∧ (
  IX data (IntKind.i64.wrap (j - 1)) 1 fun (px30 : Addr) =>
  Ext w3 w3 ∧ (
  LD [.sl] px30 w3 fun (x31 : Sl) =>
  Ext w3 w3 ∧ (
  CALLV Try.prog cmp #[x26.v, x31.v] w3 (Ret [.at (.int .i64)] fun (x32 : Int) w4 =>
  Ext w3 w4 ∧ (
  Ext w4 w4 ∧ (
  Ext w4 w4 ∧ (
  cond (decide ((x32 : Int) < 0)) (
  ∀ w8, Ext w4 w8 → w8.heap = w4.heap → ∃ (D8 : Nat → Prop),
  IX data (IntKind.i64.wrap (j - 1)) 1 fun (px45_2 : Addr) =>
  IX data j 1 fun (px49_2 : Addr) =>
  ¬ D8 px45_2.block ∧ (
  LD [.sl] px45_2 w8 fun (x46_2 : Sl) =>
  LD [.sl] px49_2 w8 fun (x50_2 : Sl) =>
  Chg w8 w8 D8 ∧ (
  IX data j 1 fun (px51_2 : Addr) =>
  ST px51_2 0 [x46_2.v] w8 fun w9 =>
  IX data (IntKind.i64.wrap (j - 1)) 1 fun (px52_2 : Addr) =>
  ST px52_2 0 [x50_2.v] w9 fun w10 =>
  I4 (IntKind.i64.wrap (j - 1)) w10 ∧ m4 (IntKind.i64.wrap (j - 1)) w10 < m4 j w2))) (
  I1 (IntKind.i64.wrap (i + 1)) w4 ∧ m1 (IntKind.i64.wrap (i + 1)) w4 < m1 i w1)))))))))) (
  Ext w3 w3 ∧ (
  I1 (IntKind.i64.wrap (i + 1)) w3 ∧ m1 (IntKind.i64.wrap (i + 1)) w3 < m1 i w1)))))) (
  Q w1)

theorem C_slices_insertionSortCmpFunc_sl_int {Q : World → Prop} {data : Sl} {a : Int} {b : Int} {cmp : Value} {w : World} (h : V_slices_insertionSortCmpFunc_sl_int Q data a b cmp w) : Calls Try.prog F.slices_insertionSortCmpFunc_sl_int #[data.v, .int .i64 a, .int .i64 b, cmp] w (Ret [] Q) :=
  mkC (hint := hint) (ann := annOf [(1, ⟨[(8, .int .i64)], [9, 12, 13, 14, 15, 16, 17, 18, 19, 20, 21, 22, 23, 24, 25, 26, 27, 28, 29, 30, 31, 32, 33, 34, 35, 36, 37, 38, 39, 40, 41, 42, 43, 44, 45, 46, 47, 48, 49, 50, 51, 52]⟩), (4, ⟨[(9, .int .i64)], [18, 19, 20, 21, 22, 23, 24, 25, 26, 27, 28, 29, 30, 31, 32, 33, 34, 35, 36, 37, 38, 39, 40, 41, 42, 43, 44, 45, 46, 47, 48, 49, 50, 51, 52]⟩), (500006, ⟨[], [1]⟩)]) (args := [data.v, .int .i64 a, .int .i64 b, cmp]) (rs := []) Try.func125 (by kernel_rfl) (by kernel_rfl) h

end Go.Proofs.Ytjfodknpphhajaa
