/- Own texts, merged: V1. -/
import Derived.Test.YtaeledhbkdakcaaGreatDoorM1
set_option linter.unusedVariables false
section
/- What each function's code computes to. Printed by a program. -/
namespace Go.Proofs.YtaeledhbkdakcaaGreatDoor
open Go.GX Go.RowKit
set_option linter.unusedVariables false
set_option maxRecDepth 100000

def V_slices_IndexFunc_sl_int_int (Q : Int → World → Prop) (s : Sl) (f : Value) (w : World) : Prop :=
  ∃ (I2 : Int → World → Prop) (m2 : Int → World → Nat), I2 0 w ∧ ∀ (x8 : Int) w1, I2 x8 w1 → ∀ _ _ _ _ _ _ _ _ _ _ _ _ : Value,
  cond (decide ((x8 : Int) < s.len)) (
  IX s x8 1 fun (px14 : Addr) =>
  LD [.int .i64] px14 w1 fun (x15 : Int) =>
  CALLV Tryz.prog f #[.int .i64 x15] w1 (Ret [.at .bool] fun (x16 : Bool) w2 =>
  cond x16 (
  Q x8 w2) (
  I2 (IntKind.i64.wrap (x8 + 1)) w2 ∧ m2 (IntKind.i64.wrap (x8 + 1)) w2 < m2 x8 w1))) (
  Q (-1) w1)

theorem C_slices_IndexFunc_sl_int_int {Q : Int → World → Prop} {s : Sl} {f : Value} {w : World} (h : V_slices_IndexFunc_sl_int_int Q s f w) : Calls Tryz.prog F.slices_IndexFunc_sl_int_int #[s.v, f] w (Ret [.at (.int .i64)] Q) :=
  mkC (hint := hint) (ann := annOf [(2, ⟨[(8, .int .i64)], [4, 5, 9, 10, 11, 12, 13, 14, 15, 16, 17, 18]⟩)]) (args := [s.v, f]) (rs := [.at (.int .i64)]) Tryz.func75 (by kernel_rfl) (by kernel_rfl) h

def V_i_images (Q : Sl → World → Prop) (labels : Sl) (f : Sl) (w : World) : Prop :=
  ∃ (I3 : Sl → Int → World → Prop) (m3 : Sl → Int → World → Nat), I3 (⟨none, 0, 0⟩) 0 w ∧ ∀ (out : Sl) (x10 : Int) w1, I3 out x10 w1 → ∀ _ _ _ _ _ _ _ _ _ _ _ _ : Value,
  cond (decide ((x10 : Int) < labels.len)) (
  IX labels x10 1 fun (px12 : Addr) =>
  LD [.int .i64] px12 w1 fun (x13 : Int) =>
  IX f x13 1 fun (px17 : Addr) =>
  LD [.int .i64] px17 w1 fun (x18 : Int) =>
  RUN Tryz.prog (.at .sl) (Instr.buildSlice T.t_sl_int 1 #[(0, .int .i64 x18)]) w1 fun (x19 : Sl) w2 =>
  RUN Tryz.prog (.at .sl) (bsem .append #[T.t_sl_int, T.t_sl_int] T.t_sl_int #[out.v, x19.v]) w2 fun (x20 : Sl) w3 =>
  I3 x20 (IntKind.i64.wrap (x10 + 1)) w3 ∧ m3 x20 (IntKind.i64.wrap (x10 + 1)) w3 < m3 out x10 w1) (
  Q out w1)

theorem C_i_images {Q : Sl → World → Prop} {labels : Sl} {f : Sl} {w : World} (h : V_i_images Q labels f w) : Calls Tryz.prog F.i_images #[labels.v, f.v] w (Ret [.at .sl] Q) :=
  mkC (hint := hint) (ann := annOf [(3, ⟨[(5, .sl), (10, .int .i64)], [7, 11, 12, 13, 14, 15, 16, 17, 18, 19, 20, 21]⟩)]) (args := [labels.v, f.v]) (rs := [.at .sl]) Tryz.func87 (by kernel_rfl) (by kernel_rfl) h

def V_slices_Grow_sl_int_int (Q : Sl → World → Prop) (s : Sl) (n : Int) (w : World) : Prop :=
  cond (decide ((n : Int) < 0)) (
  False) (
  RUN Tryz.prog (.at (.int .i64)) (bsem .cap #[T.t_sl_int] T.t_int #[s.v]) w fun (x10 : Int) w1 =>
  cond (decide (((IntKind.i64.wrap (n - (IntKind.i64.wrap (x10 - s.len)))) : Int) > 0)) (
  RUN Tryz.prog (.at (.int .i64)) (bsem .cap #[T.t_sl_int] T.t_int #[s.v]) w1 fun (x19 : Int) w2 =>
  SLC s none (some x19) 1 fun (x20 : Sl) =>
  RUN Tryz.prog (.at .sl) (bsem .append #[T.t_sl_int, T.t_int] T.t_sl_int #[x20.v, .int .i64 (IntKind.i64.wrap (n - (IntKind.i64.wrap (x10 - s.len))))]) w2 fun (x22 : Sl) w3 =>
  SLC x22 none (some s.len) 1 fun (x25 : Sl) =>
  Q x25 w3) (
  Q s w1))

theorem C_slices_Grow_sl_int_int {Q : Sl → World → Prop} {s : Sl} {n : Int} {w : World} (h : V_slices_Grow_sl_int_int Q s n w) : Calls Tryz.prog F.slices_Grow_sl_int_int #[s.v, .int .i64 n] w (Ret [.at .sl] Q) :=
  mkC (hint := hint) (ann := annOf []) (args := [s.v, .int .i64 n]) (rs := [.at .sl]) Tryz.func89 (by kernel_rfl) (by kernel_rfl) h

def V_s_maNumbers_k4 (I3 : Sl → Int → World → Prop) (m3 : Sl → Int → World → Nat) (x10 : Int) (w1 : World) (out : Sl) (x15 : Int) (w3 : World) : Prop :=
  RUN Tryz.prog (.at .sl) (Instr.buildSlice T.t_sl_int 1 #[(0, .int .i64 x15)]) w3 fun (x24 : Sl) w4 =>
  RUN Tryz.prog (.at .sl) (bsem .append #[T.t_sl_int, T.t_sl_int] T.t_sl_int #[out.v, x24.v]) w4 fun (x25 : Sl) w5 =>
  I3 x25 (IntKind.i64.wrap (x10 + 1)) w5 ∧ m3 x25 (IntKind.i64.wrap (x10 + 1)) w5 < m3 out x10 w1

def V_s_maNumbers (Q : Sl → Bool → World → Prop) (words : Sl) (w : World) : Prop :=
  ∃ (I3 : Sl → Int → World → Prop) (m3 : Sl → Int → World → Nat), I3 (⟨none, 0, 0⟩) 0 w ∧ ∀ (out : Sl) (x10 : Int) w1, I3 out x10 w1 → ∀ _ _ _ _ _ _ _ _ _ _ _ _ _ _ _ _ _ _ _ _ : Value,
  cond (decide ((x10 : Int) < words.len)) (
  IX words x10 1 fun (px12 : Addr) =>
  LD [.str] px12 w1 fun (x13 : ByteArray) =>
  Calls Tryz.prog F.s_l1Read #[.string x13] w1 (Ret [.at (.int .i64)] fun (x15 : Int) w2 =>
  cond (decide ((x15 : Int) < 0)) (
  cond (!(x13.toList == (ByteArray.mk #[42]).toList)) (
  Q (⟨none, 0, 0⟩) false w2) (
  V_s_maNumbers_k4 I3 m3 x10 w1 out x15 w2)) (
  V_s_maNumbers_k4 I3 m3 x10 w1 out x15 w2))) (
  Q out true w1)

theorem C_s_maNumbers {Q : Sl → Bool → World → Prop} {words : Sl} {w : World} (h : V_s_maNumbers Q words w) : Calls Tryz.prog F.s_maNumbers #[words.v] w (Ret [.at .sl, .at .bool] Q) :=
  mkC (hint := hint) (ann := annOf [(3, ⟨[(4, .sl), (10, .int .i64)], [2, 3, 6, 7, 11, 12, 13, 14, 15, 16, 17, 18, 19, 20, 21, 22, 23, 24, 25, 26]⟩)]) (args := [words.v]) (rs := [.at .sl, .at .bool]) Tryz.func90 (by kernel_rfl) (by kernel_rfl) h

def V_s_prGood (Q : Bool → World → Prop) (p_0 : Int) (p_1 : Int) (p_2 : Sl) (p_3 : Sl) (w : World) : Prop :=
  NEW T.t_i_Problem #[.int .i64 p_0, .int .i64 p_1, p_2.v, p_3.v] w fun (p_p : Addr) w1 =>
  LD [.int .i64] (p_p.add 0) w1 fun (x4 : Int) =>
  Calls Tryz.prog F.s_l1In #[.int .i64 x4, .int .i64 1, .int .i64 8] w1 (Ret [.at .bool] fun (x5 : Bool) w2 =>
  cond x5 (
  LD [.int .i64] (p_p.add 1) w2 fun (x8 : Int) =>
  Calls Tryz.prog F.s_l1In #[.int .i64 x8, .int .i64 1, .int .i64 4] w2 (Ret [.at .bool] fun (x9 : Bool) w3 =>
  cond x9 (
  LD [.sl] (p_p.add 2) w3 fun (x13 : Sl) =>
  LD [.int .i64] (p_p.add 1) w3 fun (x15 : Int) =>
  LD [.int .i64] (p_p.add 0) w3 fun (x17 : Int) =>
  Calls Tryz.prog F.s_prLists #[x13.v, .int .i64 x15, .int .i64 x17] w3 (Ret [.at .bool] fun (x18 : Bool) w4 =>
  cond x18 (
  LD [.sl] (p_p.add 3) w4 fun (x22 : Sl) =>
  LD [.int .i64] (p_p.add 0) w4 fun (x24 : Int) =>
  Calls Tryz.prog F.s_prLists #[x22.v, .int .i64 2, .int .i64 x24] w4 (Ret [.at .bool] fun (x25 : Bool) w5 =>
  Q x25 w5)) (
  Q false w4))) (
  Q false w3))) (
  Q false w2))

theorem C_s_prGood {Q : Bool → World → Prop} {p_0 : Int} {p_1 : Int} {p_2 : Sl} {p_3 : Sl} {w : World} (h : V_s_prGood Q p_0 p_1 p_2 p_3 w) : Calls Tryz.prog F.s_prGood #[.agg #[.int .i64 p_0, .int .i64 p_1, p_2.v, p_3.v]] w (Ret [.at .bool] Q) :=
  mkC (hint := hint) (ann := annOf []) (args := [.agg #[.int .i64 p_0, .int .i64 p_1, p_2.v, p_3.v]]) (rs := [.at .bool]) Tryz.func91 (by kernel_rfl) (by kernel_rfl) h

def V_s_prText (Q : ByteArray → World → Prop) (p_0 : Int) (p_1 : Int) (p_2 : Sl) (p_3 : Sl) (w : World) : Prop :=
  NEW T.t_i_Problem #[.int .i64 p_0, .int .i64 p_1, p_2.v, p_3.v] w fun (p_p : Addr) w1 =>
  LD [.int .i64] (p_p.add 0) w1 fun (x9 : Int) =>
  LD [.int .i64] (p_p.add 1) w1 fun (x11 : Int) =>
  RUN Tryz.prog (.at .sl) (Instr.buildSlice T.t_sl_int 2 #[(0, .int .i64 x9), (1, .int .i64 x11)]) w1 fun (x12 : Sl) w2 =>
  Calls Tryz.prog F.s_maLine #[.string (ByteArray.mk #[112, 114, 111, 98, 108, 101, 109]), x12.v] w2 (Ret [.at .str] fun (x13 : ByteArray) w3 =>
  x13.size + (ByteArray.mk #[10]).size ≤ 9223372036854775807 ∧ (
  LD [.sl] (p_p.add 2) w3 fun (x16 : Sl) =>
  ∃ (I3 : ByteArray → Int → World → Prop) (m3 : ByteArray → Int → World → Nat), I3 (x13 ++ (ByteArray.mk #[10])) 0 w3 ∧ ∀ (out : ByteArray) (x18 : Int) w4, I3 out x18 w4 → ∀ _ _ _ _ _ _ _ _ _ _ : Value,
  cond (decide ((x18 : Int) < x16.len)) (
  IX x16 x18 1 fun (px20 : Addr) =>
  LD [.sl] px20 w4 fun (x21 : Sl) =>
  Calls Tryz.prog F.s_maLine #[.string (ByteArray.mk #[110, 111, 100, 101]), x21.v] w4 (Ret [.at .str] fun (x24 : ByteArray) w5 =>
  x24.size + (ByteArray.mk #[10]).size ≤ 9223372036854775807 ∧ (
  out.size + (x24 ++ (ByteArray.mk #[10])).size ≤ 9223372036854775807 ∧ (
  I3 (out ++ (x24 ++ (ByteArray.mk #[10]))) (IntKind.i64.wrap (x18 + 1)) w5 ∧ m3 (out ++ (x24 ++ (ByteArray.mk #[10]))) (IntKind.i64.wrap (x18 + 1)) w5 < m3 out x18 w4)))) (
  LD [.sl] (p_p.add 3) w4 fun (x29 : Sl) =>
  ∃ (I8 : ByteArray → Int → World → Prop) (m8 : ByteArray → Int → World → Nat), I8 out 0 w4 ∧ ∀ (out_2 : ByteArray) (x31 : Int) w6, I8 out_2 x31 w6 → ∀ _ _ _ _ _ _ _ _ _ _ : Value,
  cond (decide ((x31 : Int) < x29.len)) (
  IX x29 x31 1 fun (px33 : Addr) =>
  LD [.sl] px33 w6 fun (x34 : Sl) =>
  Calls Tryz.prog F.s_maLine #[.string (ByteArray.mk #[101, 100, 103, 101]), x34.v] w6 (Ret [.at .str] fun (x37 : ByteArray) w7 =>
  x37.size + (ByteArray.mk #[10]).size ≤ 9223372036854775807 ∧ (
  out_2.size + (x37 ++ (ByteArray.mk #[10])).size ≤ 9223372036854775807 ∧ (
  I8 (out_2 ++ (x37 ++ (ByteArray.mk #[10]))) (IntKind.i64.wrap (x31 + 1)) w7 ∧ m8 (out_2 ++ (x37 ++ (ByteArray.mk #[10]))) (IntKind.i64.wrap (x31 + 1)) w7 < m8 out_2 x31 w6)))) (
  Q out_2 w6))))

theorem C_s_prText {Q : ByteArray → World → Prop} {p_0 : Int} {p_1 : Int} {p_2 : Sl} {p_3 : Sl} {w : World} (h : V_s_prText Q p_0 p_1 p_2 p_3 w) : Calls Tryz.prog F.s_prText #[.agg #[.int .i64 p_0, .int .i64 p_1, p_2.v, p_3.v]] w (Ret [.at .str] Q) :=
  mkC (hint := hint) (ann := annOf [(3, ⟨[(3, .str), (18, .int .i64)], [5, 19, 20, 21, 22, 23, 24, 25, 26, 27]⟩), (8, ⟨[(3, .str), (31, .int .i64)], [7, 32, 33, 34, 35, 36, 37, 38, 39, 40]⟩)]) (args := [.agg #[.int .i64 p_0, .int .i64 p_1, p_2.v, p_3.v]]) (rs := [.at .str]) Tryz.func92 (by kernel_rfl) (by kernel_rfl) h

def V_s_l1Read_k5 (I5 : Int → Int → World → Prop) (m5 : Int → Int → World → Nat) (n : Int) (i : Int) (w3 : World) (n_2 : Int) (w4 : World) : Prop :=
  I5 n_2 (IntKind.i64.wrap (i + 1)) w4 ∧ m5 n_2 (IntKind.i64.wrap (i + 1)) w4 < m5 n i w3

def V_s_l1Read_k1 (s : ByteArray) (Q : Int → World → Prop) (w2 : World) : Prop :=
  ∃ (I5 : Int → Int → World → Prop) (m5 : Int → Int → World → Nat), I5 0 0 w2 ∧ ∀ (n : Int) (i : Int) w3, I5 n i w3 → ∀ _ _ _ _ _ _ _ _ _ _ _ _ _ _ _ _ _ _ _ _ _ _ _ _ _ : Value,
  cond (decide ((i : Int) < s.size)) (
  SIX s i fun (x27 : Int) =>
  cond (decide ((x27 : Int) < 48)) (
  Q (-1) w3) (
  SIX s i fun (x32 : Int) =>
  cond (decide ((x32 : Int) > 57)) (
  Q (-1) w3) (
  SIX s i fun (x39_2 : Int) =>
  V_s_l1Read_k5 I5 m5 n i w3 (IntKind.i64.wrap ((IntKind.i64.wrap (10 * n)) + (IntKind.i64.wrap (IntKind.u8.wrap (x39_2 - 48))))) w3))) (
  Q n w3)

def V_s_l1Read (Q : Int → World → Prop) (s : ByteArray) (w : World) : Prop :=
  Calls Tryz.prog F.s_l1In #[.int .i64 s.size, .int .i64 1, .int .i64 6] w (Ret [.at .bool] fun (x7 : Bool) w1 =>
  cond (!x7) (
  Q (-1) w1) (
  SIX s 0 fun (x11 : Int) =>
  cond ((x11 : Int) == 48) (
  cond (decide ((s.size : Int) > 1)) (
  Q (-1) w1) (
  V_s_l1Read_k1 s Q w1)) (
  V_s_l1Read_k1 s Q w1)))

theorem C_s_l1Read {Q : Int → World → Prop} {s : ByteArray} {w : World} (h : V_s_l1Read Q s w) : Calls Tryz.prog F.s_l1Read #[.string s] w (Ret [.at (.int .i64)] Q) :=
  mkC (hint := hint) (ann := annOf [(5, ⟨[(3, .int .i64), (4, .int .i64)], [2, 19, 20, 21, 22, 23, 24, 25, 26, 27, 28, 29, 30, 31, 32, 33, 34, 35, 36, 37, 38, 39, 40, 41, 42]⟩)]) (args := [.string s]) (rs := [.at (.int .i64)]) Tryz.func93 (by kernel_rfl) (by kernel_rfl) h

def V_s_boTwo (Q : Bool → World → Prop) (ps : Sl) (w : World) : Prop :=
  ∃ (I2 : Int → World → Prop) (m2 : Int → World → Nat), I2 0 w ∧ ∀ (x7 : Int) w1, I2 x7 w1 → ∀ _ _ _ _ _ _ _ _ _ _ _ _ _ _ _ _ _ _ : Value,
  cond (decide ((x7 : Int) < ps.len)) (
  IX ps x7 4 fun (px9 : Addr) =>
  LD [.int .i64, .int .i64, .sl, .sl] px9 w1 fun (x10_0 : Int) (x10_1 : Int) (x10_2 : Sl) (x10_3 : Sl) =>
  NEW T.t_i_Problem #[.int .i64 0, .int .i64 0, .slice none 0 0, .slice none 0 0] w1 fun (p_p : Addr) w2 =>
  ST p_p 0 [.int .i64 x10_0, .int .i64 x10_1, x10_2.v, x10_3.v] w2 fun w3 =>
  LD [.int .i64, .int .i64, .sl, .sl] p_p w3 fun (x11_0 : Int) (x11_1 : Int) (x11_2 : Sl) (x11_3 : Sl) =>
  QCALL Tryz.prog F.s_prGood #[.agg #[.int .i64 x11_0, .int .i64 x11_1, x11_2.v, x11_3.v]] w3 [.at .bool] fun (x12 : Bool) =>
  cond (!x12) (
  ∀ w4, Ext w3 w4 →
  Q false w4) (
  LD [.int .i64] (p_p.add 1) w3 fun (x16 : Int) =>
  IX ps 0 4 fun (px18 : Addr) =>
  LD [.int .i64] (px18.add 1) w3 fun (x20 : Int) =>
  ∀ w5, Ext w3 w5 →
  cond ((x16 : Int) != x20) (
  Q false w5) (
  I2 (IntKind.i64.wrap (x7 + 1)) w5 ∧ m2 (IntKind.i64.wrap (x7 + 1)) w5 < m2 x7 w1))) (
  Calls Tryz.prog F.s_l1In #[.int .i64 ps.len, .int .i64 1, .int .i64 7] w1 (Ret [.at .bool] fun (x26 : Bool) w6 =>
  Q x26 w6))

theorem C_s_boTwo {Q : Bool → World → Prop} {ps : Sl} {w : World} (h : V_s_boTwo Q ps w) : Calls Tryz.prog F.s_boTwo #[ps.v] w (Ret [.at .bool] Q) :=
  mkC (hint := hint) (ann := annOf [(2, ⟨[(7, .int .i64)], [2, 4, 8, 9, 10, 11, 12, 13, 14, 15, 16, 17, 18, 19, 20, 21, 22, 23]⟩)]) (args := [ps.v]) (rs := [.at .bool]) Tryz.func94 (by kernel_rfl) (by kernel_rfl) h

def V_s_boRight_k1 (Q : Bool → World → Prop) (p_b : Addr) (w4 : World) : Prop :=
  LD [.sl] (p_b.add 1) w4 fun (x27 : Sl) =>
  ∃ (I5 : Int → World → Prop) (m5 : Int → World → Nat), I5 0 w4 ∧ ∀ (x29 : Int) w5, I5 x29 w5 → ∀ _ _ _ _ _ _ _ _ _ _ _ _ _ _ _ _ _ _ _ _ _ _ : Value,
  cond (decide ((x29 : Int) < x27.len)) (
  IX x27 x29 1 fun (px32 : Addr) =>
  LD [.sl] px32 w5 fun (x33 : Sl) =>
  LD [.sl] (p_b.add 0) w5 fun (x35 : Sl) =>
  IX x35 x29 4 fun (px37 : Addr) =>
  LD [.int .i64, .int .i64, .sl, .sl] px37 w5 fun (x38_0 : Int) (x38_1 : Int) (x38_2 : Sl) (x38_3 : Sl) =>
  LD [.sl] (p_b.add 0) w5 fun (x40 : Sl) =>
  IX x40 (IntKind.i64.wrap (x29 + 1)) 4 fun (px43 : Addr) =>
  LD [.int .i64, .int .i64, .sl, .sl] px43 w5 fun (x44_0 : Int) (x44_1 : Int) (x44_2 : Sl) (x44_3 : Sl) =>
  QCALL Tryz.prog F.s_boStep #[.agg #[.int .i64 x38_0, .int .i64 x38_1, x38_2.v, x38_3.v], .agg #[.int .i64 x44_0, .int .i64 x44_1, x44_2.v, x44_3.v], x33.v] w5 [.at .bool] fun (x46 : Bool) =>
  ∀ w6, Ext w5 w6 →
  cond (!x46) (
  Q false w6) (
  I5 (IntKind.i64.wrap (x29 + 1)) w6 ∧ m5 (IntKind.i64.wrap (x29 + 1)) w6 < m5 x29 w5)) (
  Q true w5)

def V_s_boRight (Q : Bool → World → Prop) (b_0 : Sl) (b_1 : Sl) (b_2 : Sl) (w : World) : Prop :=
  NEW T.t_i_Bound #[b_0.v, b_1.v, b_2.v] w fun (p_b : Addr) w1 =>
  LD [.sl] (p_b.add 0) w1 fun (x7 : Sl) =>
  LD [.sl] (p_b.add 1) w1 fun (x11 : Sl) =>
  cond ((x11.len : Int) != (IntKind.i64.wrap (x7.len - 1))) (
  ∀ w2, Ext w1 w2 →
  Q false w2) (
  LD [.sl] (p_b.add 0) w1 fun (x17 : Sl) =>
  IX x17 (IntKind.i64.wrap (x7.len - 1)) 4 fun (px19 : Addr) =>
  LD [.int .i64, .int .i64, .sl, .sl] px19 w1 fun (x20_0 : Int) (x20_1 : Int) (x20_2 : Sl) (x20_3 : Sl) =>
  LD [.sl] (p_b.add 2) w1 fun (x22 : Sl) =>
  QCALL Tryz.prog F.s_boZero #[.agg #[.int .i64 x20_0, .int .i64 x20_1, x20_2.v, x20_3.v], x22.v] w1 [.at .bool] fun (x23 : Bool) =>
  ∀ w3, Ext w1 w3 →
  cond (!x23) (
  Q false w3) (
  V_s_boRight_k1 Q p_b w3))

theorem C_s_boRight {Q : Bool → World → Prop} {b_0 : Sl} {b_1 : Sl} {b_2 : Sl} {w : World} (h : V_s_boRight Q b_0 b_1 b_2 w) : Calls Tryz.prog F.s_boRight #[.agg #[b_0.v, b_1.v, b_2.v]] w (Ret [.at .bool] Q) :=
  mkC (hint := hint) (ann := annOf [(5, ⟨[(29, .int .i64)], [2, 4, 5, 30, 31, 32, 33, 34, 35, 36, 37, 38, 39, 40, 41, 42, 43, 44, 45, 46, 47, 48]⟩)]) (args := [.agg #[b_0.v, b_1.v, b_2.v]]) (rs := [.at .bool]) Tryz.func95 (by kernel_rfl) (by kernel_rfl) h

def V_s_boLine (Q : ByteArray → World → Prop) (word : ByteArray) (l : Sl) (w : World) : Prop :=
  ∃ (I2 : ByteArray → Int → World → Prop) (m2 : ByteArray → Int → World → Nat), I2 word 0 w ∧ ∀ (word_2 : ByteArray) (x9 : Int) w1, I2 word_2 x9 w1 → ∀ _ _ _ _ _ _ _ _ _ _ : Value,
  cond (decide ((x9 : Int) < l.len)) (
  IX l x9 1 fun (px11 : Addr) =>
  LD [.int .i64] px11 w1 fun (x12 : Int) =>
  Calls Tryz.prog F.s_l1Num #[.int .i64 x12] w1 (Ret [.at .str] fun (x15 : ByteArray) w2 =>
  (ByteArray.mk #[32]).size + x15.size ≤ 9223372036854775807 ∧ (
  word_2.size + ((ByteArray.mk #[32]) ++ x15).size ≤ 9223372036854775807 ∧ (
  I2 (word_2 ++ ((ByteArray.mk #[32]) ++ x15)) (IntKind.i64.wrap (x9 + 1)) w2 ∧ m2 (word_2 ++ ((ByteArray.mk #[32]) ++ x15)) (IntKind.i64.wrap (x9 + 1)) w2 < m2 word_2 x9 w1)))) (
  word_2.size + (ByteArray.mk #[10]).size ≤ 9223372036854775807 ∧ (
  Q (word_2 ++ (ByteArray.mk #[10])) w1))

theorem C_s_boLine {Q : ByteArray → World → Prop} {word : ByteArray} {l : Sl} {w : World} (h : V_s_boLine Q word l w) : Calls Tryz.prog F.s_boLine #[.string word, l.v] w (Ret [.at .str] Q) :=
  mkC (hint := hint) (ann := annOf [(2, ⟨[(0, .str), (9, .int .i64)], [6, 10, 11, 12, 13, 14, 15, 16, 17, 18]⟩)]) (args := [.string word, l.v]) (rs := [.at .str]) Tryz.func96 (by kernel_rfl) (by kernel_rfl) h

def V_i_starNumbers (Q : Sl → Bool → World → Prop) (words : Sl) (w : World) : Prop :=
  ∃ (I3 : Sl → Int → World → Prop) (m3 : Sl → Int → World → Nat), I3 (⟨none, 0, 0⟩) 0 w ∧ ∀ (out : Sl) (x11 : Int) w1, I3 out x11 w1 → ∀ _ _ _ _ _ _ _ _ _ _ _ _ _ _ _ _ _ _ _ _ _ _ : Value,
  cond (decide ((x11 : Int) < words.len)) (
  IX words x11 1 fun (px13 : Addr) =>
  LD [.str] px13 w1 fun (x14 : ByteArray) =>
  Calls Tryz.prog F.i_readNumber #[.string x14] w1 (Ret [.at (.int .i64), .at .bool] fun (x17_0 : Int) (x17_1 : Bool) w2 =>
  cond (x14.toList == (ByteArray.mk #[42]).toList) (
  RUN Tryz.prog (.at .sl) (Instr.buildSlice T.t_sl_int 1 #[(0, .int .i64 (-1))]) w2 fun (x26 : Sl) w3 =>
  RUN Tryz.prog (.at .sl) (bsem .append #[T.t_sl_int, T.t_sl_int] T.t_sl_int #[out.v, x26.v]) w3 fun (x27 : Sl) w4 =>
  I3 x27 (IntKind.i64.wrap (x11 + 1)) w4 ∧ m3 x27 (IntKind.i64.wrap (x11 + 1)) w4 < m3 out x11 w1) (
  cond (!x17_1) (
  Q (⟨none, 0, 0⟩) false w2) (
  RUN Tryz.prog (.at .sl) (Instr.buildSlice T.t_sl_int 1 #[(0, .int .i64 x17_0)]) w2 fun (x26_2 : Sl) w5 =>
  RUN Tryz.prog (.at .sl) (bsem .append #[T.t_sl_int, T.t_sl_int] T.t_sl_int #[out.v, x26_2.v]) w5 fun (x27_2 : Sl) w6 =>
  I3 x27_2 (IntKind.i64.wrap (x11 + 1)) w6 ∧ m3 x27_2 (IntKind.i64.wrap (x11 + 1)) w6 < m3 out x11 w1)))) (
  Q out true w1)

theorem C_i_starNumbers {Q : Sl → Bool → World → Prop} {words : Sl} {w : World} (h : V_i_starNumbers Q words w) : Calls Tryz.prog F.i_starNumbers #[words.v] w (Ret [.at .sl, .at .bool] Q) :=
  mkC (hint := hint) (ann := annOf [(3, ⟨[(4, .sl), (11, .int .i64)], [2, 3, 6, 7, 8, 12, 13, 14, 15, 16, 17, 18, 19, 20, 21, 22, 23, 24, 25, 26, 27, 28]⟩)]) (args := [words.v]) (rs := [.at .sl, .at .bool]) Tryz.func99 (by kernel_rfl) (by kernel_rfl) h

def V_i_BoundOf (Q : Int → Bool → World → Prop) (b_0 : Sl) (b_1 : Sl) (b_2 : Sl) (w : World) : Prop :=
  NEW T.t_i_Bound #[b_0.v, b_1.v, b_2.v] w fun (p_b : Addr) w1 =>
  LD [.sl, .sl, .sl] p_b w1 fun (x7_0 : Sl) (x7_1 : Sl) (x7_2 : Sl) =>
  Calls Tryz.prog F.i_CheckBound #[.agg #[x7_0.v, x7_1.v, x7_2.v]] w1 (Ret [.at .bool, .at .bool] fun (x8_0 : Bool) (x8_1 : Bool) w2 =>
  cond (!x8_0) (
  Q 0 false w2) (
  cond (!x8_1) (
  Q 0 false w2) (
  LD [.sl] (p_b.add 1) w2 fun (x18_2 : Sl) =>
  Q x18_2.len true w2)))

theorem C_i_BoundOf {Q : Int → Bool → World → Prop} {b_0 : Sl} {b_1 : Sl} {b_2 : Sl} {w : World} (h : V_i_BoundOf Q b_0 b_1 b_2 w) : Calls Tryz.prog F.i_BoundOf #[.agg #[b_0.v, b_1.v, b_2.v]] w (Ret [.at (.int .i64), .at .bool] Q) :=
  mkC (hint := hint) (ann := annOf []) (args := [.agg #[b_0.v, b_1.v, b_2.v]]) (rs := [.at (.int .i64), .at .bool]) Tryz.func100 (by kernel_rfl) (by kernel_rfl) h

def V_i_problemText (Q : ByteArray → World → Prop) (p_0 : Int) (p_1 : Int) (p_2 : Sl) (p_3 : Sl) (w : World) : Prop :=
  NEW T.t_i_Problem #[.int .i64 p_0, .int .i64 p_1, p_2.v, p_3.v] w fun (p_p : Addr) w1 =>
  LD [.int .i64] (p_p.add 0) w1 fun (x9 : Int) =>
  LD [.int .i64] (p_p.add 1) w1 fun (x11 : Int) =>
  RUN Tryz.prog (.at .sl) (Instr.buildSlice T.t_sl_int 2 #[(0, .int .i64 x9), (1, .int .i64 x11)]) w1 fun (x12 : Sl) w2 =>
  Calls Tryz.prog F.i_wordsLine #[.string (ByteArray.mk #[112, 114, 111, 98, 108, 101, 109]), x12.v] w2 (Ret [.at .str] fun (x13 : ByteArray) w3 =>
  RUN Tryz.prog (.at .sl) (Instr.buildSlice T.t_sl_string 1 #[(0, .string x13)]) w3 fun (x14 : Sl) w4 =>
  LD [.sl] (p_p.add 2) w4 fun (x16 : Sl) =>
  ∃ (I3 : Sl → Int → World → Prop) (m3 : Sl → Int → World → Nat), I3 x14 0 w4 ∧ ∀ (lines : Sl) (x18 : Int) w5, I3 lines x18 w5 → ∀ _ _ _ _ _ _ _ _ _ _ : Value,
  cond (decide ((x18 : Int) < x16.len)) (
  IX x16 x18 1 fun (px20 : Addr) =>
  LD [.sl] px20 w5 fun (x21 : Sl) =>
  Calls Tryz.prog F.i_wordsLine #[.string (ByteArray.mk #[110, 111, 100, 101]), x21.v] w5 (Ret [.at .str] fun (x24 : ByteArray) w6 =>
  RUN Tryz.prog (.at .sl) (Instr.buildSlice T.t_sl_string 1 #[(0, .string x24)]) w6 fun (x25 : Sl) w7 =>
  RUN Tryz.prog (.at .sl) (bsem .append #[T.t_sl_string, T.t_sl_string] T.t_sl_string #[lines.v, x25.v]) w7 fun (x26 : Sl) w8 =>
  I3 x26 (IntKind.i64.wrap (x18 + 1)) w8 ∧ m3 x26 (IntKind.i64.wrap (x18 + 1)) w8 < m3 lines x18 w5)) (
  LD [.sl] (p_p.add 3) w5 fun (x29 : Sl) =>
  ∃ (I8 : Sl → Int → World → Prop) (m8 : Sl → Int → World → Nat), I8 lines 0 w5 ∧ ∀ (lines_2 : Sl) (x31 : Int) w9, I8 lines_2 x31 w9 → ∀ _ _ _ _ _ _ _ _ _ _ : Value,
  cond (decide ((x31 : Int) < x29.len)) (
  IX x29 x31 1 fun (px33 : Addr) =>
  LD [.sl] px33 w9 fun (x34 : Sl) =>
  Calls Tryz.prog F.i_wordsLine #[.string (ByteArray.mk #[101, 100, 103, 101]), x34.v] w9 (Ret [.at .str] fun (x37 : ByteArray) w10 =>
  RUN Tryz.prog (.at .sl) (Instr.buildSlice T.t_sl_string 1 #[(0, .string x37)]) w10 fun (x38 : Sl) w11 =>
  RUN Tryz.prog (.at .sl) (bsem .append #[T.t_sl_string, T.t_sl_string] T.t_sl_string #[lines_2.v, x38.v]) w11 fun (x39 : Sl) w12 =>
  I8 x39 (IntKind.i64.wrap (x31 + 1)) w12 ∧ m8 x39 (IntKind.i64.wrap (x31 + 1)) w12 < m8 lines_2 x31 w9)) (
  Calls Tryz.prog F.strings_Join #[lines_2.v, .string (ByteArray.mk #[10])] w9 (Ret [.at .str] fun (x42 : ByteArray) w13 =>
  x42.size + (ByteArray.mk #[10]).size ≤ 9223372036854775807 ∧ (
  Q (x42 ++ (ByteArray.mk #[10])) w13)))))

theorem C_i_problemText {Q : ByteArray → World → Prop} {p_0 : Int} {p_1 : Int} {p_2 : Sl} {p_3 : Sl} {w : World} (h : V_i_problemText Q p_0 p_1 p_2 p_3 w) : Calls Tryz.prog F.i_problemText #[.agg #[.int .i64 p_0, .int .i64 p_1, p_2.v, p_3.v]] w (Ret [.at .str] Q) :=
  mkC (hint := hint) (ann := annOf [(3, ⟨[(3, .sl), (18, .int .i64)], [5, 19, 20, 21, 22, 23, 24, 25, 26, 27]⟩), (8, ⟨[(3, .sl), (31, .int .i64)], [7, 32, 33, 34, 35, 36, 37, 38, 39, 40]⟩)]) (args := [.agg #[.int .i64 p_0, .int .i64 p_1, p_2.v, p_3.v]]) (rs := [.at .str]) Tryz.func102 (by kernel_rfl) (by kernel_rfl) h

def V_i_wordsLine (Q : ByteArray → World → Prop) (word : ByteArray) (numbers : Sl) (w : World) : Prop :=
  ∃ (I2 : ByteArray → Int → World → Prop) (m2 : ByteArray → Int → World → Nat), I2 word 0 w ∧ ∀ (word_2 : ByteArray) (x9 : Int) w1, I2 word_2 x9 w1 → ∀ _ _ _ _ _ _ _ _ _ _ _ _ _ _ : Value,
  cond (decide ((x9 : Int) < numbers.len)) (
  IX numbers x9 1 fun (px11 : Addr) =>
  LD [.int .i64] px11 w1 fun (x12 : Int) =>
  cond ((x12 : Int) == (-1)) (
  word_2.size + (ByteArray.mk #[32, 42]).size ≤ 9223372036854775807 ∧ (
  I2 (word_2 ++ (ByteArray.mk #[32, 42])) (IntKind.i64.wrap (x9 + 1)) w1 ∧ m2 (word_2 ++ (ByteArray.mk #[32, 42])) (IntKind.i64.wrap (x9 + 1)) w1 < m2 word_2 x9 w1)) (
  Calls Tryz.prog F.strconv_Itoa #[.int .i64 x12] w1 (Ret [.at .str] fun (x19 : ByteArray) w2 =>
  (ByteArray.mk #[32]).size + x19.size ≤ 9223372036854775807 ∧ (
  word_2.size + ((ByteArray.mk #[32]) ++ x19).size ≤ 9223372036854775807 ∧ (
  I2 (word_2 ++ ((ByteArray.mk #[32]) ++ x19)) (IntKind.i64.wrap (x9 + 1)) w2 ∧ m2 (word_2 ++ ((ByteArray.mk #[32]) ++ x19)) (IntKind.i64.wrap (x9 + 1)) w2 < m2 word_2 x9 w1))))) (
  Q word_2 w1)

theorem C_i_wordsLine {Q : ByteArray → World → Prop} {word : ByteArray} {numbers : Sl} {w : World} (h : V_i_wordsLine Q word numbers w) : Calls Tryz.prog F.i_wordsLine #[.string word, numbers.v] w (Ret [.at .str] Q) :=
  mkC (hint := hint) (ann := annOf [(2, ⟨[(0, .str), (9, .int .i64)], [6, 10, 11, 12, 13, 14, 15, 16, 17, 18, 19, 20, 21, 22]⟩)]) (args := [.string word, numbers.v]) (rs := [.at .str]) Tryz.func103 (by kernel_rfl) (by kernel_rfl) h

def V_l_eqProblem (Q : Bool → World → Prop) (a_0 : Int) (a_1 : Int) (a_2 : Sl) (a_3 : Sl) (b_0 : Int) (b_1 : Int) (b_2 : Sl) (b_3 : Sl) (w : World) : Prop :=
  NEW T.t_i_Problem #[.int .i64 a_0, .int .i64 a_1, a_2.v, a_3.v] w fun (p_a : Addr) w1 =>
  NEW T.t_i_Problem #[.int .i64 b_0, .int .i64 b_1, b_2.v, b_3.v] w1 fun (p_b : Addr) w2 =>
  LD [.int .i64] (p_a.add 0) w2 fun (x6 : Int) =>
  LD [.int .i64] (p_b.add 0) w2 fun (x8 : Int) =>
  cond ((x6 : Int) != x8) (
  Q false w2) (
  LD [.int .i64] (p_a.add 1) w2 fun (x11 : Int) =>
  LD [.int .i64] (p_b.add 1) w2 fun (x13 : Int) =>
  cond ((x11 : Int) != x13) (
  Q false w2) (
  LD [.sl] (p_a.add 2) w2 fun (x16 : Sl) =>
  LD [.sl] (p_b.add 2) w2 fun (x18 : Sl) =>
  Calls Tryz.prog F.l_eqIntSS #[x16.v, x18.v] w2 (Ret [.at .bool] fun (x19 : Bool) w3 =>
  cond (!x19) (
  Q false w3) (
  LD [.sl] (p_a.add 3) w3 fun (x22 : Sl) =>
  LD [.sl] (p_b.add 3) w3 fun (x24 : Sl) =>
  Calls Tryz.prog F.l_eqIntSS #[x22.v, x24.v] w3 (Ret [.at .bool] fun (x25 : Bool) w4 =>
  cond (!x25) (
  Q false w4) (
  Q true w4))))))

theorem C_l_eqProblem {Q : Bool → World → Prop} {a_0 : Int} {a_1 : Int} {a_2 : Sl} {a_3 : Sl} {b_0 : Int} {b_1 : Int} {b_2 : Sl} {b_3 : Sl} {w : World} (h : V_l_eqProblem Q a_0 a_1 a_2 a_3 b_0 b_1 b_2 b_3 w) : Calls Tryz.prog F.l_eqProblem #[.agg #[.int .i64 a_0, .int .i64 a_1, a_2.v, a_3.v], .agg #[.int .i64 b_0, .int .i64 b_1, b_2.v, b_3.v]] w (Ret [.at .bool] Q) :=
  mkC (hint := hint) (ann := annOf []) (args := [.agg #[.int .i64 a_0, .int .i64 a_1, a_2.v, a_3.v], .agg #[.int .i64 b_0, .int .i64 b_1, b_2.v, b_3.v]]) (rs := [.at .bool]) Tryz.func105 (by kernel_rfl) (by kernel_rfl) h

def V_s_l1All (Q : Bool → World → Prop) (l : Sl) (lo : Int) (hi : Int) (w : World) : Prop :=
  ∃ (I2 : Int → World → Prop) (m2 : Int → World → Nat), I2 0 w ∧ ∀ (x11 : Int) w1, I2 x11 w1 → ∀ _ _ _ _ _ _ _ _ _ _ _ : Value,
  cond (decide ((x11 : Int) < l.len)) (
  IX l x11 1 fun (px13 : Addr) =>
  LD [.int .i64] px13 w1 fun (x14 : Int) =>
  Calls Tryz.prog F.s_l1In #[.int .i64 x14, .int .i64 lo, .int .i64 hi] w1 (Ret [.at .bool] fun (x18 : Bool) w2 =>
  cond (!x18) (
  Q false w2) (
  I2 (IntKind.i64.wrap (x11 + 1)) w2 ∧ m2 (IntKind.i64.wrap (x11 + 1)) w2 < m2 x11 w1))) (
  Q true w1)

theorem C_s_l1All {Q : Bool → World → Prop} {l : Sl} {lo : Int} {hi : Int} {w : World} (h : V_s_l1All Q l lo hi w) : Calls Tryz.prog F.s_l1All #[l.v, .int .i64 lo, .int .i64 hi] w (Ret [.at .bool] Q) :=
  mkC (hint := hint) (ann := annOf [(2, ⟨[(11, .int .i64)], [6, 8, 12, 13, 14, 15, 16, 17, 18, 19, 20]⟩)]) (args := [l.v, .int .i64 lo, .int .i64 hi]) (rs := [.at .bool]) Tryz.func106 (by kernel_rfl) (by kernel_rfl) h

def V_s_prOrder (Q : Int → World → Prop) (a : Sl) (b : Sl) (w : World) : Prop :=
  ∃ (I2 : Int → World → Prop) (m2 : Int → World → Nat), I2 0 w ∧ ∀ (x9 : Int) w1, I2 x9 w1 → ∀ _ _ _ _ _ _ _ _ _ _ _ _ _ _ _ _ _ _ _ _ _ : Value,
  cond (decide ((x9 : Int) < a.len)) (
  IX a x9 1 fun (px12 : Addr) =>
  LD [.int .i64] px12 w1 fun (x13 : Int) =>
  IX b x9 1 fun (px17 : Addr) =>
  LD [.int .i64] px17 w1 fun (x18 : Int) =>
  cond ((x13 : Int) != x18) (
  IX b x9 1 fun (px23 : Addr) =>
  LD [.int .i64] px23 w1 fun (x24 : Int) =>
  Calls Tryz.prog F.s_l1Sign #[.int .i64 (IntKind.i64.wrap (x13 - x24))] w1 (Ret [.at (.int .i64)] fun (x26 : Int) w2 =>
  Q x26 w2)) (
  I2 (IntKind.i64.wrap (x9 + 1)) w1 ∧ m2 (IntKind.i64.wrap (x9 + 1)) w1 < m2 x9 w1)) (
  Q 0 w1)

theorem C_s_prOrder {Q : Int → World → Prop} {a : Sl} {b : Sl} {w : World} (h : V_s_prOrder Q a b w) : Calls Tryz.prog F.s_prOrder #[a.v, b.v] w (Ret [.at (.int .i64)] Q) :=
  mkC (hint := hint) (ann := annOf [(2, ⟨[(9, .int .i64)], [4, 5, 6, 10, 11, 12, 13, 14, 15, 16, 17, 18, 19, 20, 21, 22, 23, 24, 25, 26, 27]⟩)]) (args := [a.v, b.v]) (rs := [.at (.int .i64)]) Tryz.func107 (by kernel_rfl) (by kernel_rfl) h

def V_i_allWithin (Q : Bool → World → Prop) (list : Sl) (low : Int) (high : Int) (w : World) : Prop :=
  NEW T.t_int #[.int .i64 low] w fun (p_low : Addr) w1 =>
  NEW T.t_int #[.int .i64 high] w1 fun (p_high : Addr) w2 =>
  Calls Tryz.prog F.slices_ContainsFunc_sl_int_int #[list.v, .func (.func F.i_allWithin_1) #[] #[.pointer (some p_low), .pointer (some p_high)]] w2 (Ret [.at .bool] fun (x9 : Bool) w3 =>
  Q (!x9) w3)

theorem C_i_allWithin {Q : Bool → World → Prop} {list : Sl} {low : Int} {high : Int} {w : World} (h : V_i_allWithin Q list low high w) : Calls Tryz.prog F.i_allWithin #[list.v, .int .i64 low, .int .i64 high] w (Ret [.at .bool] Q) :=
  mkC (hint := hint) (ann := annOf []) (args := [list.v, .int .i64 low, .int .i64 high]) (rs := [.at .bool]) Tryz.func114 (by kernel_rfl) (by kernel_rfl) h

def V_slices_Clone_sl_int_int (Q : Sl → World → Prop) (s : Sl) (w : World) : Prop :=
  cond s.a.isNone (
  Q (⟨none, 0, 0⟩) w) (
  RUN Tryz.prog (.at .sl) (Instr.buildSlice T.t_sl_int 0 #[]) w fun (x5 : Sl) w1 =>
  RUN Tryz.prog (.at .sl) (bsem .append #[T.t_sl_int, T.t_sl_int] T.t_sl_int #[x5.v, s.v]) w1 fun (x7 : Sl) w2 =>
  Q x7 w2)

theorem C_slices_Clone_sl_int_int {Q : Sl → World → Prop} {s : Sl} {w : World} (h : V_slices_Clone_sl_int_int Q s w) : Calls Tryz.prog F.slices_Clone_sl_int_int #[s.v] w (Ret [.at .sl] Q) :=
  mkC (hint := hint) (ann := annOf []) (args := [s.v]) (rs := [.at .sl]) Tryz.func116 (by kernel_rfl) (by kernel_rfl) h

def V_i_labelsIn (Q : Sl → World → Prop) (set1 : Int) (w : World) : Prop :=
  ∃ (I3 : Sl → Int → World → Prop) (m3 : Sl → Int → World → Nat), I3 (⟨none, 0, 0⟩) 0 w ∧ ∀ (out : Sl) (a : Int) w1, I3 out a w1 → ∀ _ _ _ _ _ _ _ _ _ _ _ _ _ _ _ : Value,
  (0 : Int) ≤ a ∧ (
  cond (((shrI .i64 set1 a) : Int) != 0) (
  (0 : Int) ≤ a ∧ (
  cond (((bitAnd .i64 (shrI .i64 set1 a) 1) : Int) == 1) (
  RUN Tryz.prog (.at .sl) (Instr.buildSlice T.t_sl_int 1 #[(0, .int .i64 a)]) w1 fun (x18 : Sl) w2 =>
  RUN Tryz.prog (.at .sl) (bsem .append #[T.t_sl_int, T.t_sl_int] T.t_sl_int #[out.v, x18.v]) w2 fun (x19 : Sl) w3 =>
  I3 x19 (IntKind.i64.wrap (a + 1)) w3 ∧ m3 x19 (IntKind.i64.wrap (a + 1)) w3 < m3 out a w1) (
  I3 out (IntKind.i64.wrap (a + 1)) w1 ∧ m3 out (IntKind.i64.wrap (a + 1)) w1 < m3 out a w1))) (
  Q out w1))

theorem C_i_labelsIn {Q : Sl → World → Prop} {set1 : Int} {w : World} (h : V_i_labelsIn Q set1 w) : Calls Tryz.prog F.i_labelsIn #[.int .i64 set1] w (Ret [.at .sl] Q) :=
  mkC (hint := hint) (ann := annOf [(3, ⟨[(3, .sl), (4, .int .i64)], [5, 6, 7, 8, 9, 10, 11, 12, 13, 14, 15, 16, 17, 18, 19]⟩)]) (args := [.int .i64 set1]) (rs := [.at .sl]) Tryz.func121 (by kernel_rfl) (by kernel_rfl) h

def V_s_prLists_k4 (I2 : Int → World → Prop) (m2 : Int → World → Nat) (x12 : Int) (w1 : World) (size1 : Int) (Q : Bool → World → Prop) (x16 : Sl) (w4 : World) : Prop :=
  ∃ (I7 : Int → World → Prop) (m7 : Int → World → Nat), I7 1 w4 ∧ ∀ (k : Int) w5, I7 k w5 → ∀ _ _ _ _ _ _ _ _ _ _ _ _ _ _ _ _ : Value,
  cond (decide ((k : Int) < size1)) (
  IX x16 (IntKind.i64.wrap (k - 1)) 1 fun (px50 : Addr) =>
  LD [.int .i64] px50 w5 fun (x51 : Int) =>
  IX x16 k 1 fun (px54 : Addr) =>
  LD [.int .i64] px54 w5 fun (x55 : Int) =>
  ∀ w6, Ext w5 w6 →
  cond (decide ((x51 : Int) > x55)) (
  Q false w6) (
  I7 (IntKind.i64.wrap (k + 1)) w6 ∧ m7 (IntKind.i64.wrap (k + 1)) w6 < m7 k w5)) (
  I2 (IntKind.i64.wrap (x12 + 1)) w5 ∧ m2 (IntKind.i64.wrap (x12 + 1)) w5 < m2 x12 w1)

def V_s_prLists (Q : Bool → World → Prop) (l : Sl) (size1 : Int) (labels : Int) (w : World) : Prop :=
  ∃ (I2 : Int → World → Prop) (m2 : Int → World → Nat), I2 0 w ∧ ∀ (x12 : Int) w1, I2 x12 w1 → ∀ _ _ _ _ _ _ _ _ _ _ _ _ _ _ _ _ _ _ _ _ _ _ _ _ _ _ _ _ _ _ _ _ _ _ _ _ _ _ _ _ _ _ _ _ _ _ _ _ _ : Value,
  cond (decide ((x12 : Int) < l.len)) (
  IX l x12 1 fun (px15 : Addr) =>
  LD [.sl] px15 w1 fun (x16 : Sl) =>
  cond ((x16.len : Int) != size1) (
  Q false w1) (
  Calls Tryz.prog F.s_l1All #[x16.v, .int .i64 0, .int .i64 (IntKind.i64.wrap (labels - 1))] w1 (Ret [.at .bool] fun (x25 : Bool) w2 =>
  cond (!x25) (
  Q false w2) (
  cond (decide ((x12 : Int) > 0)) (
  IX l (IntKind.i64.wrap (x12 - 1)) 1 fun (px35 : Addr) =>
  LD [.sl] px35 w2 fun (x36 : Sl) =>
  Calls Tryz.prog F.s_prOrder #[x36.v, x16.v] w2 (Ret [.at (.int .i64)] fun (x38 : Int) w3 =>
  cond (decide ((x38 : Int) ≥ 0)) (
  Q false w3) (
  V_s_prLists_k4 I2 m2 x12 w1 size1 Q x16 w3))) (
  V_s_prLists_k4 I2 m2 x12 w1 size1 Q x16 w2))))) (
  Q true w1)

theorem C_s_prLists {Q : Bool → World → Prop} {l : Sl} {size1 : Int} {labels : Int} {w : World} (h : V_s_prLists Q l size1 labels w) : Calls Tryz.prog F.s_prLists #[l.v, .int .i64 size1, .int .i64 labels] w (Ret [.at .bool] Q) :=
  mkC (hint := hint) (ann := annOf [(2, ⟨[(12, .int .i64)], [6, 7, 8, 9, 13, 14, 15, 16, 17, 18, 19, 20, 21, 22, 23, 24, 25, 26, 27, 28, 29, 30, 31, 32, 33, 34, 35, 36, 37, 38, 39, 40, 41, 42, 43, 44, 45, 46, 47, 48, 49, 50, 51, 52, 53, 54, 55, 56, 57]⟩), (7, ⟨[(9, .int .i64)], [6, 42, 43, 44, 45, 46, 47, 48, 49, 50, 51, 52, 53, 54, 55, 56]⟩)]) (args := [l.v, .int .i64 size1, .int .i64 labels]) (rs := [.at .bool]) Tryz.func129 (by kernel_rfl) (by kernel_rfl) h

def V_s_maLine (Q : ByteArray → World → Prop) (word : ByteArray) (l : Sl) (w : World) : Prop :=
  ∃ (I2 : ByteArray → Int → World → Prop) (m2 : ByteArray → Int → World → Nat), I2 word 0 w ∧ ∀ (word_2 : ByteArray) (x9 : Int) w1, I2 word_2 x9 w1 → ∀ _ _ _ _ _ _ _ _ _ _ _ _ _ _ : Value,
  cond (decide ((x9 : Int) < l.len)) (
  IX l x9 1 fun (px11 : Addr) =>
  LD [.int .i64] px11 w1 fun (x12 : Int) =>
  cond (decide ((x12 : Int) < 0)) (
  word_2.size + (ByteArray.mk #[32, 42]).size ≤ 9223372036854775807 ∧ (
  I2 (word_2 ++ (ByteArray.mk #[32, 42])) (IntKind.i64.wrap (x9 + 1)) w1 ∧ m2 (word_2 ++ (ByteArray.mk #[32, 42])) (IntKind.i64.wrap (x9 + 1)) w1 < m2 word_2 x9 w1)) (
  Calls Tryz.prog F.s_l1Num #[.int .i64 x12] w1 (Ret [.at .str] fun (x19 : ByteArray) w2 =>
  (ByteArray.mk #[32]).size + x19.size ≤ 9223372036854775807 ∧ (
  word_2.size + ((ByteArray.mk #[32]) ++ x19).size ≤ 9223372036854775807 ∧ (
  I2 (word_2 ++ ((ByteArray.mk #[32]) ++ x19)) (IntKind.i64.wrap (x9 + 1)) w2 ∧ m2 (word_2 ++ ((ByteArray.mk #[32]) ++ x19)) (IntKind.i64.wrap (x9 + 1)) w2 < m2 word_2 x9 w1))))) (
  Q word_2 w1)

theorem C_s_maLine {Q : ByteArray → World → Prop} {word : ByteArray} {l : Sl} {w : World} (h : V_s_maLine Q word l w) : Calls Tryz.prog F.s_maLine #[.string word, l.v] w (Ret [.at .str] Q) :=
  mkC (hint := hint) (ann := annOf [(2, ⟨[(0, .str), (9, .int .i64)], [6, 10, 11, 12, 13, 14, 15, 16, 17, 18, 19, 20, 21, 22]⟩)]) (args := [.string word, l.v]) (rs := [.at .str]) Tryz.func130 (by kernel_rfl) (by kernel_rfl) h

def V_s_boZero (Q : Bool → World → Prop) (p_0 : Int) (p_1 : Int) (p_2 : Sl) (p_3 : Sl) (pairs : Sl) (w : World) : Prop :=
  NEW T.t_i_Problem #[.int .i64 p_0, .int .i64 p_1, p_2.v, p_3.v] w fun (p_p : Addr) w1 =>
  LD [.int .i64, .int .i64, .sl, .sl] p_p w1 fun (x8_0 : Int) (x8_1 : Int) (x8_2 : Sl) (x8_3 : Sl) =>
  Calls Tryz.prog F.s_CheckZeroRefusal #[.agg #[.int .i64 x8_0, .int .i64 x8_1, x8_2.v, x8_3.v], pairs.v] w1 (Ret [.at .bool, .at .bool] fun (x10_0 : Bool) (x10_1 : Bool) w2 =>
  Q x10_0 w2)

theorem C_s_boZero {Q : Bool → World → Prop} {p_0 : Int} {p_1 : Int} {p_2 : Sl} {p_3 : Sl} {pairs : Sl} {w : World} (h : V_s_boZero Q p_0 p_1 p_2 p_3 pairs w) : Calls Tryz.prog F.s_boZero #[.agg #[.int .i64 p_0, .int .i64 p_1, p_2.v, p_3.v], pairs.v] w (Ret [.at .bool] Q) :=
  mkC (hint := hint) (ann := annOf []) (args := [.agg #[.int .i64 p_0, .int .i64 p_1, p_2.v, p_3.v], pairs.v]) (rs := [.at .bool]) Tryz.func131 (by kernel_rfl) (by kernel_rfl) h

def V_s_boStep (Q : Bool → World → Prop) (p_0 : Int) (p_1 : Int) (p_2 : Sl) (p_3 : Sl) (q_0 : Int) (q_1 : Int) (q_2 : Sl) (q_3 : Sl) (f : Sl) (w : World) : Prop :=
  NEW T.t_i_Problem #[.int .i64 p_0, .int .i64 p_1, p_2.v, p_3.v] w fun (p_p : Addr) w1 =>
  NEW T.t_i_Problem #[.int .i64 q_0, .int .i64 q_1, q_2.v, q_3.v] w1 fun (p_q : Addr) w2 =>
  LD [.int .i64, .int .i64, .sl, .sl] p_p w2 fun (x12_0 : Int) (x12_1 : Int) (x12_2 : Sl) (x12_3 : Sl) =>
  Calls Tryz.prog F.s_EliminateRound #[.agg #[.int .i64 x12_0, .int .i64 x12_1, x12_2.v, x12_3.v]] w2 (Ret [.agg [.int .i64, .int .i64, .sl, .sl], .at .sl, .at .sl, .at .bool] fun (x13_0_0 : Int) (x13_0_1 : Int) (x13_0_2 : Sl) (x13_0_3 : Sl) (x13_1 : Sl) (x13_2 : Sl) (x13_3 : Bool) w3 =>
  NEW T.t_i_Problem #[.int .i64 0, .int .i64 0, .slice none 0 0, .slice none 0 0] w3 fun (p_r : Addr) w4 =>
  ST p_r 0 [.int .i64 x13_0_0, .int .i64 x13_0_1, x13_0_2.v, x13_0_3.v] w4 fun w5 =>
  cond x13_3 (
  LD [.int .i64, .int .i64, .sl, .sl] p_r w5 fun (x20_0 : Int) (x20_1 : Int) (x20_2 : Sl) (x20_3 : Sl) =>
  LD [.int .i64, .int .i64, .sl, .sl] p_q w5 fun (x21_0 : Int) (x21_1 : Int) (x21_2 : Sl) (x21_3 : Sl) =>
  Calls Tryz.prog F.s_reMap #[.agg #[.int .i64 x20_0, .int .i64 x20_1, x20_2.v, x20_3.v], .agg #[.int .i64 x21_0, .int .i64 x21_1, x21_2.v, x21_3.v], f.v] w5 (Ret [.at .bool] fun (x23 : Bool) w6 =>
  Q x23 w6)) (
  Q false w5))

theorem C_s_boStep {Q : Bool → World → Prop} {p_0 : Int} {p_1 : Int} {p_2 : Sl} {p_3 : Sl} {q_0 : Int} {q_1 : Int} {q_2 : Sl} {q_3 : Sl} {f : Sl} {w : World} (h : V_s_boStep Q p_0 p_1 p_2 p_3 q_0 q_1 q_2 q_3 f w) : Calls Tryz.prog F.s_boStep #[.agg #[.int .i64 p_0, .int .i64 p_1, p_2.v, p_3.v], .agg #[.int .i64 q_0, .int .i64 q_1, q_2.v, q_3.v], f.v] w (Ret [.at .bool] Q) :=
  mkC (hint := hint) (ann := annOf []) (args := [.agg #[.int .i64 p_0, .int .i64 p_1, p_2.v, p_3.v], .agg #[.int .i64 q_0, .int .i64 q_1, q_2.v, q_3.v], f.v]) (rs := [.at .bool]) Tryz.func132 (by kernel_rfl) (by kernel_rfl) h

def V_s_l1Num (Q : ByteArray → World → Prop) (n : Int) (w : World) : Prop :=
  cond (decide ((n : Int) < 10)) (
  RUN Tryz.prog (.at .sl) (Instr.buildSlice T.t_sl_uint8 1 #[(0, .int .u8 (IntKind.u8.wrap (IntKind.i64.wrap (48 + n))))]) w fun (x8 : Sl) w1 =>
  RUN Tryz.prog (.at .str) (convert T.t_sl_uint8 T.t_string (x8.v)) w1 fun (x9 : ByteArray) w2 =>
  Q x9 w2) (
  ∀ w3, Ext w w3 → w3.heap = w.heap →
  (10 : Int) ≠ 0 ∧ (
  (10 : Int) ≠ 0 ∧ (
  (
  Calls Tryz.prog F.s_l1Num #[.int .i64 (IntKind.i64.wrap (Int.tdiv n 10))] w3 (Ret [.at .str] fun (x12 : ByteArray) w4 =>
  Ext w3 w4 ∧ (
  Ext w4 w4 ∧ (
  RUN Tryz.prog (.at .sl) (Instr.buildSlice T.t_sl_uint8 1 #[(0, .int .u8 (IntKind.u8.wrap (IntKind.i64.wrap (48 + (Int.tmod n 10)))))]) w4 fun (x17 : Sl) w5 =>
  Ext w4 w5 ∧ (
  RUN Tryz.prog (.at .str) (convert T.t_sl_uint8 T.t_string (x17.v)) w5 fun (x18 : ByteArray) w6 =>
  Ext w5 w6 ∧ (
  x12.size + x18.size ≤ 9223372036854775807 ∧ (
  Ext w6 w6 ∧ (
  Ext w6 w6 ∧ (
  Q (x12 ++ x18) w6))))))))) ∧ (
  Ext w3 w3 ∧ (
  (
  Calls Tryz.prog F.s_l1Num #[.int .i64 (IntKind.i64.wrap (Int.tdiv n 10))] w3 (Ret [.at .str] fun (x12_2 : ByteArray) w7 =>
  Ext w3 w7 ∧ (
  RUN Tryz.prog (.at .sl) (Instr.buildSlice T.t_sl_uint8 1 #[(0, .int .u8 (IntKind.u8.wrap (IntKind.i64.wrap (48 + (Int.tmod n 10)))))]) w7 fun (x17_2 : Sl) w8 =>
  Ext w7 w8 ∧ (
  RUN Tryz.prog (.at .str) (convert T.t_sl_uint8 T.t_string (x17_2.v)) w8 fun (x18_2 : ByteArray) w9 =>
  Ext w8 w9 ∧ (
  x12_2.size + x18_2.size ≤ 9223372036854775807 ∧ (
  Ext w9 w9 ∧ (
  Ext w9 w9 ∧ (
  Q (x12_2 ++ x18_2) w9)))))))) ∧ (
  RUN Tryz.prog (.at .sl) (Instr.buildSlice T.t_sl_uint8 1 #[(0, .int .u8 (IntKind.u8.wrap (IntKind.i64.wrap (48 + (Int.tmod n 10)))))]) w3 fun (x17_3 : Sl) w10 =>
  Ext w3 w10 ∧ (
  (
  Calls Tryz.prog F.s_l1Num #[.int .i64 (IntKind.i64.wrap (Int.tdiv n 10))] w10 (Ret [.at .str] fun (x12_3 : ByteArray) w11 =>
  Ext w10 w11 ∧ (
  RUN Tryz.prog (.at .str) (convert T.t_sl_uint8 T.t_string (x17_3.v)) w11 fun (x18_3 : ByteArray) w12 =>
  Ext w11 w12 ∧ (
  x12_3.size + x18_3.size ≤ 9223372036854775807 ∧ (
  Ext w12 w12 ∧ (
  Ext w12 w12 ∧ (
  Q (x12_3 ++ x18_3) w12))))))) ∧ (
  RUN Tryz.prog (.at .str) (convert T.t_sl_uint8 T.t_string (x17_3.v)) w10 fun (x18_4 : ByteArray) w13 =>
  Ext w10 w13 ∧ (
  Calls Tryz.prog F.s_l1Num #[.int .i64 (IntKind.i64.wrap (Int.tdiv n 10))] w13 (Ret [.at .str] fun (x12_4 : ByteArray) w14 =>
  Ext w13 w14 ∧ (
  x12_4.size + x18_4.size ≤ 9223372036854775807 ∧ (
  Ext w14 w14 ∧ (
  Ext w14 w14 ∧ (
  Q (x12_4 ++ x18_4) w14))))))))))))))

theorem C_s_l1Num {Q : ByteArray → World → Prop} {n : Int} {w : World} (h : V_s_l1Num Q n w) : Calls Tryz.prog F.s_l1Num #[.int .i64 n] w (Ret [.at .str] Q) :=
  mkC (hint := hint) (ann := annOf []) (args := [.int .i64 n]) (rs := [.at .str]) Tryz.func133 (by kernel_rfl) (by kernel_rfl) h

def V_i_readNumber (Q : Int → Bool → World → Prop) (s : ByteArray) (w : World) : Prop :=
  cond (decide ((s.size : Int) < 1)) (
  Q 0 false w) (
  cond (decide ((s.size : Int) > 6)) (
  Q 0 false w) (
  Calls Tryz.prog F.strconv_Atoi #[.string s] w (Ret [.at (.int .i64), .at .val] fun (x16_0_2 : Int) (x16_1_2 : Value) w3 =>
  AEQ Tryz.prog (do eqGuard .neq T.t_error (.tmp 19) (.const (.nilIface)) (x16_1_2) (.nilIface); binOp .neq T.t_error (x16_1_2) (.nilIface)) fun (x20_2 : Bool) =>
  cond x20_2 (
  Q 0 false w3) (
  cond (decide ((x16_0_2 : Int) < 0)) (
  Q 0 false w3) (
  Calls Tryz.prog F.strconv_Itoa #[.int .i64 x16_0_2] w3 (Ret [.at .str] fun (x27_2 : ByteArray) w4 =>
  cond (!(x27_2.toList == s.toList)) (
  Q 0 false w4) (
  Q x16_0_2 true w4)))))))

theorem C_i_readNumber {Q : Int → Bool → World → Prop} {s : ByteArray} {w : World} (h : V_i_readNumber Q s w) : Calls Tryz.prog F.i_readNumber #[.string s] w (Ret [.at (.int .i64), .at .bool] Q) :=
  mkC (hint := hint) (ann := annOf []) (args := [.string s]) (rs := [.at (.int .i64), .at .bool]) Tryz.func136 (by kernel_rfl) (by kernel_rfl) h

def V_i_CheckBound (Q : Bool → Bool → World → Prop) (b_0 : Sl) (b_1 : Sl) (b_2 : Sl) (w : World) : Prop :=
  NEW T.t_i_Bound #[b_0.v, b_1.v, b_2.v] w fun (p_b : Addr) w1 =>
  LD [.sl] (p_b.add 0) w1 fun (x5 : Sl) =>
  Calls Tryz.prog F.i_problemsOk #[x5.v] w1 (Ret [.at .bool] fun (x6 : Bool) w2 =>
  cond (!x6) (
  Q false false w2) (
  LD [.sl, .sl, .sl] p_b w2 fun (x8_0 : Sl) (x8_1 : Sl) (x8_2 : Sl) =>
  Calls Tryz.prog F.i_isRightBound #[.agg #[x8_0.v, x8_1.v, x8_2.v]] w2 (Ret [.at .bool] fun (x9 : Bool) w3 =>
  Q x9 true w3)))

theorem C_i_CheckBound {Q : Bool → Bool → World → Prop} {b_0 : Sl} {b_1 : Sl} {b_2 : Sl} {w : World} (h : V_i_CheckBound Q b_0 b_1 b_2 w) : Calls Tryz.prog F.i_CheckBound #[.agg #[b_0.v, b_1.v, b_2.v]] w (Ret [.at .bool, .at .bool] Q) :=
  mkC (hint := hint) (ann := annOf []) (args := [.agg #[b_0.v, b_1.v, b_2.v]]) (rs := [.at .bool, .at .bool]) Tryz.func137 (by kernel_rfl) (by kernel_rfl) h

def V_s_l1Sign (Q : Int → World → Prop) (n : Int) (w : World) : Prop :=
  cond (decide ((n : Int) > 0)) (
  Q 1 w) (
  cond (decide ((n : Int) < 0)) (
  Q (-1) w) (
  Q 0 w))

theorem C_s_l1Sign {Q : Int → World → Prop} {n : Int} {w : World} (h : V_s_l1Sign Q n w) : Calls Tryz.prog F.s_l1Sign #[.int .i64 n] w (Ret [.at (.int .i64)] Q) :=
  mkC (hint := hint) (ann := annOf []) (args := [.int .i64 n]) (rs := [.at (.int .i64)]) Tryz.func141 (by kernel_rfl) (by kernel_rfl) h

def V_s_l1Put_k4 (l : Sl) (n : Int) (Q : Sl → World → Prop) (k : Int) (w3 : World) : Prop :=
  RUN Tryz.prog (.at .sl) (Instr.buildSlice T.t_sl_int 0 #[]) w3 fun (x34 : Sl) w4 =>
  SLC l none (some k) 1 fun (x37 : Sl) =>
  RUN Tryz.prog (.at .sl) (bsem .append #[T.t_sl_int, T.t_sl_int] T.t_sl_int #[x34.v, x37.v]) w4 fun (x38 : Sl) w5 =>
  RUN Tryz.prog (.at .sl) (Instr.buildSlice T.t_sl_int 1 #[(0, .int .i64 n)]) w5 fun (x41 : Sl) w6 =>
  RUN Tryz.prog (.at .sl) (bsem .append #[T.t_sl_int, T.t_sl_int] T.t_sl_int #[x38.v, x41.v]) w6 fun (x42 : Sl) w7 =>
  SLC l (some k) none 1 fun (x46 : Sl) =>
  RUN Tryz.prog (.at .sl) (bsem .append #[T.t_sl_int, T.t_sl_int] T.t_sl_int #[x42.v, x46.v]) w7 fun (x47 : Sl) w8 =>
  Q x47 w8

def V_s_l1Put_k1 (l : Sl) (n : Int) (Q : Sl → World → Prop) (k : Int) (w2 : World) : Prop :=
  cond (decide ((k : Int) < l.len)) (
  IX l k 1 fun (px28 : Addr) =>
  LD [.int .i64] px28 w2 fun (x29 : Int) =>
  cond ((x29 : Int) == n) (
  Q l w2) (
  V_s_l1Put_k4 l n Q k w2)) (
  V_s_l1Put_k4 l n Q k w2)

def V_s_l1Put (Q : Sl → World → Prop) (l : Sl) (n : Int) (w : World) : Prop :=
  ∃ (I2 : Int → World → Prop) (m2 : Int → World → Nat), I2 0 w ∧ ∀ (k : Int) w1, I2 k w1 → ∀ _ _ _ _ _ _ _ _ _ _ _ _ _ _ : Value,
  cond (decide ((k : Int) < l.len)) (
  IX l k 1 fun (px14 : Addr) =>
  LD [.int .i64] px14 w1 fun (x15 : Int) =>
  cond (decide ((x15 : Int) < n)) (
  I2 (IntKind.i64.wrap (k + 1)) w1 ∧ m2 (IntKind.i64.wrap (k + 1)) w1 < m2 k w1) (
  V_s_l1Put_k1 l n Q k w1)) (
  V_s_l1Put_k1 l n Q k w1)

theorem C_s_l1Put {Q : Sl → World → Prop} {l : Sl} {n : Int} {w : World} (h : V_s_l1Put Q l n w) : Calls Tryz.prog F.s_l1Put #[l.v, .int .i64 n] w (Ret [.at .sl] Q) :=
  mkC (hint := hint) (ann := annOf [(2, ⟨[(5, .int .i64)], [7, 8, 9, 10, 11, 12, 13, 14, 15, 16, 17, 18, 19, 20]⟩)]) (args := [l.v, .int .i64 n]) (rs := [.at .sl]) Tryz.func143 (by kernel_rfl) (by kernel_rfl) h

def V_slices_ContainsFunc_sl_int_int (Q : Bool → World → Prop) (s : Sl) (f : Value) (w : World) : Prop :=
  Calls Tryz.prog F.slices_IndexFunc_sl_int_int #[s.v, f] w (Ret [.at (.int .i64)] fun (x7 : Int) w1 =>
  Q (decide ((x7 : Int) ≥ 0)) w1)

theorem C_slices_ContainsFunc_sl_int_int {Q : Bool → World → Prop} {s : Sl} {f : Value} {w : World} (h : V_slices_ContainsFunc_sl_int_int Q s f w) : Calls Tryz.prog F.slices_ContainsFunc_sl_int_int #[s.v, f] w (Ret [.at .bool] Q) :=
  mkC (hint := hint) (ann := annOf []) (args := [s.v, f]) (rs := [.at .bool]) Tryz.func147 (by kernel_rfl) (by kernel_rfl) h

def V_i_allWithin_1 (Q : Bool → World → Prop) (n : Int) (cap0 : Addr) (cap1 : Addr) (w : World) : Prop :=
  LD [.int .i64] cap0 w fun (x6 : Int) =>
  LD [.int .i64] cap1 w fun (x7 : Int) =>
  Calls Tryz.prog F.i_within #[.int .i64 n, .int .i64 x6, .int .i64 x7] w (Ret [.at .bool] fun (x8 : Bool) w1 =>
  Q (!x8) w1)

theorem C_i_allWithin_1 {Q : Bool → World → Prop} {n : Int} {cap0 : Addr} {cap1 : Addr} {w : World} (h : V_i_allWithin_1 Q n cap0 cap1 w) : Calls Tryz.prog F.i_allWithin_1 #[.int .i64 n, .pointer (some cap0), .pointer (some cap1)] w (Ret [.at .bool] Q) :=
  mkC (hint := hint) (ann := annOf []) (args := [.int .i64 n, .pointer (some cap0), .pointer (some cap1)]) (rs := [.at .bool]) Tryz.func148 (by kernel_rfl) (by kernel_rfl) h

def V_slices_Contains_sl_int_int (Q : Bool → World → Prop) (s : Sl) (v : Int) (w : World) : Prop :=
  Calls Tryz.prog F.slices_Index_sl_int_int #[s.v, .int .i64 v] w (Ret [.at (.int .i64)] fun (x7 : Int) w1 =>
  Q (decide ((x7 : Int) ≥ 0)) w1)

theorem C_slices_Contains_sl_int_int {Q : Bool → World → Prop} {s : Sl} {v : Int} {w : World} (h : V_slices_Contains_sl_int_int Q s v w) : Calls Tryz.prog F.slices_Contains_sl_int_int #[s.v, .int .i64 v] w (Ret [.at .bool] Q) :=
  mkC (hint := hint) (ann := annOf []) (args := [s.v, .int .i64 v]) (rs := [.at .bool]) Tryz.func151 (by kernel_rfl) (by kernel_rfl) h

def V_s_CheckZeroRefusal (Q : Bool → Bool → World → Prop) (p_0 : Int) (p_1 : Int) (p_2 : Sl) (p_3 : Sl) (pairs : Sl) (w : World) : Prop :=
  NEW T.t_i_Problem #[.int .i64 p_0, .int .i64 p_1, p_2.v, p_3.v] w fun (p_p : Addr) w1 =>
  LD [.int .i64, .int .i64, .sl, .sl] p_p w1 fun (x8_0 : Int) (x8_1 : Int) (x8_2 : Sl) (x8_3 : Sl) =>
  Calls Tryz.prog F.s_prGood #[.agg #[.int .i64 x8_0, .int .i64 x8_1, x8_2.v, x8_3.v]] w1 (Ret [.at .bool] fun (x9 : Bool) w2 =>
  cond (!x9) (
  Q false false w2) (
  LD [.sl] (p_p.add 2) w2 fun (x14 : Sl) =>
  cond ((pairs.len : Int) != x14.len) (
  Q false true w2) (
  LD [.sl] (p_p.add 2) w2 fun (x18 : Sl) =>
  ∃ (I6 : Int → World → Prop) (m6 : Int → World → Nat), I6 0 w2 ∧ ∀ (x20 : Int) w3, I6 x20 w3 → ∀ _ _ _ _ _ _ _ _ _ _ _ _ _ _ _ _ _ _ : Value,
  cond (decide ((x20 : Int) < x18.len)) (
  IX x18 x20 1 fun (px23 : Addr) =>
  LD [.sl] px23 w3 fun (x24 : Sl) =>
  LD [.int .i64, .int .i64, .sl, .sl] p_p w3 fun (x25_0 : Int) (x25_1 : Int) (x25_2 : Sl) (x25_3 : Sl) =>
  IX pairs x20 1 fun (px28 : Addr) =>
  LD [.sl] px28 w3 fun (x29 : Sl) =>
  QCALL Tryz.prog F.s_zeTwo #[.agg #[.int .i64 x25_0, .int .i64 x25_1, x25_2.v, x25_3.v], x29.v, x24.v, x24.v] w3 [.at .bool] fun (x32 : Bool) =>
  ∀ w4, Ext w3 w4 →
  cond (!x32) (
  Q false true w4) (
  I6 (IntKind.i64.wrap (x20 + 1)) w4 ∧ m6 (IntKind.i64.wrap (x20 + 1)) w4 < m6 x20 w3)) (
  Q true true w3))))

theorem C_s_CheckZeroRefusal {Q : Bool → Bool → World → Prop} {p_0 : Int} {p_1 : Int} {p_2 : Sl} {p_3 : Sl} {pairs : Sl} {w : World} (h : V_s_CheckZeroRefusal Q p_0 p_1 p_2 p_3 pairs w) : Calls Tryz.prog F.s_CheckZeroRefusal #[.agg #[.int .i64 p_0, .int .i64 p_1, p_2.v, p_3.v], pairs.v] w (Ret [.at .bool, .at .bool] Q) :=
  mkC (hint := hint) (ann := annOf [(6, ⟨[(20, .int .i64)], [4, 5, 6, 7, 21, 22, 23, 24, 25, 26, 27, 28, 29, 30, 31, 32, 33, 34]⟩)]) (args := [.agg #[.int .i64 p_0, .int .i64 p_1, p_2.v, p_3.v], pairs.v]) (rs := [.at .bool, .at .bool]) Tryz.func165 (by kernel_rfl) (by kernel_rfl) h

def V_s_EliminateRound (Q : Int → Int → Sl → Sl → Sl → Sl → Bool → World → Prop) (p_0 : Int) (p_1 : Int) (p_2 : Sl) (p_3 : Sl) (w : World) : Prop :=
  NEW T.t_i_Problem #[.int .i64 p_0, .int .i64 p_1, p_2.v, p_3.v] w fun (p_p : Addr) w1 =>
  NEW T.t_i_Problem #[.int .i64 0, .int .i64 0, .slice none 0 0, .slice none 0 0] w1 fun (px2 : Addr) w2 =>
  LD [.int .i64, .int .i64, .sl, .sl] p_p w2 fun (x13_0 : Int) (x13_1 : Int) (x13_2 : Sl) (x13_3 : Sl) =>
  Calls Tryz.prog F.s_EdgeStep #[.agg #[.int .i64 x13_0, .int .i64 x13_1, x13_2.v, x13_3.v]] w2 (Ret [.agg [.int .i64, .int .i64, .sl, .sl], .at .sl, .at .bool] fun (x14_0_0 : Int) (x14_0_1 : Int) (x14_0_2 : Sl) (x14_0_3 : Sl) (x14_1 : Sl) (x14_2 : Bool) w3 =>
  NEW T.t_i_Problem #[.int .i64 0, .int .i64 0, .slice none 0 0, .slice none 0 0] w3 fun (p_q : Addr) w4 =>
  ST p_q 0 [.int .i64 x14_0_0, .int .i64 x14_0_1, x14_0_2.v, x14_0_3.v] w4 fun w5 =>
  cond (!x14_2) (
  ST px2 0 [.int .i64 0, .int .i64 0, .slice none 0 0, .slice none 0 0] w5 fun w6 =>
  LD [.int .i64, .int .i64, .sl, .sl] px2 w6 fun (r0_0 : Int) (r0_1 : Int) (r0_2 : Sl) (r0_3 : Sl) =>
  Q r0_0 r0_1 r0_2 r0_3 (⟨none, 0, 0⟩) (⟨none, 0, 0⟩) false w6) (
  LD [.int .i64, .int .i64, .sl, .sl] p_q w5 fun (x22_0 : Int) (x22_1 : Int) (x22_2 : Sl) (x22_3 : Sl) =>
  Calls Tryz.prog F.s_elNode #[.agg #[.int .i64 x22_0, .int .i64 x22_1, x22_2.v, x22_3.v]] w5 (Ret [.agg [.int .i64, .int .i64, .sl, .sl], .at .sl, .at .bool] fun (x23_0_0 : Int) (x23_0_1 : Int) (x23_0_2 : Sl) (x23_0_3 : Sl) (x23_1 : Sl) (x23_2 : Bool) w7 =>
  NEW T.t_i_Problem #[.int .i64 0, .int .i64 0, .slice none 0 0, .slice none 0 0] w7 fun (p_r : Addr) w8 =>
  ST p_r 0 [.int .i64 x23_0_0, .int .i64 x23_0_1, x23_0_2.v, x23_0_3.v] w8 fun w9 =>
  cond (!x23_2) (
  ST px2 0 [.int .i64 0, .int .i64 0, .slice none 0 0, .slice none 0 0] w9 fun w10 =>
  LD [.int .i64, .int .i64, .sl, .sl] px2 w10 fun (r0_0_2 : Int) (r0_1_2 : Int) (r0_2_2 : Sl) (r0_3_2 : Sl) =>
  Q r0_0_2 r0_1_2 r0_2_2 r0_3_2 (⟨none, 0, 0⟩) (⟨none, 0, 0⟩) false w10) (
  LD [.int .i64, .int .i64, .sl, .sl] p_r w9 fun (x30_0 : Int) (x30_1 : Int) (x30_2 : Sl) (x30_3 : Sl) =>
  ST px2 0 [.int .i64 x30_0, .int .i64 x30_1, x30_2.v, x30_3.v] w9 fun w11 =>
  LD [.int .i64, .int .i64, .sl, .sl] px2 w11 fun (r0_0_3 : Int) (r0_1_3 : Int) (r0_2_3 : Sl) (r0_3_3 : Sl) =>
  Q r0_0_3 r0_1_3 r0_2_3 r0_3_3 x14_1 x23_1 true w11))))

theorem C_s_EliminateRound {Q : Int → Int → Sl → Sl → Sl → Sl → Bool → World → Prop} {p_0 : Int} {p_1 : Int} {p_2 : Sl} {p_3 : Sl} {w : World} (h : V_s_EliminateRound Q p_0 p_1 p_2 p_3 w) : Calls Tryz.prog F.s_EliminateRound #[.agg #[.int .i64 p_0, .int .i64 p_1, p_2.v, p_3.v]] w (Ret [.agg [.int .i64, .int .i64, .sl, .sl], .at .sl, .at .sl, .at .bool] Q) :=
  mkC (hint := hint) (ann := annOf []) (args := [.agg #[.int .i64 p_0, .int .i64 p_1, p_2.v, p_3.v]]) (rs := [.agg [.int .i64, .int .i64, .sl, .sl], .at .sl, .at .sl, .at .bool]) Tryz.func166 (by kernel_rfl) (by kernel_rfl) h

def V_s_reMap (Q : Bool → World → Prop) (p_0 : Int) (p_1 : Int) (p_2 : Sl) (p_3 : Sl) (q_0 : Int) (q_1 : Int) (q_2 : Sl) (q_3 : Sl) (f : Sl) (w : World) : Prop :=
  NEW T.t_i_Problem #[.int .i64 p_0, .int .i64 p_1, p_2.v, p_3.v] w fun (p_p : Addr) w1 =>
  NEW T.t_i_Problem #[.int .i64 q_0, .int .i64 q_1, q_2.v, q_3.v] w1 fun (p_q : Addr) w2 =>
  LD [.int .i64] (p_p.add 0) w2 fun (x10 : Int) =>
  cond ((f.len : Int) == x10) (
  LD [.int .i64] (p_q.add 0) w2 fun (x15 : Int) =>
  Calls Tryz.prog F.s_l1All #[f.v, .int .i64 0, .int .i64 (IntKind.i64.wrap (x15 - 1))] w2 (Ret [.at .bool] fun (x17 : Bool) w3 =>
  cond x17 (
  LD [.sl] (p_p.add 2) w3 fun (x21 : Sl) =>
  LD [.sl] (p_q.add 2) w3 fun (x23 : Sl) =>
  Calls Tryz.prog F.s_reInto #[x21.v, x23.v, f.v] w3 (Ret [.at .bool] fun (x25 : Bool) w4 =>
  cond x25 (
  LD [.sl] (p_p.add 3) w4 fun (x29 : Sl) =>
  LD [.sl] (p_q.add 3) w4 fun (x31 : Sl) =>
  Calls Tryz.prog F.s_reInto #[x29.v, x31.v, f.v] w4 (Ret [.at .bool] fun (x33 : Bool) w5 =>
  Q x33 w5)) (
  Q false w4))) (
  Q false w3))) (
  Q false w2)

theorem C_s_reMap {Q : Bool → World → Prop} {p_0 : Int} {p_1 : Int} {p_2 : Sl} {p_3 : Sl} {q_0 : Int} {q_1 : Int} {q_2 : Sl} {q_3 : Sl} {f : Sl} {w : World} (h : V_s_reMap Q p_0 p_1 p_2 p_3 q_0 q_1 q_2 q_3 f w) : Calls Tryz.prog F.s_reMap #[.agg #[.int .i64 p_0, .int .i64 p_1, p_2.v, p_3.v], .agg #[.int .i64 q_0, .int .i64 q_1, q_2.v, q_3.v], f.v] w (Ret [.at .bool] Q) :=
  mkC (hint := hint) (ann := annOf []) (args := [.agg #[.int .i64 p_0, .int .i64 p_1, p_2.v, p_3.v], .agg #[.int .i64 q_0, .int .i64 q_1, q_2.v, q_3.v], f.v]) (rs := [.at .bool]) Tryz.func167 (by kernel_rfl) (by kernel_rfl) h

def V_i_problemsOk (Q : Bool → World → Prop) (ps : Sl) (w : World) : Prop :=
  NEW T.t_sl_i_Problem #[ps.v] w fun (p_ps : Addr) w1 =>
  LD [.sl] p_ps w1 fun (x3 : Sl) =>
  Calls Tryz.prog F.i_within #[.int .i64 x3.len, .int .i64 1, .int .i64 7] w1 (Ret [.at .bool] fun (x5 : Bool) w2 =>
  cond (!x5) (
  Q false w2) (
  LD [.sl] p_ps w2 fun (x7 : Sl) =>
  Calls Tryz.prog F.slices_ContainsFunc_sl_i_Problem_i_Problem #[x7.v, .func (.func F.i_problemsOk_1) #[] #[.pointer (some p_ps)]] w2 (Ret [.at .bool] fun (x9 : Bool) w3 =>
  Q (!x9) w3)))

theorem C_i_problemsOk {Q : Bool → World → Prop} {ps : Sl} {w : World} (h : V_i_problemsOk Q ps w) : Calls Tryz.prog F.i_problemsOk #[ps.v] w (Ret [.at .bool] Q) :=
  mkC (hint := hint) (ann := annOf []) (args := [ps.v]) (rs := [.at .bool]) Tryz.func173 (by kernel_rfl) (by kernel_rfl) h

def V_i_isRightBound (Q : Bool → World → Prop) (b_0 : Sl) (b_1 : Sl) (b_2 : Sl) (w : World) : Prop :=
  NEW T.t_i_Bound #[b_0.v, b_1.v, b_2.v] w fun (p_b : Addr) w1 =>
  LD [.sl] (p_b.add 0) w1 fun (x11 : Sl) =>
  LD [.sl] (p_b.add 1) w1 fun (x15 : Sl) =>
  cond ((x15.len : Int) != (IntKind.i64.wrap (x11.len - 1))) (
  Q false w1) (
  LD [.sl] (p_b.add 1) w1 fun (x20 : Sl) =>
  ∃ (I5 : Int → World → Prop) (m5 : Int → World → Nat), I5 0 w1 ∧ ∀ (x22 : Int) w2, I5 x22 w2 → ∀ _ _ _ _ _ _ _ _ _ _ _ _ _ _ _ _ _ _ _ _ _ _ _ _ _ _ _ _ _ _ _ _ _ _ _ _ _ : Value,
  cond (decide ((x22 : Int) < x20.len)) (
  IX x20 x22 1 fun (px25 : Addr) =>
  LD [.sl] px25 w2 fun (x26 : Sl) =>
  LD [.sl] (p_b.add 0) w2 fun (x29 : Sl) =>
  IX x29 x22 4 fun (px31 : Addr) =>
  LD [.int .i64, .int .i64, .sl, .sl] px31 w2 fun (x32_0 : Int) (x32_1 : Int) (x32_2 : Sl) (x32_3 : Sl) =>
  Calls Tryz.prog F.i_eliminate #[.agg #[.int .i64 x32_0, .int .i64 x32_1, x32_2.v, x32_3.v]] w2 (Ret [.agg [.int .i64, .int .i64, .sl, .sl], .at .sl, .at .sl, .at .bool] fun (x33_0_0 : Int) (x33_0_1 : Int) (x33_0_2 : Sl) (x33_0_3 : Sl) (x33_1 : Sl) (x33_2 : Sl) (x33_3 : Bool) w3 =>
  NEW T.t_i_Problem #[.int .i64 0, .int .i64 0, .slice none 0 0, .slice none 0 0] w3 fun (p_q : Addr) w4 =>
  ST p_q 0 [.int .i64 x33_0_0, .int .i64 x33_0_1, x33_0_2.v, x33_0_3.v] w4 fun w5 =>
  cond (!x33_3) (
  ∀ w6, Ext w5 w6 →
  Q false w6) (
  LD [.int .i64, .int .i64, .sl, .sl] p_q w5 fun (x41_0 : Int) (x41_1 : Int) (x41_2 : Sl) (x41_3 : Sl) =>
  LD [.sl] (p_b.add 0) w5 fun (x43 : Sl) =>
  IX x43 (IntKind.i64.wrap (x22 + 1)) 4 fun (px46 : Addr) =>
  LD [.int .i64, .int .i64, .sl, .sl] px46 w5 fun (x47_0 : Int) (x47_1 : Int) (x47_2 : Sl) (x47_3 : Sl) =>
  QCALL Tryz.prog F.i_isLabelMap #[.agg #[.int .i64 x41_0, .int .i64 x41_1, x41_2.v, x41_3.v], .agg #[.int .i64 x47_0, .int .i64 x47_1, x47_2.v, x47_3.v], x26.v] w5 [.at .bool] fun (x49 : Bool) =>
  ∀ w7, Ext w5 w7 →
  cond (!x49) (
  Q false w7) (
  I5 (IntKind.i64.wrap (x22 + 1)) w7 ∧ m5 (IntKind.i64.wrap (x22 + 1)) w7 < m5 x22 w2)))) (
  LD [.sl] (p_b.add 0) w2 fun (x54 : Sl) =>
  IX x54 (IntKind.i64.wrap (x11.len - 1)) 4 fun (px56 : Addr) =>
  LD [.int .i64, .int .i64, .sl, .sl] px56 w2 fun (x57_0 : Int) (x57_1 : Int) (x57_2 : Sl) (x57_3 : Sl) =>
  LD [.sl] (p_b.add 2) w2 fun (x59 : Sl) =>
  QCALL Tryz.prog F.i_isZeroRefusal #[.agg #[.int .i64 x57_0, .int .i64 x57_1, x57_2.v, x57_3.v], x59.v] w2 [.at .bool] fun (x60 : Bool) =>
  ∀ w8, Ext w2 w8 →
  Q x60 w8))

theorem C_i_isRightBound {Q : Bool → World → Prop} {b_0 : Sl} {b_1 : Sl} {b_2 : Sl} {w : World} (h : V_i_isRightBound Q b_0 b_1 b_2 w) : Calls Tryz.prog F.i_isRightBound #[.agg #[b_0.v, b_1.v, b_2.v]] w (Ret [.at .bool] Q) :=
  mkC (hint := hint) (ann := annOf [(5, ⟨[(22, .int .i64)], [2, 4, 5, 6, 7, 8, 9, 23, 24, 25, 26, 27, 28, 29, 30, 31, 32, 33, 34, 35, 36, 37, 38, 39, 40, 41, 42, 43, 44, 45, 46, 47, 48, 49, 50, 51, 52]⟩)]) (args := [.agg #[b_0.v, b_1.v, b_2.v]]) (rs := [.at .bool]) Tryz.func174 (by kernel_rfl) (by kernel_rfl) h

end Go.Proofs.YtaeledhbkdakcaaGreatDoor
end
