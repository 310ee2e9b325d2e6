/- What each function's code computes to. Printed by a program. -/
import Derived.Test.YtcilbmkieclelaaNames
namespace Go.Proofs.Ytcilbmkieclelaa
open Go.GX Go.RowKit
set_option linter.unusedVariables false
set_option maxRecDepth 100000

def V_i_isIndependent_1 (Q : Bool → World → Prop) (e_0 : Int) (e_1 : Int) (e_2 : Int) (e_3 : Int) (cap0 : Addr) (w : World) : Prop :=
  NEW T.t_i_edge #[.int .i64 e_0, .int .i64 e_1, .int .i64 e_2, .int .i64 e_3] w fun (p_e : Addr) w1 =>
  LD [.sl] cap0 w1 fun (x4 : Sl) =>
  LD [.int .i64] (p_e.add 0) w1 fun (x6 : Int) =>
  Calls Try.prog F.slices_Contains_sl_int_int #[x4.v, .int .i64 x6] w1 (Ret [.at .bool] fun (x7 : Bool) w2 =>
  cond x7 (
  LD [.sl] cap0 w2 fun (x9 : Sl) =>
  LD [.int .i64] (p_e.add 2) w2 fun (x11 : Int) =>
  Calls Try.prog F.slices_Contains_sl_int_int #[x9.v, .int .i64 x11] w2 (Ret [.at .bool] fun (x12 : Bool) w3 =>
  Q x12 w3)) (
  Q false w2))

theorem C_i_isIndependent_1 {Q : Bool → World → Prop} {e_0 : Int} {e_1 : Int} {e_2 : Int} {e_3 : Int} {cap0 : Addr} {w : World} (h : V_i_isIndependent_1 Q e_0 e_1 e_2 e_3 cap0 w) : Calls Try.prog F.i_isIndependent_1 #[.agg #[.int .i64 e_0, .int .i64 e_1, .int .i64 e_2, .int .i64 e_3], .pointer (some cap0)] w (Ret [.at .bool] Q) :=
  mkC (hint := hint) (ann := annOf []) (args := [.agg #[.int .i64 e_0, .int .i64 e_1, .int .i64 e_2, .int .i64 e_3], .pointer (some cap0)]) (rs := [.at .bool]) Try.func164 (by kernel_rfl) (by kernel_rfl) h

def V_math_bits_Mul (Q : Int → Int → World → Prop) (x : Int) (y : Int) (w : World) : Prop :=
  Calls Try.prog F.math_bits_Mul64 #[.int .u64 x, .int .u64 y] w (Ret [.at (.int .u64), .at (.int .u64)] fun (x25_0 : Int) (x25_1 : Int) w1 =>
  Q x25_0 x25_1 w1)

theorem C_math_bits_Mul {Q : Int → Int → World → Prop} {x : Int} {y : Int} {w : World} (h : V_math_bits_Mul Q x y w) : Calls Try.prog F.math_bits_Mul #[.int .u64 x, .int .u64 y] w (Ret [.at (.int .u64), .at (.int .u64)] Q) :=
  mkC (hint := hint) (ann := annOf []) (args := [.int .u64 x, .int .u64 y]) (rs := [.at (.int .u64), .at (.int .u64)]) Try.func165 (by kernel_rfl) (by kernel_rfl) h

def V_math_bits_Mul32 (Q : Int → Int → World → Prop) (x : Int) (y : Int) (w : World) : Prop :=
  (0 : Int) ≤ 32 ∧ (
  Q (IntKind.u32.wrap (shrI .u64 (IntKind.u64.wrap ((IntKind.u64.wrap x) * (IntKind.u64.wrap y))) 32)) (IntKind.u32.wrap (IntKind.u64.wrap ((IntKind.u64.wrap x) * (IntKind.u64.wrap y)))) w)

theorem C_math_bits_Mul32 {Q : Int → Int → World → Prop} {x : Int} {y : Int} {w : World} (h : V_math_bits_Mul32 Q x y w) : Calls Try.prog F.math_bits_Mul32 #[.int .u32 x, .int .u32 y] w (Ret [.at (.int .u32), .at (.int .u32)] Q) :=
  mkC (hint := hint) (ann := annOf []) (args := [.int .u32 x, .int .u32 y]) (rs := [.at (.int .u32), .at (.int .u32)]) Try.func178 (by kernel_rfl) (by kernel_rfl) h

def V_math_bits_Mul64 (Q : Int → Int → World → Prop) (x : Int) (y : Int) (w : World) : Prop :=
  (0 : Int) ≤ 32 ∧ (
  (0 : Int) ≤ 32 ∧ (
  (0 : Int) ≤ 32 ∧ (
  (0 : Int) ≤ 32 ∧ (
  (0 : Int) ≤ 32 ∧ (
  Q (IntKind.u64.wrap ((IntKind.u64.wrap ((IntKind.u64.wrap ((shrI .u64 x 32) * (shrI .u64 y 32))) + (shrI .u64 (IntKind.u64.wrap ((IntKind.u64.wrap ((shrI .u64 x 32) * (bitAnd .u64 y 4294967295))) + (shrI .u64 (IntKind.u64.wrap ((bitAnd .u64 x 4294967295) * (bitAnd .u64 y 4294967295))) 32))) 32))) + (shrI .u64 (IntKind.u64.wrap ((bitAnd .u64 (IntKind.u64.wrap ((IntKind.u64.wrap ((shrI .u64 x 32) * (bitAnd .u64 y 4294967295))) + (shrI .u64 (IntKind.u64.wrap ((bitAnd .u64 x 4294967295) * (bitAnd .u64 y 4294967295))) 32))) 4294967295) + (IntKind.u64.wrap ((bitAnd .u64 x 4294967295) * (shrI .u64 y 32))))) 32))) (IntKind.u64.wrap (x * y)) w)))))

theorem C_math_bits_Mul64 {Q : Int → Int → World → Prop} {x : Int} {y : Int} {w : World} (h : V_math_bits_Mul64 Q x y w) : Calls Try.prog F.math_bits_Mul64 #[.int .u64 x, .int .u64 y] w (Ret [.at (.int .u64), .at (.int .u64)] Q) :=
  mkC (hint := hint) (ann := annOf []) (args := [.int .u64 x, .int .u64 y]) (rs := [.at (.int .u64), .at (.int .u64)]) Try.func179 (by kernel_rfl) (by kernel_rfl) h

end Go.Proofs.Ytcilbmkieclelaa
