/- The laws' arguments read as data: the types of this program. -/
import Derived.Test.YtjfodknpphhajaaGreatTrod
import Derived.Test.YtjfodknpphhajaaGreatGood
namespace Go.Proofs.YtjfodknpphhajaaGreat
open Go.GX Go.RowKit
set_option maxRecDepth 100000

theorem laidOut : laidOutB Tryz.prog = true := by kernel_rfl

theorem reads_int : Reads Tryz.prog T.t_int Int := Reads.int (by kernel_rfl)
theorem reads_ints : Reads Tryz.prog T.t_sl_int (List Int) := Reads.slice (e := T.t_int) (by kernel_rfl) (by kernel_rfl) reads_int
theorem reads_end : Reads Tryz.prog T.t_l_End (Int × Int) := Reads.pair (u0 := T.t_int) (u1 := T.t_int) (by kernel_rfl) reads_int reads_int
theorem reads_ends : Reads Tryz.prog T.t_sl_l_End (List (Int × Int)) := Reads.slice (e := T.t_l_End) (by kernel_rfl) (by kernel_rfl) reads_end
theorem reads_endss : Reads Tryz.prog T.t_sl_sl_l_End (List (List (Int × Int))) := Reads.slice (e := T.t_sl_l_End) (by kernel_rfl) (by kernel_rfl) reads_ends

variable {H : Type} {enc : TypeId × Value → H} {w : World} {base b0 : Nat} {spare : Nat → Bool} {held : Bool} {r : Reach} {v : Value} {d : DataW H} {p : List MemPlace}

theorem open_I (hv : Value.okWide Tryz.prog w r b0 T.t_int v) (h : DataW.Trod enc Tryz.prog w base spare held T.t_int v d p) : ∃ n, v = .int .i64 n ∧ I64 n := by
  obtain ⟨n, rfl, _, _, hn⟩ := ChangeShapes.open_int (k := .i64) (by kernel_rfl) hv h
  exact ⟨n, rfl, bounds_i64 hn⟩

theorem open_L (hv : Value.okWide Tryz.prog w r b0 T.t_sl_int v) (h : DataW.Trod enc Tryz.prog w base spare held T.t_sl_int v d p) : ∃ (s : Sl) (l : List Int), v = s.v ∧ R w s l :=
  open_list (e := T.t_int) (by kernel_rfl) reads_ints hv h

theorem reads_intss : Reads Tryz.prog T.t_sl_sl_int (List (List Int)) := Reads.slice (e := T.t_sl_int) (by kernel_rfl) (by kernel_rfl) reads_ints

theorem open_M (hv : Value.okWide Tryz.prog w r b0 T.t_sl_sl_int v) (h : DataW.Trod enc Tryz.prog w base spare held T.t_sl_sl_int v d p) : ∃ (s : Sl) (l : List (List Int)), v = s.v ∧ R w s l :=
  open_list (e := T.t_sl_int) (by kernel_rfl) reads_intss hv h

theorem open_N (hv : Value.okWide Tryz.prog w r b0 T.t_l_Network v) (h : DataW.Trod enc Tryz.prog w base spare held T.t_l_Network v d p) : ∃ (a b c : Sl) (n : Net), v = .agg #[a.v, b.v, c.v] ∧ RNet w a b c n := by
  obtain ⟨a, b, c, x, y, z, rfl, h1, h2, h3⟩ := open_three (u0 := T.t_sl_sl_l_End) (u1 := T.t_sl_int) (u2 := T.t_sl_int) (by kernel_rfl) reads_endss reads_ints reads_ints hv h
  exact ⟨a, b, c, ⟨x, y, z⟩, rfl, h1, h2, h3⟩

end Go.Proofs.YtjfodknpphhajaaGreat
