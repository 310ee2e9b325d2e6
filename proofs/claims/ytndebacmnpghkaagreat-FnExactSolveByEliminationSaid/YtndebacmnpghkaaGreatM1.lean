/- Own texts, merged: VCmp, Values, V0, V1. -/
import Derived.Test.YtndebacmnpghkaaGreatM0
import Derived.RangeFuncBox
import Derived.RangeFuncLeaves
import Derived.Shelf.Abstract
import Derived.WalkKit
import Derived.OwnWalkIn
import Derived.TacticsInMore
import Derived.LoopNIn
import Derived.LoopIn
import Derived.Test.YtndebacmnpghkaaGreatProg
set_option linter.unusedVariables false
section
/- What the code of the comparison of integers computes to. Printed by a program. -/
namespace Go.Proofs.YtndebacmnpghkaaGreat
open Go.GX Go.RowKit
set_option linter.unusedVariables false
set_option maxRecDepth 100000

def V_cmp_Less_int (Q : Bool → World → Prop) (x : Int) (y : Int) (w : World) : Prop :=
  Calls Tryz.prog F.cmp_isNaN_int #[.int .i64 x] w (Ret [.at .bool] fun (x6 : Bool) w1 =>
  cond x6 (
  Calls Tryz.prog F.cmp_isNaN_int #[.int .i64 y] w1 (Ret [.at .bool] fun (x9 : Bool) w2 =>
  cond (!x9) (
  Q true w2) (
  Q (decide ((x : Int) < y)) w2))) (
  Q (decide ((x : Int) < y)) w1))

theorem C_cmp_Less_int {Q : Bool → World → Prop} {x : Int} {y : Int} {w : World} (h : V_cmp_Less_int Q x y w) : Calls Tryz.prog F.cmp_Less_int #[.int .i64 x, .int .i64 y] w (Ret [.at .bool] Q) :=
  mkC (hint := hint) (ann := annOf []) (args := [.int .i64 x, .int .i64 y]) (rs := [.at .bool]) Tryz.func214 (by kernel_rfl) (by kernel_rfl) h

def V_cmp_Compare_int (Q : Int → World → Prop) (x : Int) (y : Int) (w : World) : Prop :=
  Calls Tryz.prog F.cmp_isNaN_int #[.int .i64 x] w (Ret [.at .bool] fun (x8 : Bool) w1 =>
  Calls Tryz.prog F.cmp_isNaN_int #[.int .i64 y] w1 (Ret [.at .bool] fun (x10 : Bool) w2 =>
  cond x8 (
  cond x10 (
  Q 0 w2) (
  Q (-1) w2)) (
  cond x10 (
  Q 1 w2) (
  cond (decide ((x : Int) < y)) (
  Q (-1) w2) (
  cond (decide ((x : Int) > y)) (
  Q 1 w2) (
  Q 0 w2))))))

theorem C_cmp_Compare_int {Q : Int → World → Prop} {x : Int} {y : Int} {w : World} (h : V_cmp_Compare_int Q x y w) : Calls Tryz.prog F.cmp_Compare_int #[.int .i64 x, .int .i64 y] w (Ret [.at (.int .i64)] Q) :=
  mkC (hint := hint) (ann := annOf []) (args := [.int .i64 x, .int .i64 y]) (rs := [.at (.int .i64)]) Tryz.func215 (by kernel_rfl) (by kernel_rfl) h

def V_cmp_isNaN_int (Q : Bool → World → Prop) (x : Int) (w : World) : Prop :=
  Q ((x : Int) != x) w

theorem C_cmp_isNaN_int {Q : Bool → World → Prop} {x : Int} {w : World} (h : V_cmp_isNaN_int Q x w) : Calls Tryz.prog F.cmp_isNaN_int #[.int .i64 x] w (Ret [.at .bool] Q) :=
  mkC (hint := hint) (ann := annOf []) (args := [.int .i64 x]) (rs := [.at .bool]) Tryz.func253 (by kernel_rfl) (by kernel_rfl) h

end Go.Proofs.YtndebacmnpghkaaGreat
end

section
/- slices.Values at []int: its closure calls yield for each element; turned from the kit's worked text on the library's two iterators over a slice. -/
namespace Go.Proofs.YtndebacmnpghkaaGreat
open Go Go.RowKit Go.Shelf Go.Proofs

attribute [local go_sem] Oper.semAt_some

/-- What has come when k rounds are over. -/
def upto {α : Type} (f : Nat → α) (k : Nat) : List α := (List.range k).map f
theorem upto_succ {α : Type} (f : Nat → α) (k : Nat) : upto f (k + 1) = upto f k ++ [f k] := by simp [upto, List.range_succ]
theorem upto_length {α : Type} (f : Nat → α) (k : Nat) : (upto f k).length = k := by simp [upto]
theorem upto_all (zs : List Int) : upto (fun j => zs[j]?.getD 0) zs.length = zs := by
  apply List.ext_getElem
  · simp [upto]
  · intro i h1 h2
    simp [upto, h2]
theorem upto_take (zs : List Int) {k : Nat} (hk : k ≤ zs.length) : upto (fun j => zs[j]?.getD 0) k = zs.take k := by
  apply List.ext_getElem
  · simp [upto, hk]
  · intro i h1 h2
    have : i < zs.length := by simp [upto] at h1; omega
    simp [upto, this]

theorem add_block (ad : Addr) (k : Nat) : (ad.add k).block = ad.block := by unfold Addr.add; split <;> rfl

set_option maxRecDepth 100000 in
set_option maxHeartbeats 2000000 in
theorem values1_in (Fe : Fence) (n : Nat) (h7 : Fe.fn 261) (hro : Fe.round = none) (hn : 1 ≤ n) (l Bs n₀ len cap : Nat) (ad : Addr) (zs : List Int) (hreach : len * 8 ≤ 140737488351232) (hb : 0 < len → ad.block < n₀) (J Jx : List Int → World → Prop)
    (hY : ∀ pre x W, J pre W → pre.length < len → YieldAt Fe (n - 1) Tryz.prog l #[.int .i64 x] W fun e W' =>
      (e = .returned (.bool true) ∧ J (pre ++ [x]) W' ∧ Below n₀ W W') ∨ (e = .returned (.bool false) ∧ Jx (pre ++ [x]) W'))
    (W : World) (hBs : W.cell? ⟨Bs, 0, none⟩ = some (.slice (some ad) len cap)) (hc : ∀ j, j < len → W.cell? (ad.add j) = some (.int .i64 (zs[j]?.getD 0))) (h0 : J [] W) :
    CallsIn Fe n Tryz.prog 261 #[.func (.yield l) #[] #[], .pointer (some ⟨Bs, 0, none⟩)] W fun e W' => (∃ v, e = .returned v) ∧
      ((∃ ys, ys = upto (fun j => zs[j]?.getD 0) len ∧ J ys W') ∨ (∃ pre, (∃ k, k ≤ len ∧ pre = upto (fun j => zs[j]?.getD 0) k) ∧ Jx pre W')) := by
  refine callsIn_of_wp Tryz.func261 rfl h7 ?_ hro
  simp only [Tryz.ntmps261, List.size_toArray, List.length_cons, List.length_nil, Nat.reduceAdd, Nat.reduceSub, Array.replicate_succ, Array.replicate_zero, List.push_toArray, List.append_toArray, List.nil_append, List.cons_append]
  gi_wp2
  gi_loopw [7] (fun i wr => ∃ k : Nat, k ≤ len ∧ i = .int .i64 k ∧ J (upto (fun j => zs[j]?.getD 0) k) wr ∧ Below n₀ W wr)
    (fun i _ => len - (intOf i).toNat)
  case atStart => exact ⟨0, Nat.zero_le _, rfl, h0, Below.refl _ _⟩
  case round =>
    obtain ⟨k, hk, rfl, hJs, hnx⟩ := hrel
    have hcx : k < len → wr.cell? (ad.add k) = some (.int .i64 (zs[k]?.getD 0)) := fun h => (hnx.cell (p := ad.add k) (by rw [add_block]; exact hb (by omega))).trans (hc k h)
    by_cases hlt : k < len
    · obtain ⟨fn, tmps, assign, body, hy, hR⟩ := hY _ (zs[k]?.getD 0) wr hJs (by rw [upto_length]; exact hlt)
      have hcx' := hcx hlt
      gi_wp2
      refine hR.mono ?_
      rintro e W3 (⟨rfl, hJ3, hk3⟩ | ⟨rfl, hJx3⟩)
      · gi_wp2
        go_roundw
        case rel => exact ⟨k + 1, by omega, by simp, by rw [upto_succ]; exact hJ3, hnx.trans hk3⟩
        case measure => simp [intOf]; omega
      · gi_wp2
        refine bodyPost_ret (results_none rfl _ _ _) rfl ?_
        exact ⟨⟨_, rfl⟩, .inr ⟨_, ⟨k + 1, by omega, (upto_succ _ _).symm⟩, hJx3⟩⟩
    · obtain rfl : k = len := by omega
      gi_wp2
      go_end0
      exact ⟨⟨_, rfl⟩, .inl ⟨_, rfl, hJs⟩⟩

/-- The slice value sv holds the ints zs, in a block below n₀; or it is nil and there are none. -/
def IntsIn (n₀ : Nat) (W : World) (sv : Value) (zs : List Int) : Prop :=
  (∃ cap, sv = .slice none 0 cap ∧ zs = []) ∨ ∃ ad cap, sv = .slice (some ad) zs.length cap ∧ (0 < zs.length → ad.block < n₀) ∧ ∀ j, j < zs.length → W.cell? (ad.add j) = some (.int .i64 (zs[j]?.getD 0))
theorem IntsIn.below {n₀ : Nat} {A B : World} (h : Below n₀ A B) {sv : Value} {zs : List Int} : IntsIn n₀ A sv zs → IntsIn n₀ B sv zs
  | .inl e => .inl e
  | .inr ⟨ad, cap, e, hb, hc⟩ => .inr ⟨ad, cap, e, hb, fun j hj => (h.cell (p := ad.add j) (by rw [add_block]; exact hb (by omega))).trans (hc j hj)⟩

set_option maxRecDepth 100000 in
set_option maxHeartbeats 1000000 in
theorem values1_nil_in (Fe : Fence) (n : Nat) (h7 : Fe.fn 261) (hro : Fe.round = none) (l Bs cap : Nat) (J : List Int → World → Prop) (W : World) (hBs : W.cell? ⟨Bs, 0, none⟩ = some (.slice none 0 cap)) (h0 : J [] W) :
    CallsIn Fe n Tryz.prog 261 #[.func (.yield l) #[] #[], .pointer (some ⟨Bs, 0, none⟩)] W fun e W' => (∃ v, e = .returned v) ∧ J [] W' := by
  refine callsIn_of_wp Tryz.func261 rfl h7 ?_ hro
  simp only [Tryz.ntmps261, List.size_toArray, List.length_cons, List.length_nil, Nat.reduceAdd, Nat.reduceSub, Array.replicate_succ, Array.replicate_zero, List.push_toArray, List.append_toArray, List.nil_append, List.cons_append]
  gi_wp2
  gi_loopw [7] (fun i wr => i = .int .i64 0 ∧ J [] wr) (fun _ _ => 0)
  case atStart => exact ⟨rfl, h0⟩
  case round =>
    obtain ⟨rfl, hJs⟩ := hrel
    gi_wp2
    go_end0
    exact ⟨⟨_, rfl⟩, hJs⟩

theorem values_stops (Fe : Fence) (n : Nat) (h7 : Fe.fn 261) (hro : Fe.round = none) (hn : 1 ≤ n) (Bs n₀ : Nat) (sv : Value) (zs : List Int) (hreach : zs.length * 8 ≤ 140737488351232) (w : World) (hBs : Bs < w.heap.size) (hn₀ : n₀ ≤ w.heap.size)
    (hc : w.cell? ⟨Bs, 0, none⟩ = some sv) (hI : IntsIn n₀ w sv zs) :
    SeqStopsK Fe n Tryz.prog 261 #[.pointer (some ⟨Bs, 0, none⟩)] (fun x : Int => #[Value.int .i64 x]) (Below n₀) (fun ys => ys = zs) (fun pre => pre <+: zs) zs.length w := fun l J Jx W hW _ _ hY h0 => by
  have hc' := (hW.cell (p := ⟨Bs, 0, none⟩) hBs).trans hc
  rcases hI.below (hW.mono hn₀) with ⟨cap, rfl, rfl⟩ | ⟨ad, cap, rfl, hb, hcs⟩
  · exact (values1_nil_in Fe n h7 hro l Bs cap J W hc' h0).mono fun e W' ⟨he, hj⟩ => ⟨he, .inl ⟨_, rfl, hj⟩⟩
  · refine (values1_in Fe n h7 hro hn l Bs n₀ zs.length cap ad zs hreach hb J Jx hY W hc' hcs h0).mono ?_
    rintro e W' ⟨he, ⟨ys, rfl, hj⟩ | ⟨pre, ⟨k, hk, rfl⟩, hj⟩⟩
    · exact ⟨he, .inl ⟨_, upto_all zs, hj⟩⟩
    · exact ⟨he, .inr ⟨_, by rw [upto_take zs hk]; exact List.take_prefix _ _, hj⟩⟩

end Go.Proofs.YtndebacmnpghkaaGreat
end

section
/- What each function's code computes to. Printed by a program. -/
namespace Go.Proofs.YtndebacmnpghkaaGreat
open Go.GX Go.RowKit
set_option linter.unusedVariables false
set_option maxRecDepth 100000

def V_l_FnExactSolveByElimination_k7 (x2 : Int) (Q : Bool → World → Prop) (px3 : Addr) (px4 : Addr) (x35_0 : Sl) (x35_1 : Bool) (x46_0 : Sl) (w27 : World) : Prop :=
  Calls Tryz.prog F.l_markIntSS #[x46_0.v, .int .i64 1] w27 (Ret [.at (.int .i64)] fun (x89 : Int) w28 =>
  Calls Tryz.prog F.l_heldIntSS #[x46_0.v, .int .i64 1] w28 (Ret [.at (.int .i64)] fun (x92 : Int) w29 =>
  cond (decide ((x92 : Int) < 0)) (
  Q false w29) (
  cond ((x92 : Int) != x89) (
  Q false w29) (
  ∀ w30, Ext w29 w30 → w30.heap = w29.heap →
  LD [.int .i64, .int .i64, .sl, .sl] px3 w30 fun (x99_0 : Int) (x99_1 : Int) (x99_2 : Sl) (x99_3 : Sl) =>
  LD [.sl, .sl, .sl] px4 w30 fun (x101_0 : Sl) (x101_1 : Sl) (x101_2 : Sl) =>
  Calls Tryz.prog F.l_toProblem #[.agg #[.int .i64 x99_0, .int .i64 x99_1, x99_2.v, x99_3.v]] w30 (Ret [.agg [.int .i64, .int .i64, .sl, .sl]] fun (x100_0 : Int) (x100_1 : Int) (x100_2 : Sl) (x100_3 : Sl) w31 =>
  Ext w30 w31 ∧ (
  Calls Tryz.prog F.l_toNetwork #[.agg #[x101_0.v, x101_1.v, x101_2.v]] w31 (Ret [.agg [.sl, .sl, .sl]] fun (x102_0 : Sl) (x102_1 : Sl) (x102_2 : Sl) w32 =>
  Ext w30 w32 ∧ (
  Calls Tryz.prog F.i_SolveByElimination #[.agg #[.int .i64 x100_0, .int .i64 x100_1, x100_2.v, x100_3.v], .agg #[x102_0.v, x102_1.v, x102_2.v], .int .i64 x2] w32 (Ret [.at .sl, .at .bool] fun (x104_0 : Sl) (x104_1 : Bool) w33 =>
  Ext w30 w33 ∧ (
  Ext w30 w33 ∧ (
  Ext w30 w33 ∧ (
  Calls Tryz.prog F.l_eqIntSS #[x104_0.v, x35_0.v] w33 (Ret [.at .bool] fun (x109 : Bool) w34 =>
  cond (!x109) (
  Q false w34) (
  cond (!(x104_1 == x35_1)) (
  Q false w34) (
  Calls Tryz.prog F.l_heldIntSS #[x46_0.v, .int .i64 1] w34 (Ret [.at (.int .i64)] fun (x118_2 : Int) w36 =>
  cond (decide ((x118_2 : Int) < 0)) (
  Q false w36) (
  cond ((x118_2 : Int) != x89) (
  Q false w36) (
  Q true w36))))))))))))))))))

def V_l_FnExactSolveByElimination_k3 (x2 : Int) (Q : Bool → World → Prop) (px3 : Addr) (px4 : Addr) (x35_0 : Sl) (x35_1 : Bool) (px10 : Addr) (px11 : Addr) (x46_0 : Sl) (x46_1 : Bool) (w17 : World) : Prop :=
  ∀ w18, Ext w17 w18 → w18.heap = w17.heap →
  LD [.int .i64, .int .i64, .sl, .sl] px10 w18 fun (x58_0 : Int) (x58_1 : Int) (x58_2 : Sl) (x58_3 : Sl) =>
  LD [.int .i64, .int .i64, .sl, .sl] px3 w18 fun (x59_0 : Int) (x59_1 : Int) (x59_2 : Sl) (x59_3 : Sl) =>
  Ext w18 w18 ∧ (
  Calls Tryz.prog F.l_toProblem #[.agg #[.int .i64 x59_0, .int .i64 x59_1, x59_2.v, x59_3.v]] w18 (Ret [.agg [.int .i64, .int .i64, .sl, .sl]] fun (x60_0 : Int) (x60_1 : Int) (x60_2 : Sl) (x60_3 : Sl) w19 =>
  Ext w18 w19 ∧ (
  Calls Tryz.prog F.l_eqProblem #[.agg #[.int .i64 x58_0, .int .i64 x58_1, x58_2.v, x58_3.v], .agg #[.int .i64 x60_0, .int .i64 x60_1, x60_2.v, x60_3.v]] w19 (Ret [.at .bool] fun (x61 : Bool) w20 =>
  Ext w18 w20 ∧ (
  cond (!x61) (
  Q false w20) (
  ∀ w21, Ext w20 w21 → w21.heap = w20.heap →
  LD [.sl, .sl, .sl] px11 w21 fun (x63_0 : Sl) (x63_1 : Sl) (x63_2 : Sl) =>
  LD [.sl, .sl, .sl] px4 w21 fun (x64_0 : Sl) (x64_1 : Sl) (x64_2 : Sl) =>
  Ext w21 w21 ∧ (
  Calls Tryz.prog F.l_toNetwork #[.agg #[x64_0.v, x64_1.v, x64_2.v]] w21 (Ret [.agg [.sl, .sl, .sl]] fun (x65_0 : Sl) (x65_1 : Sl) (x65_2 : Sl) w22 =>
  Ext w21 w22 ∧ (
  Calls Tryz.prog F.l_eqNetwork #[.agg #[x63_0.v, x63_1.v, x63_2.v], .agg #[x65_0.v, x65_1.v, x65_2.v]] w22 (Ret [.at .bool] fun (x66 : Bool) w23 =>
  Ext w21 w23 ∧ (
  cond (!x66) (
  Q false w23) (
  LD [.int .i64, .int .i64, .sl, .sl] px10 w23 fun (x68_0 : Int) (x68_1 : Int) (x68_2 : Sl) (x68_3 : Sl) =>
  Calls Tryz.prog F.l_markProblem #[.agg #[.int .i64 x68_0, .int .i64 x68_1, x68_2.v, x68_3.v], .int .i64 1] w23 (Ret [.at (.int .i64)] fun (x70 : Int) w24 =>
  LD [.sl, .sl, .sl] px11 w24 fun (x71_0 : Sl) (x71_1 : Sl) (x71_2 : Sl) =>
  Calls Tryz.prog F.l_markNetwork #[.agg #[x71_0.v, x71_1.v, x71_2.v], .int .i64 x70] w24 (Ret [.at (.int .i64)] fun (x73 : Int) w25 =>
  cond (decide ((x73 : Int) < 0)) (
  Q false w25) (
  Calls Tryz.prog F.l_eqIntSS #[x46_0.v, x35_0.v] w25 (Ret [.at .bool] fun (x79 : Bool) w26 =>
  cond (!x79) (
  Q false w26) (
  cond (!(x46_1 == x35_1)) (
  Q false w26) (
  V_l_FnExactSolveByElimination_k7 x2 Q px3 px4 x35_0 x35_1 x46_0 w26))))))))))))))))))

def V_l_FnExactSolveByElimination (Q : Bool → World → Prop) (x0_0 : Int) (x0_1 : Int) (x0_2 : Sl) (x0_3 : Sl) (x1_0 : Sl) (x1_1 : Sl) (x1_2 : Sl) (x2 : Int) (w : World) : Prop :=
  NEW T.t_l_Problem #[.int .i64 x0_0, .int .i64 x0_1, x0_2.v, x0_3.v] w fun (px3 : Addr) w1 =>
  NEW T.t_l_Network #[x1_0.v, x1_1.v, x1_2.v] w1 fun (px4 : Addr) w2 =>
  LD [.int .i64, .int .i64, .sl, .sl] px3 w2 fun (x19_0 : Int) (x19_1 : Int) (x19_2 : Sl) (x19_3 : Sl) =>
  Calls Tryz.prog F.l_szProblem #[.agg #[.int .i64 x19_0, .int .i64 x19_1, x19_2.v, x19_3.v], .int .i64 1048576] w2 (Ret [.at (.int .i64)] fun (x21 : Int) w3 =>
  cond (decide ((x21 : Int) < 0)) (
  Q true w3) (
  LD [.sl, .sl, .sl] px4 w3 fun (x24_0 : Sl) (x24_1 : Sl) (x24_2 : Sl) =>
  Calls Tryz.prog F.l_szNetwork #[.agg #[x24_0.v, x24_1.v, x24_2.v], .int .i64 x21] w3 (Ret [.at (.int .i64)] fun (x26 : Int) w4 =>
  cond (decide ((x26 : Int) < 0)) (
  Q true w4) (
  ∀ w5, Ext w4 w5 → w5.heap = w4.heap →
  LD [.int .i64, .int .i64, .sl, .sl] px3 w5 fun (x30_0 : Int) (x30_1 : Int) (x30_2 : Sl) (x30_3 : Sl) =>
  LD [.sl, .sl, .sl] px4 w5 fun (x32_0 : Sl) (x32_1 : Sl) (x32_2 : Sl) =>
  Calls Tryz.prog F.l_toProblem #[.agg #[.int .i64 x30_0, .int .i64 x30_1, x30_2.v, x30_3.v]] w5 (Ret [.agg [.int .i64, .int .i64, .sl, .sl]] fun (x31_0 : Int) (x31_1 : Int) (x31_2 : Sl) (x31_3 : Sl) w6 =>
  Ext w5 w6 ∧ (
  Calls Tryz.prog F.l_toNetwork #[.agg #[x32_0.v, x32_1.v, x32_2.v]] w6 (Ret [.agg [.sl, .sl, .sl]] fun (x33_0 : Sl) (x33_1 : Sl) (x33_2 : Sl) w7 =>
  Ext w5 w7 ∧ (
  Calls Tryz.prog F.s_SolveByElimination #[.agg #[.int .i64 x31_0, .int .i64 x31_1, x31_2.v, x31_3.v], .agg #[x33_0.v, x33_1.v, x33_2.v], .int .i64 x2] w7 (Ret [.at .sl, .at .bool] fun (x35_0 : Sl) (x35_1 : Bool) w8 =>
  Ext w5 w8 ∧ (
  Ext w5 w8 ∧ (
  Ext w5 w8 ∧ (
  LD [.int .i64, .int .i64, .sl, .sl] px3 w8 fun (x38_0 : Int) (x38_1 : Int) (x38_2 : Sl) (x38_3 : Sl) =>
  Calls Tryz.prog F.l_toProblem #[.agg #[.int .i64 x38_0, .int .i64 x38_1, x38_2.v, x38_3.v]] w8 (Ret [.agg [.int .i64, .int .i64, .sl, .sl]] fun (x39_0 : Int) (x39_1 : Int) (x39_2 : Sl) (x39_3 : Sl) w9 =>
  NEW T.t_i_Problem #[.int .i64 0, .int .i64 0, .slice none 0 0, .slice none 0 0] w9 fun (px10 : Addr) w10 =>
  ST px10 0 [.int .i64 x39_0, .int .i64 x39_1, x39_2.v, x39_3.v] w10 fun w11 =>
  LD [.sl, .sl, .sl] px4 w11 fun (x40_0 : Sl) (x40_1 : Sl) (x40_2 : Sl) =>
  Calls Tryz.prog F.l_toNetwork #[.agg #[x40_0.v, x40_1.v, x40_2.v]] w11 (Ret [.agg [.sl, .sl, .sl]] fun (x41_0 : Sl) (x41_1 : Sl) (x41_2 : Sl) w12 =>
  NEW T.t_i_Network #[.slice none 0 0, .slice none 0 0, .slice none 0 0] w12 fun (px11 : Addr) w13 =>
  ST px11 0 [x41_0.v, x41_1.v, x41_2.v] w13 fun w14 =>
  LD [.int .i64, .int .i64, .sl, .sl] px10 w14 fun (x43_0 : Int) (x43_1 : Int) (x43_2 : Sl) (x43_3 : Sl) =>
  LD [.sl, .sl, .sl] px11 w14 fun (x44_0 : Sl) (x44_1 : Sl) (x44_2 : Sl) =>
  Calls Tryz.prog F.i_SolveByElimination #[.agg #[.int .i64 x43_0, .int .i64 x43_1, x43_2.v, x43_3.v], .agg #[x44_0.v, x44_1.v, x44_2.v], .int .i64 x2] w14 (Ret [.at .sl, .at .bool] fun (x46_0 : Sl) (x46_1 : Bool) w15 =>
  Calls Tryz.prog F.l_eqIntSS #[x46_0.v, x35_0.v] w15 (Ret [.at .bool] fun (x51 : Bool) w16 =>
  cond (!x51) (
  Q false w16) (
  cond (!(x46_1 == x35_1)) (
  Q false w16) (
  V_l_FnExactSolveByElimination_k3 x2 Q px3 px4 x35_0 x35_1 px10 px11 x46_0 x46_1 w16))))))))))))))))))

theorem C_l_FnExactSolveByElimination {Q : Bool → World → Prop} {x0_0 : Int} {x0_1 : Int} {x0_2 : Sl} {x0_3 : Sl} {x1_0 : Sl} {x1_1 : Sl} {x1_2 : Sl} {x2 : Int} {w : World} (h : V_l_FnExactSolveByElimination Q x0_0 x0_1 x0_2 x0_3 x1_0 x1_1 x1_2 x2 w) : Calls Tryz.prog F.l_FnExactSolveByElimination #[.agg #[.int .i64 x0_0, .int .i64 x0_1, x0_2.v, x0_3.v], .agg #[x1_0.v, x1_1.v, x1_2.v], .int .i64 x2] w (Ret [.at .bool] Q) :=
  mkC (hint := hint) (ann := annOf []) (args := [.agg #[.int .i64 x0_0, .int .i64 x0_1, x0_2.v, x0_3.v], .agg #[x1_0.v, x1_1.v, x1_2.v], .int .i64 x2]) (rs := [.at .bool]) Tryz.func5 (by kernel_rfl) (by kernel_rfl) h

def V_l_szProblem (Q : Int → World → Prop) (a_0 : Int) (a_1 : Int) (a_2 : Sl) (a_3 : Sl) (left : Int) (w : World) : Prop :=
  NEW T.t_l_Problem #[.int .i64 a_0, .int .i64 a_1, a_2.v, a_3.v] w fun (p_a : Addr) w1 =>
  LD [.sl] (p_a.add 2) w1 fun (x6 : Sl) =>
  Calls Tryz.prog F.l_szIntSS #[x6.v, .int .i64 left] w1 (Ret [.at (.int .i64)] fun (x8 : Int) w2 =>
  cond (decide ((x8 : Int) < 0)) (
  Q (-1) w2) (
  LD [.sl] (p_a.add 3) w2 fun (x12 : Sl) =>
  Calls Tryz.prog F.l_szIntSS #[x12.v, .int .i64 x8] w2 (Ret [.at (.int .i64)] fun (x14 : Int) w3 =>
  cond (decide ((x14 : Int) < 0)) (
  Q (-1) w3) (
  Q x14 w3))))

theorem C_l_szProblem {Q : Int → World → Prop} {a_0 : Int} {a_1 : Int} {a_2 : Sl} {a_3 : Sl} {left : Int} {w : World} (h : V_l_szProblem Q a_0 a_1 a_2 a_3 left w) : Calls Tryz.prog F.l_szProblem #[.agg #[.int .i64 a_0, .int .i64 a_1, a_2.v, a_3.v], .int .i64 left] w (Ret [.at (.int .i64)] Q) :=
  mkC (hint := hint) (ann := annOf []) (args := [.agg #[.int .i64 a_0, .int .i64 a_1, a_2.v, a_3.v], .int .i64 left]) (rs := [.at (.int .i64)]) Tryz.func15 (by kernel_rfl) (by kernel_rfl) h

def V_l_szNetwork (Q : Int → World → Prop) (a_0 : Sl) (a_1 : Sl) (a_2 : Sl) (left : Int) (w : World) : Prop :=
  NEW T.t_l_Network #[a_0.v, a_1.v, a_2.v] w fun (p_a : Addr) w1 =>
  LD [.sl] (p_a.add 0) w1 fun (x6 : Sl) =>
  Calls Tryz.prog F.l_szEndSS #[x6.v, .int .i64 left] w1 (Ret [.at (.int .i64)] fun (x8 : Int) w2 =>
  cond (decide ((x8 : Int) < 0)) (
  Q (-1) w2) (
  LD [.sl] (p_a.add 1) w2 fun (x12 : Sl) =>
  Calls Tryz.prog F.l_szIntS #[x12.v, .int .i64 x8] w2 (Ret [.at (.int .i64)] fun (x14 : Int) w3 =>
  cond (decide ((x14 : Int) < 0)) (
  Q (-1) w3) (
  LD [.sl] (p_a.add 2) w3 fun (x18 : Sl) =>
  Calls Tryz.prog F.l_szIntS #[x18.v, .int .i64 x14] w3 (Ret [.at (.int .i64)] fun (x20 : Int) w4 =>
  cond (decide ((x20 : Int) < 0)) (
  Q (-1) w4) (
  Q x20 w4))))))

theorem C_l_szNetwork {Q : Int → World → Prop} {a_0 : Sl} {a_1 : Sl} {a_2 : Sl} {left : Int} {w : World} (h : V_l_szNetwork Q a_0 a_1 a_2 left w) : Calls Tryz.prog F.l_szNetwork #[.agg #[a_0.v, a_1.v, a_2.v], .int .i64 left] w (Ret [.at (.int .i64)] Q) :=
  mkC (hint := hint) (ann := annOf []) (args := [.agg #[a_0.v, a_1.v, a_2.v], .int .i64 left]) (rs := [.at (.int .i64)]) Tryz.func16 (by kernel_rfl) (by kernel_rfl) h

def V_s_SolveByElimination_k1 (k : Int) (Q : Sl → Bool → World → Prop) (p_n : Addr) (x18_0 : Sl) (w6 : World) : Prop :=
  ∀ w7, Ext w6 w7 → w7.heap = w6.heap →
  IX x18_0 k 4 fun (px35 : Addr) =>
  LD [.int .i64, .int .i64, .sl, .sl] px35 w7 fun (x36_0 : Int) (x36_1 : Int) (x36_2 : Sl) (x36_3 : Sl) =>
  LD [.sl, .sl, .sl] p_n w7 fun (x37_0 : Sl) (x37_1 : Sl) (x37_2 : Sl) =>
  Ext w7 w7 ∧ (
  Calls Tryz.prog F.s_ZeroLabeling #[.agg #[.int .i64 x36_0, .int .i64 x36_1, x36_2.v, x36_3.v], .agg #[x37_0.v, x37_1.v, x37_2.v]] w7 (Ret [.at .sl, .at .bool] fun (x38_0 : Sl) (x38_1 : Bool) w8 =>
  Ext w7 w8 ∧ (
  Ext w7 w8 ∧ (
  Ext w7 w8 ∧ (
  cond (!x38_1) (
  Q (⟨none, 0, 0⟩) false w8) (
  ∃ (I8 : Sl → Int → World → Prop) (m8 : Sl → Int → World → Nat), I8 x38_0 (IntKind.i64.wrap (k - 1)) w8 ∧ ∀ (l : Sl) (i : Int) w9, I8 l i w9 → ∀ _ _ _ _ _ _ _ _ _ _ _ _ _ _ _ _ _ _ _ _ _ : Value,
  cond (decide ((i : Int) ≥ 0)) (
  ∀ w10, Ext w9 w10 → w10.heap = w9.heap →
  IX x18_0 i 4 fun (px52 : Addr) =>
  LD [.int .i64, .int .i64, .sl, .sl] px52 w10 fun (x53_0 : Int) (x53_1 : Int) (x53_2 : Sl) (x53_3 : Sl) =>
  LD [.sl, .sl, .sl] p_n w10 fun (x54_0 : Sl) (x54_1 : Sl) (x54_2 : Sl) =>
  Ext w10 w10 ∧ (
  Calls Tryz.prog F.s_PullRound #[.agg #[.int .i64 x53_0, .int .i64 x53_1, x53_2.v, x53_3.v], .agg #[x54_0.v, x54_1.v, x54_2.v], l.v] w10 (Ret [.at .sl, .at .bool] fun (x56_0 : Sl) (x56_1 : Bool) w11 =>
  Ext w10 w11 ∧ (
  Ext w10 w11 ∧ (
  Ext w10 w11 ∧ (
  cond (!x56_1) (
  Q (⟨none, 0, 0⟩) false w11) (
  I8 x56_0 (IntKind.i64.wrap (i - 1)) w11 ∧ m8 x56_0 (IntKind.i64.wrap (i - 1)) w11 < m8 l i w9))))))) (
  Q l true w9)))))))

def V_s_SolveByElimination (Q : Sl → Bool → World → Prop) (p_0 : Int) (p_1 : Int) (p_2 : Sl) (p_3 : Sl) (n_0 : Sl) (n_1 : Sl) (n_2 : Sl) (k : Int) (w : World) : Prop :=
  NEW T.t_i_Problem #[.int .i64 p_0, .int .i64 p_1, p_2.v, p_3.v] w fun (p_p : Addr) w1 =>
  NEW T.t_i_Network #[n_0.v, n_1.v, n_2.v] w1 fun (p_n : Addr) w2 =>
  LD [.int .i64, .int .i64, .sl, .sl] p_p w2 fun (x16_0 : Int) (x16_1 : Int) (x16_2 : Sl) (x16_3 : Sl) =>
  Calls Tryz.prog F.s_EliminateTimes #[.agg #[.int .i64 x16_0, .int .i64 x16_1, x16_2.v, x16_3.v], .int .i64 k] w2 (Ret [.at .sl, .at .bool] fun (x18_0 : Sl) (x18_1 : Bool) w3 =>
  cond (!x18_1) (
  Q (⟨none, 0, 0⟩) false w3) (
  LD [.sl, .sl, .sl] p_n w3 fun (x24_0 : Sl) (x24_1 : Sl) (x24_2 : Sl) =>
  Calls Tryz.prog F.s_neGood #[.agg #[x24_0.v, x24_1.v, x24_2.v]] w3 (Ret [.at .bool] fun (x25 : Bool) w4 =>
  cond (!x25) (
  Q (⟨none, 0, 0⟩) false w4) (
  LD [.sl, .sl, .sl] p_n w4 fun (x29_0 : Sl) (x29_1 : Sl) (x29_2 : Sl) =>
  Calls Tryz.prog F.s_meStub #[.agg #[x29_0.v, x29_1.v, x29_2.v]] w4 (Ret [.at .bool] fun (x30 : Bool) w5 =>
  cond x30 (
  Q (⟨none, 0, 0⟩) false w5) (
  V_s_SolveByElimination_k1 k Q p_n x18_0 w5))))))

theorem C_s_SolveByElimination {Q : Sl → Bool → World → Prop} {p_0 : Int} {p_1 : Int} {p_2 : Sl} {p_3 : Sl} {n_0 : Sl} {n_1 : Sl} {n_2 : Sl} {k : Int} {w : World} (h : V_s_SolveByElimination Q p_0 p_1 p_2 p_3 n_0 n_1 n_2 k w) : Calls Tryz.prog F.s_SolveByElimination #[.agg #[.int .i64 p_0, .int .i64 p_1, p_2.v, p_3.v], .agg #[n_0.v, n_1.v, n_2.v], .int .i64 k] w (Ret [.at .sl, .at .bool] Q) :=
  mkC (hint := hint) (ann := annOf [(8, ⟨[(10, .sl), (12, .int .i64)], [6, 7, 13, 14, 45, 46, 47, 48, 49, 50, 51, 52, 53, 54, 55, 56, 57, 58, 59, 60, 61]⟩)]) (args := [.agg #[.int .i64 p_0, .int .i64 p_1, p_2.v, p_3.v], .agg #[n_0.v, n_1.v, n_2.v], .int .i64 k]) (rs := [.at .sl, .at .bool]) Tryz.func17 (by kernel_rfl) (by kernel_rfl) h

def V_l_toProblem (Q : Int → Int → Sl → Sl → World → Prop) (a_0 : Int) (a_1 : Int) (a_2 : Sl) (a_3 : Sl) (w : World) : Prop :=
  NEW T.t_l_Problem #[.int .i64 a_0, .int .i64 a_1, a_2.v, a_3.v] w fun (p_a : Addr) w1 =>
  NEW T.t_i_Problem #[.int .i64 0, .int .i64 0, .slice none 0 0, .slice none 0 0] w1 fun (px2 : Addr) w2 =>
  NEW T.t_i_Problem #[.int .i64 0, .int .i64 0, .slice none 0 0, .slice none 0 0] w2 fun (p_out : Addr) w3 =>
  LD [.int .i64] (p_a.add 0) w3 fun (x5 : Int) =>
  ST (p_out.add 0) 0 [.int .i64 x5] w3 fun w4 =>
  LD [.int .i64] (p_a.add 1) w4 fun (x8 : Int) =>
  ST (p_out.add 1) 0 [.int .i64 x8] w4 fun w5 =>
  LD [.sl] (p_a.add 2) w5 fun (x11 : Sl) =>
  Calls Tryz.prog F.l_toIntSS #[x11.v] w5 (Ret [.at .sl] fun (x12 : Sl) w6 =>
  ST (p_out.add 2) 0 [x12.v] w6 fun w7 =>
  LD [.sl] (p_a.add 3) w7 fun (x15 : Sl) =>
  Calls Tryz.prog F.l_toIntSS #[x15.v] w7 (Ret [.at .sl] fun (x16 : Sl) w8 =>
  ST (p_out.add 3) 0 [x16.v] w8 fun w9 =>
  LD [.int .i64, .int .i64, .sl, .sl] p_out w9 fun (x18_0 : Int) (x18_1 : Int) (x18_2 : Sl) (x18_3 : Sl) =>
  ST px2 0 [.int .i64 x18_0, .int .i64 x18_1, x18_2.v, x18_3.v] w9 fun w10 =>
  LD [.int .i64, .int .i64, .sl, .sl] px2 w10 fun (r0_0 : Int) (r0_1 : Int) (r0_2 : Sl) (r0_3 : Sl) =>
  Q r0_0 r0_1 r0_2 r0_3 w10))

theorem C_l_toProblem {Q : Int → Int → Sl → Sl → World → Prop} {a_0 : Int} {a_1 : Int} {a_2 : Sl} {a_3 : Sl} {w : World} (h : V_l_toProblem Q a_0 a_1 a_2 a_3 w) : Calls Tryz.prog F.l_toProblem #[.agg #[.int .i64 a_0, .int .i64 a_1, a_2.v, a_3.v]] w (Ret [.agg [.int .i64, .int .i64, .sl, .sl]] Q) :=
  mkC (hint := hint) (ann := annOf []) (args := [.agg #[.int .i64 a_0, .int .i64 a_1, a_2.v, a_3.v]]) (rs := [.agg [.int .i64, .int .i64, .sl, .sl]]) Tryz.func18 (by kernel_rfl) (by kernel_rfl) h

def V_l_toNetwork (Q : Sl → Sl → Sl → World → Prop) (a_0 : Sl) (a_1 : Sl) (a_2 : Sl) (w : World) : Prop :=
  NEW T.t_l_Network #[a_0.v, a_1.v, a_2.v] w fun (p_a : Addr) w1 =>
  NEW T.t_i_Network #[.slice none 0 0, .slice none 0 0, .slice none 0 0] w1 fun (px2 : Addr) w2 =>
  NEW T.t_i_Network #[.slice none 0 0, .slice none 0 0, .slice none 0 0] w2 fun (p_out : Addr) w3 =>
  LD [.sl] (p_a.add 0) w3 fun (x5 : Sl) =>
  Calls Tryz.prog F.l_toEndSS #[x5.v] w3 (Ret [.at .sl] fun (x6 : Sl) w4 =>
  ST (p_out.add 0) 0 [x6.v] w4 fun w5 =>
  LD [.sl] (p_a.add 1) w5 fun (x9 : Sl) =>
  Calls Tryz.prog F.l_toIntS #[x9.v] w5 (Ret [.at .sl] fun (x10 : Sl) w6 =>
  ST (p_out.add 1) 0 [x10.v] w6 fun w7 =>
  LD [.sl] (p_a.add 2) w7 fun (x13 : Sl) =>
  Calls Tryz.prog F.l_toIntS #[x13.v] w7 (Ret [.at .sl] fun (x14 : Sl) w8 =>
  ST (p_out.add 2) 0 [x14.v] w8 fun w9 =>
  LD [.sl, .sl, .sl] p_out w9 fun (x16_0 : Sl) (x16_1 : Sl) (x16_2 : Sl) =>
  ST px2 0 [x16_0.v, x16_1.v, x16_2.v] w9 fun w10 =>
  LD [.sl, .sl, .sl] px2 w10 fun (r0_0 : Sl) (r0_1 : Sl) (r0_2 : Sl) =>
  Q r0_0 r0_1 r0_2 w10)))

theorem C_l_toNetwork {Q : Sl → Sl → Sl → World → Prop} {a_0 : Sl} {a_1 : Sl} {a_2 : Sl} {w : World} (h : V_l_toNetwork Q a_0 a_1 a_2 w) : Calls Tryz.prog F.l_toNetwork #[.agg #[a_0.v, a_1.v, a_2.v]] w (Ret [.agg [.sl, .sl, .sl]] Q) :=
  mkC (hint := hint) (ann := annOf []) (args := [.agg #[a_0.v, a_1.v, a_2.v]]) (rs := [.agg [.sl, .sl, .sl]]) Tryz.func19 (by kernel_rfl) (by kernel_rfl) h

def V_i_SolveByElimination_k4 (p_n : Addr) (x15_0 : Sl) (I6 : Bool → Sl → Int → World → Prop) (m6 : Bool → Sl → Int → World → Nat) (ok : Bool) (l : Sl) (i : Int) (w10 : World) (w11 : World) : Prop :=
  ∀ w12, Ext w11 w12 → w12.heap = w11.heap →
  IX x15_0 i 4 fun (px51 : Addr) =>
  LD [.int .i64, .int .i64, .sl, .sl] px51 w12 fun (x52_0 : Int) (x52_1 : Int) (x52_2 : Sl) (x52_3 : Sl) =>
  LD [.sl, .sl, .sl] p_n w12 fun (x53_0 : Sl) (x53_1 : Sl) (x53_2 : Sl) =>
  Ext w12 w12 ∧ (
  Calls Tryz.prog F.i_PullRound #[.agg #[.int .i64 x52_0, .int .i64 x52_1, x52_2.v, x52_3.v], .agg #[x53_0.v, x53_1.v, x53_2.v], l.v] w12 (Ret [.at .sl, .at .bool] fun (x55_0 : Sl) (x55_1 : Bool) w13 =>
  Ext w12 w13 ∧ (
  Ext w12 w13 ∧ (
  Ext w12 w13 ∧ (
  I6 x55_1 x55_0 (IntKind.i64.wrap (i - 1)) w13 ∧ m6 x55_1 x55_0 (IntKind.i64.wrap (i - 1)) w13 < m6 ok l i w10)))))

def V_i_SolveByElimination_k1 (k : Int) (Q : Sl → Bool → World → Prop) (p_n : Addr) (x15_0 : Sl) (w7 : World) : Prop :=
  ∀ w8, Ext w7 w8 → w8.heap = w7.heap →
  IX x15_0 k 4 fun (px33 : Addr) =>
  LD [.int .i64, .int .i64, .sl, .sl] px33 w8 fun (x34_0 : Int) (x34_1 : Int) (x34_2 : Sl) (x34_3 : Sl) =>
  LD [.sl, .sl, .sl] p_n w8 fun (x35_0 : Sl) (x35_1 : Sl) (x35_2 : Sl) =>
  Ext w8 w8 ∧ (
  Calls Tryz.prog F.i_ZeroLabeling #[.agg #[.int .i64 x34_0, .int .i64 x34_1, x34_2.v, x34_3.v], .agg #[x35_0.v, x35_1.v, x35_2.v]] w8 (Ret [.at .sl, .at .bool] fun (x36_0 : Sl) (x36_1 : Bool) w9 =>
  Ext w8 w9 ∧ (
  Ext w8 w9 ∧ (
  Ext w8 w9 ∧ (
  ∃ (I6 : Bool → Sl → Int → World → Prop) (m6 : Bool → Sl → Int → World → Nat), I6 x36_1 x36_0 (IntKind.i64.wrap (k - 1)) w9 ∧ ∀ (ok : Bool) (l : Sl) (i : Int) w10, I6 ok l i w10 → ∀ _ _ _ _ _ _ _ _ _ _ _ _ _ _ _ _ _ : Value,
  cond (decide ((i : Int) ≥ 0)) (
  cond ok (
  V_i_SolveByElimination_k4 p_n x15_0 I6 m6 ok l i w10 w10) (
  Q l ok w10)) (
  Q l ok w10))))))

def V_i_SolveByElimination (Q : Sl → Bool → World → Prop) (p_0 : Int) (p_1 : Int) (p_2 : Sl) (p_3 : Sl) (n_0 : Sl) (n_1 : Sl) (n_2 : Sl) (k : Int) (w : World) : Prop :=
  NEW T.t_i_Problem #[.int .i64 p_0, .int .i64 p_1, p_2.v, p_3.v] w fun (p_p : Addr) w1 =>
  NEW T.t_i_Network #[n_0.v, n_1.v, n_2.v] w1 fun (p_n : Addr) w2 =>
  LD [.int .i64, .int .i64, .sl, .sl] p_p w2 fun (x13_0 : Int) (x13_1 : Int) (x13_2 : Sl) (x13_3 : Sl) =>
  Calls Tryz.prog F.i_EliminateTimes #[.agg #[.int .i64 x13_0, .int .i64 x13_1, x13_2.v, x13_3.v], .int .i64 k] w2 (Ret [.at .sl, .at .bool] fun (x15_0 : Sl) (x15_1 : Bool) w3 =>
  cond (!x15_1) (
  Q (⟨none, 0, 0⟩) false w3) (
  LD [.sl, .sl, .sl] p_n w3 fun (x21_0 : Sl) (x21_1 : Sl) (x21_2 : Sl) =>
  Calls Tryz.prog F.i_IsNetwork #[.agg #[x21_0.v, x21_1.v, x21_2.v]] w3 (Ret [.at .bool] fun (x22 : Bool) w4 =>
  cond (!x22) (
  Q (⟨none, 0, 0⟩) false w4) (
  LD [.sl, .sl, .sl] p_n w4 fun (x26_0 : Sl) (x26_1 : Sl) (x26_2 : Sl) =>
  Calls Tryz.prog F.i_Network_edges #[.agg #[x26_0.v, x26_1.v, x26_2.v]] w4 (Ret [.at .sl] fun (x27 : Sl) w5 =>
  Calls Tryz.prog F.slices_ContainsFunc_sl_i_edge_i_edge #[x27.v, .func (.func F.i_edge_stub) #[] #[]] w5 (Ret [.at .bool] fun (x28 : Bool) w6 =>
  cond x28 (
  Q (⟨none, 0, 0⟩) false w6) (
  V_i_SolveByElimination_k1 k Q p_n x15_0 w6)))))))

theorem C_i_SolveByElimination {Q : Sl → Bool → World → Prop} {p_0 : Int} {p_1 : Int} {p_2 : Sl} {p_3 : Sl} {n_0 : Sl} {n_1 : Sl} {n_2 : Sl} {k : Int} {w : World} (h : V_i_SolveByElimination Q p_0 p_1 p_2 p_3 n_0 n_1 n_2 k w) : Calls Tryz.prog F.i_SolveByElimination #[.agg #[.int .i64 p_0, .int .i64 p_1, p_2.v, p_3.v], .agg #[n_0.v, n_1.v, n_2.v], .int .i64 k] w (Ret [.at .sl, .at .bool] Q) :=
  mkC (hint := hint) (ann := annOf [(6, ⟨[(9, .bool), (10, .sl), (11, .int .i64)], [41, 42, 43, 44, 45, 46, 47, 48, 49, 50, 51, 52, 53, 54, 55, 56, 57]⟩)]) (args := [.agg #[.int .i64 p_0, .int .i64 p_1, p_2.v, p_3.v], .agg #[n_0.v, n_1.v, n_2.v], .int .i64 k]) (rs := [.at .sl, .at .bool]) Tryz.func20 (by kernel_rfl) (by kernel_rfl) h

def V_l_eqIntSS (Q : Bool → World → Prop) (a : Sl) (b : Sl) (w : World) : Prop :=
  cond ((a.len : Int) != b.len) (
  Q false w) (
  ∃ (I4 : Int → World → Prop) (m4 : Int → World → Nat), I4 0 w ∧ ∀ (i : Int) w1, I4 i w1 → ∀ _ _ _ _ _ _ _ _ _ _ _ _ _ _ _ _ _ : Value,
  cond (decide ((i : Int) < a.len)) (
  IX a i 1 fun (px19 : Addr) =>
  LD [.sl] px19 w1 fun (x20 : Sl) =>
  IX b i 1 fun (px23 : Addr) =>
  LD [.sl] px23 w1 fun (x24 : Sl) =>
  QCALL Tryz.prog F.l_eqIntS #[x20.v, x24.v] w1 [.at .bool] fun (x25 : Bool) =>
  ∀ w2, Ext w1 w2 →
  cond (!x25) (
  Q false w2) (
  I4 (IntKind.i64.wrap (i + 1)) w2 ∧ m4 (IntKind.i64.wrap (i + 1)) w2 < m4 i w1)) (
  Q true w1))

theorem C_l_eqIntSS {Q : Bool → World → Prop} {a : Sl} {b : Sl} {w : World} (h : V_l_eqIntSS Q a b w) : Calls Tryz.prog F.l_eqIntSS #[a.v, b.v] w (Ret [.at .bool] Q) :=
  mkC (hint := hint) (ann := annOf [(4, ⟨[(5, .int .i64)], [4, 11, 12, 13, 14, 15, 16, 17, 18, 19, 20, 21, 22, 23, 24, 25, 26]⟩)]) (args := [a.v, b.v]) (rs := [.at .bool]) Tryz.func21 (by kernel_rfl) (by kernel_rfl) h

def V_l_eqProblem (Q : Bool → World → Prop) (a_0 : Int) (a_1 : Int) (a_2 : Sl) (a_3 : Sl) (b_0 : Int) (b_1 : Int) (b_2 : Sl) (b_3 : Sl) (w : World) : Prop :=
  NEW T.t_i_Problem #[.int .i64 a_0, .int .i64 a_1, a_2.v, a_3.v] w fun (p_a : Addr) w1 =>
  NEW T.t_i_Problem #[.int .i64 b_0, .int .i64 b_1, b_2.v, b_3.v] w1 fun (p_b : Addr) w2 =>
  LD [.int .i64] (p_a.add 0) w2 fun (x6 : Int) =>
  LD [.int .i64] (p_b.add 0) w2 fun (x8 : Int) =>
  cond ((x6 : Int) != x8) (
  Q false w2) (
  LD [.int .i64] (p_a.add 1) w2 fun (x11 : Int) =>
  LD [.int .i64] (p_b.add 1) w2 fun (x13 : Int) =>
  cond ((x11 : Int) != x13) (
  Q false w2) (
  LD [.sl] (p_a.add 2) w2 fun (x16 : Sl) =>
  LD [.sl] (p_b.add 2) w2 fun (x18 : Sl) =>
  Calls Tryz.prog F.l_eqIntSS #[x16.v, x18.v] w2 (Ret [.at .bool] fun (x19 : Bool) w3 =>
  cond (!x19) (
  Q false w3) (
  LD [.sl] (p_a.add 3) w3 fun (x22 : Sl) =>
  LD [.sl] (p_b.add 3) w3 fun (x24 : Sl) =>
  Calls Tryz.prog F.l_eqIntSS #[x22.v, x24.v] w3 (Ret [.at .bool] fun (x25 : Bool) w4 =>
  cond (!x25) (
  Q false w4) (
  Q true w4))))))

theorem C_l_eqProblem {Q : Bool → World → Prop} {a_0 : Int} {a_1 : Int} {a_2 : Sl} {a_3 : Sl} {b_0 : Int} {b_1 : Int} {b_2 : Sl} {b_3 : Sl} {w : World} (h : V_l_eqProblem Q a_0 a_1 a_2 a_3 b_0 b_1 b_2 b_3 w) : Calls Tryz.prog F.l_eqProblem #[.agg #[.int .i64 a_0, .int .i64 a_1, a_2.v, a_3.v], .agg #[.int .i64 b_0, .int .i64 b_1, b_2.v, b_3.v]] w (Ret [.at .bool] Q) :=
  mkC (hint := hint) (ann := annOf []) (args := [.agg #[.int .i64 a_0, .int .i64 a_1, a_2.v, a_3.v], .agg #[.int .i64 b_0, .int .i64 b_1, b_2.v, b_3.v]]) (rs := [.at .bool]) Tryz.func22 (by kernel_rfl) (by kernel_rfl) h

def V_l_eqNetwork (Q : Bool → World → Prop) (a_0 : Sl) (a_1 : Sl) (a_2 : Sl) (b_0 : Sl) (b_1 : Sl) (b_2 : Sl) (w : World) : Prop :=
  NEW T.t_i_Network #[a_0.v, a_1.v, a_2.v] w fun (p_a : Addr) w1 =>
  NEW T.t_i_Network #[b_0.v, b_1.v, b_2.v] w1 fun (p_b : Addr) w2 =>
  LD [.sl] (p_a.add 0) w2 fun (x6 : Sl) =>
  LD [.sl] (p_b.add 0) w2 fun (x8 : Sl) =>
  Calls Tryz.prog F.l_eqEndSS #[x6.v, x8.v] w2 (Ret [.at .bool] fun (x9 : Bool) w3 =>
  cond (!x9) (
  Q false w3) (
  LD [.sl] (p_a.add 1) w3 fun (x12 : Sl) =>
  LD [.sl] (p_b.add 1) w3 fun (x14 : Sl) =>
  Calls Tryz.prog F.l_eqIntS #[x12.v, x14.v] w3 (Ret [.at .bool] fun (x15 : Bool) w4 =>
  cond (!x15) (
  Q false w4) (
  LD [.sl] (p_a.add 2) w4 fun (x18 : Sl) =>
  LD [.sl] (p_b.add 2) w4 fun (x20 : Sl) =>
  Calls Tryz.prog F.l_eqIntS #[x18.v, x20.v] w4 (Ret [.at .bool] fun (x21 : Bool) w5 =>
  cond (!x21) (
  Q false w5) (
  Q true w5))))))

theorem C_l_eqNetwork {Q : Bool → World → Prop} {a_0 : Sl} {a_1 : Sl} {a_2 : Sl} {b_0 : Sl} {b_1 : Sl} {b_2 : Sl} {w : World} (h : V_l_eqNetwork Q a_0 a_1 a_2 b_0 b_1 b_2 w) : Calls Tryz.prog F.l_eqNetwork #[.agg #[a_0.v, a_1.v, a_2.v], .agg #[b_0.v, b_1.v, b_2.v]] w (Ret [.at .bool] Q) :=
  mkC (hint := hint) (ann := annOf []) (args := [.agg #[a_0.v, a_1.v, a_2.v], .agg #[b_0.v, b_1.v, b_2.v]]) (rs := [.at .bool]) Tryz.func23 (by kernel_rfl) (by kernel_rfl) h

def V_l_markProblem (Q : Int → World → Prop) (a_0 : Int) (a_1 : Int) (a_2 : Sl) (a_3 : Sl) (k : Int) (w : World) : Prop :=
  NEW T.t_i_Problem #[.int .i64 a_0, .int .i64 a_1, a_2.v, a_3.v] w fun (p_a : Addr) w1 =>
  LD [.sl] (p_a.add 2) w1 fun (x6 : Sl) =>
  Calls Tryz.prog F.l_markIntSS #[x6.v, .int .i64 k] w1 (Ret [.at (.int .i64)] fun (x8 : Int) w2 =>
  LD [.sl] (p_a.add 3) w2 fun (x10 : Sl) =>
  Calls Tryz.prog F.l_markIntSS #[x10.v, .int .i64 x8] w2 (Ret [.at (.int .i64)] fun (x12 : Int) w3 =>
  Q x12 w3))

theorem C_l_markProblem {Q : Int → World → Prop} {a_0 : Int} {a_1 : Int} {a_2 : Sl} {a_3 : Sl} {k : Int} {w : World} (h : V_l_markProblem Q a_0 a_1 a_2 a_3 k w) : Calls Tryz.prog F.l_markProblem #[.agg #[.int .i64 a_0, .int .i64 a_1, a_2.v, a_3.v], .int .i64 k] w (Ret [.at (.int .i64)] Q) :=
  mkC (hint := hint) (ann := annOf []) (args := [.agg #[.int .i64 a_0, .int .i64 a_1, a_2.v, a_3.v], .int .i64 k]) (rs := [.at (.int .i64)]) Tryz.func24 (by kernel_rfl) (by kernel_rfl) h

def V_l_markNetwork (Q : Int → World → Prop) (a_0 : Sl) (a_1 : Sl) (a_2 : Sl) (k : Int) (w : World) : Prop :=
  NEW T.t_i_Network #[a_0.v, a_1.v, a_2.v] w fun (p_a : Addr) w1 =>
  LD [.sl] (p_a.add 0) w1 fun (x6 : Sl) =>
  Calls Tryz.prog F.l_markEndSS #[x6.v, .int .i64 k] w1 (Ret [.at (.int .i64)] fun (x8 : Int) w2 =>
  LD [.sl] (p_a.add 1) w2 fun (x10 : Sl) =>
  Calls Tryz.prog F.l_markIntS #[x10.v, .int .i64 x8] w2 (Ret [.at (.int .i64)] fun (x12 : Int) w3 =>
  LD [.sl] (p_a.add 2) w3 fun (x14 : Sl) =>
  Calls Tryz.prog F.l_markIntS #[x14.v, .int .i64 x12] w3 (Ret [.at (.int .i64)] fun (x16 : Int) w4 =>
  Q x16 w4)))

theorem C_l_markNetwork {Q : Int → World → Prop} {a_0 : Sl} {a_1 : Sl} {a_2 : Sl} {k : Int} {w : World} (h : V_l_markNetwork Q a_0 a_1 a_2 k w) : Calls Tryz.prog F.l_markNetwork #[.agg #[a_0.v, a_1.v, a_2.v], .int .i64 k] w (Ret [.at (.int .i64)] Q) :=
  mkC (hint := hint) (ann := annOf []) (args := [.agg #[a_0.v, a_1.v, a_2.v], .int .i64 k]) (rs := [.at (.int .i64)]) Tryz.func25 (by kernel_rfl) (by kernel_rfl) h

def V_l_markIntSS (Q : Int → World → Prop) (a : Sl) (k : Int) (w : World) : Prop :=
  ∃ (I2 : Int → Int → World → Prop) (m2 : Int → Int → World → Nat), I2 k 0 w ∧ ∀ (k_2 : Int) (i : Int) w1, I2 k_2 i w1 → ∀ _ _ _ _ _ _ _ _ _ _ _ _ : Value,
  cond (decide ((i : Int) < a.len)) (
  IX a i 1 fun (px14 : Addr) =>
  LD [.sl] px14 w1 fun (x15 : Sl) =>
  Calls Tryz.prog F.l_markIntS #[x15.v, .int .i64 k_2] w1 (Ret [.at (.int .i64)] fun (x17 : Int) w2 =>
  I2 x17 (IntKind.i64.wrap (i + 1)) w2 ∧ m2 x17 (IntKind.i64.wrap (i + 1)) w2 < m2 k_2 i w1)) (
  Q k_2 w1)

theorem C_l_markIntSS {Q : Int → World → Prop} {a : Sl} {k : Int} {w : World} (h : V_l_markIntSS Q a k w) : Calls Tryz.prog F.l_markIntSS #[a.v, .int .i64 k] w (Ret [.at (.int .i64)] Q) :=
  mkC (hint := hint) (ann := annOf [(2, ⟨[(1, .int .i64), (5, .int .i64)], [6, 7, 8, 9, 10, 11, 12, 13, 14, 15, 16, 17]⟩)]) (args := [a.v, .int .i64 k]) (rs := [.at (.int .i64)]) Tryz.func26 (by kernel_rfl) (by kernel_rfl) h

def V_l_heldIntSS (Q : Int → World → Prop) (a : Sl) (k : Int) (w : World) : Prop :=
  ∃ (I2 : Int → Int → World → Prop) (m2 : Int → Int → World → Nat), I2 k 0 w ∧ ∀ (k_2 : Int) (i : Int) w1, I2 k_2 i w1 → ∀ _ _ _ _ _ _ _ _ _ _ _ _ _ _ _ : Value,
  cond (decide ((i : Int) < a.len)) (
  IX a i 1 fun (px14 : Addr) =>
  LD [.sl] px14 w1 fun (x15 : Sl) =>
  Calls Tryz.prog F.l_heldIntS #[x15.v, .int .i64 k_2] w1 (Ret [.at (.int .i64)] fun (x17 : Int) w2 =>
  cond (decide ((x17 : Int) < 0)) (
  Q (-1) w2) (
  I2 x17 (IntKind.i64.wrap (i + 1)) w2 ∧ m2 x17 (IntKind.i64.wrap (i + 1)) w2 < m2 k_2 i w1))) (
  Q k_2 w1)

theorem C_l_heldIntSS {Q : Int → World → Prop} {a : Sl} {k : Int} {w : World} (h : V_l_heldIntSS Q a k w) : Calls Tryz.prog F.l_heldIntSS #[a.v, .int .i64 k] w (Ret [.at (.int .i64)] Q) :=
  mkC (hint := hint) (ann := annOf [(2, ⟨[(1, .int .i64), (5, .int .i64)], [4, 6, 7, 8, 9, 10, 11, 12, 13, 14, 15, 16, 17, 18, 19]⟩)]) (args := [a.v, .int .i64 k]) (rs := [.at (.int .i64)]) Tryz.func27 (by kernel_rfl) (by kernel_rfl) h

def V_l_szIntSS (Q : Int → World → Prop) (a : Sl) (left : Int) (w : World) : Prop :=
  cond (decide (((IntKind.i64.wrap (left - a.len)) : Int) < 0)) (
  Q (-1) w) (
  ∃ (I5 : Int → Int → World → Prop) (m5 : Int → Int → World → Nat), I5 (IntKind.i64.wrap (left - a.len)) 0 w ∧ ∀ (left_2 : Int) (i : Int) w1, I5 left_2 i w1 → ∀ _ _ _ _ _ _ _ _ _ _ _ _ _ _ _ : Value,
  cond (decide ((i : Int) < a.len)) (
  IX a i 1 fun (px20 : Addr) =>
  LD [.sl] px20 w1 fun (x21 : Sl) =>
  Calls Tryz.prog F.l_szIntS #[x21.v, .int .i64 left_2] w1 (Ret [.at (.int .i64)] fun (x23 : Int) w2 =>
  cond (decide ((x23 : Int) < 0)) (
  Q (-1) w2) (
  I5 x23 (IntKind.i64.wrap (i + 1)) w2 ∧ m5 x23 (IntKind.i64.wrap (i + 1)) w2 < m5 left_2 i w1))) (
  Q left_2 w1))

theorem C_l_szIntSS {Q : Int → World → Prop} {a : Sl} {left : Int} {w : World} (h : V_l_szIntSS Q a left w) : Calls Tryz.prog F.l_szIntSS #[a.v, .int .i64 left] w (Ret [.at (.int .i64)] Q) :=
  mkC (hint := hint) (ann := annOf [(5, ⟨[(1, .int .i64), (5, .int .i64)], [4, 12, 13, 14, 15, 16, 17, 18, 19, 20, 21, 22, 23, 24, 25]⟩)]) (args := [a.v, .int .i64 left]) (rs := [.at (.int .i64)]) Tryz.func35 (by kernel_rfl) (by kernel_rfl) h

def V_l_toIntSS (Q : Sl → World → Prop) (a : Sl) (w : World) : Prop :=
  RUN Tryz.prog (.at .sl) (Instr.makeSlice T.t_sl_sl_int (.int .i64 a.len) (.int .i64 a.len)) w fun (x7 : Sl) w1 =>
  ∃ (I3 : Int → World → Prop) (m3 : Int → World → Nat), I3 0 w1 ∧ ∀ (i : Int) w2, I3 i w2 → ∀ _ _ _ _ _ _ _ _ _ _ _ _ _ _ : Value,
  cond (decide ((i : Int) < a.len)) (
  IX a i 1 fun (px18 : Addr) =>
  LD [.sl] px18 w2 fun (x19 : Sl) =>
  Calls Tryz.prog F.l_toIntS #[x19.v] w2 (Ret [.at .sl] fun (x20 : Sl) w3 =>
  IX x7 i 1 fun (px21 : Addr) =>
  ST px21 0 [x20.v] w3 fun w4 =>
  I3 (IntKind.i64.wrap (i + 1)) w4 ∧ m3 (IntKind.i64.wrap (i + 1)) w4 < m3 i w2)) (
  Q x7 w2)

theorem C_l_toIntSS {Q : Sl → World → Prop} {a : Sl} {w : World} (h : V_l_toIntSS Q a w) : Calls Tryz.prog F.l_toIntSS #[a.v] w (Ret [.at .sl] Q) :=
  mkC (hint := hint) (ann := annOf [(3, ⟨[(4, .int .i64)], [8, 9, 10, 11, 12, 13, 14, 15, 16, 17, 18, 19, 20, 21]⟩)]) (args := [a.v]) (rs := [.at .sl]) Tryz.func39 (by kernel_rfl) (by kernel_rfl) h

def V_l_szEndSS (Q : Int → World → Prop) (a : Sl) (left : Int) (w : World) : Prop :=
  cond (decide (((IntKind.i64.wrap (left - a.len)) : Int) < 0)) (
  Q (-1) w) (
  ∃ (I5 : Int → Int → World → Prop) (m5 : Int → Int → World → Nat), I5 (IntKind.i64.wrap (left - a.len)) 0 w ∧ ∀ (left_2 : Int) (i : Int) w1, I5 left_2 i w1 → ∀ _ _ _ _ _ _ _ _ _ _ _ _ _ _ _ : Value,
  cond (decide ((i : Int) < a.len)) (
  IX a i 1 fun (px20 : Addr) =>
  LD [.sl] px20 w1 fun (x21 : Sl) =>
  Calls Tryz.prog F.l_szEndS #[x21.v, .int .i64 left_2] w1 (Ret [.at (.int .i64)] fun (x23 : Int) w2 =>
  cond (decide ((x23 : Int) < 0)) (
  Q (-1) w2) (
  I5 x23 (IntKind.i64.wrap (i + 1)) w2 ∧ m5 x23 (IntKind.i64.wrap (i + 1)) w2 < m5 left_2 i w1))) (
  Q left_2 w1))

theorem C_l_szEndSS {Q : Int → World → Prop} {a : Sl} {left : Int} {w : World} (h : V_l_szEndSS Q a left w) : Calls Tryz.prog F.l_szEndSS #[a.v, .int .i64 left] w (Ret [.at (.int .i64)] Q) :=
  mkC (hint := hint) (ann := annOf [(5, ⟨[(1, .int .i64), (5, .int .i64)], [4, 12, 13, 14, 15, 16, 17, 18, 19, 20, 21, 22, 23, 24, 25]⟩)]) (args := [a.v, .int .i64 left]) (rs := [.at (.int .i64)]) Tryz.func44 (by kernel_rfl) (by kernel_rfl) h

def V_l_szIntS (Q : Int → World → Prop) (a : Sl) (left : Int) (w : World) : Prop :=
  cond (decide (((IntKind.i64.wrap (left - a.len)) : Int) < 0)) (
  Q (-1) w) (
  Q (IntKind.i64.wrap (left - a.len)) w)

theorem C_l_szIntS {Q : Int → World → Prop} {a : Sl} {left : Int} {w : World} (h : V_l_szIntS Q a left w) : Calls Tryz.prog F.l_szIntS #[a.v, .int .i64 left] w (Ret [.at (.int .i64)] Q) :=
  mkC (hint := hint) (ann := annOf []) (args := [a.v, .int .i64 left]) (rs := [.at (.int .i64)]) Tryz.func45 (by kernel_rfl) (by kernel_rfl) h

def V_s_EliminateTimes_k1 (k : Int) (Q : Sl → Bool → World → Prop) (p_p : Addr) (w4 : World) : Prop :=
  ∀ w5, Ext w4 w5 → w5.heap = w4.heap →
  LD [.int .i64] (p_p.add 0) w5 fun (x20 : Int) =>
  LD [.int .i64] (p_p.add 1) w5 fun (x22 : Int) =>
  LD [.sl] (p_p.add 2) w5 fun (x24 : Sl) =>
  LD [.sl] (p_p.add 3) w5 fun (x27 : Sl) =>
  Calls Tryz.prog F.s_reOwn #[x24.v] w5 (Ret [.at .sl] fun (x25 : Sl) w6 =>
  Ext w5 w6 ∧ (
  Calls Tryz.prog F.s_reOwn #[x27.v] w6 (Ret [.at .sl] fun (x28 : Sl) w7 =>
  Ext w5 w7 ∧ (
  Ext w5 w7 ∧ (
  RUN Tryz.prog (.at .sl) (Instr.buildSlice T.t_sl_i_Problem 1 #[(0, .agg #[.int .i64 x20, .int .i64 x22, x25.v, x28.v])]) w7 fun (x30 : Sl) w8 =>
  Ext w5 w8 ∧ (
  ∃ (I4 : Sl → World → Prop) (m4 : Sl → World → Nat), I4 x30 w8 ∧ ∀ (out : Sl) w9, I4 out w9 → ∀ _ _ _ _ _ _ _ _ _ _ _ _ _ _ _ _ _ _ _ _ _ _ _ _ _ _ _ _ : Value,
  cond (decide ((out.len : Int) ≤ k)) (
  IX out (IntKind.i64.wrap (out.len - 1)) 4 fun (px40 : Addr) =>
  LD [.int .i64, .int .i64, .sl, .sl] px40 w9 fun (x41_0 : Int) (x41_1 : Int) (x41_2 : Sl) (x41_3 : Sl) =>
  Calls Tryz.prog F.s_EliminateRound #[.agg #[.int .i64 x41_0, .int .i64 x41_1, x41_2.v, x41_3.v]] w9 (Ret [.agg [.int .i64, .int .i64, .sl, .sl], .at .sl, .at .sl, .at .bool] fun (x42_0_0 : Int) (x42_0_1 : Int) (x42_0_2 : Sl) (x42_0_3 : Sl) (x42_1 : Sl) (x42_2 : Sl) (x42_3 : Bool) w10 =>
  NEW T.t_i_Problem #[.int .i64 0, .int .i64 0, .slice none 0 0, .slice none 0 0] w10 fun (p_q : Addr) w11 =>
  ST p_q 0 [.int .i64 x42_0_0, .int .i64 x42_0_1, x42_0_2.v, x42_0_3.v] w11 fun w12 =>
  cond (!x42_3) (
  Q (⟨none, 0, 0⟩) false w12) (
  LD [.int .i64, .int .i64, .sl, .sl] p_q w12 fun (x50_0 : Int) (x50_1 : Int) (x50_2 : Sl) (x50_3 : Sl) =>
  RUN Tryz.prog (.at .sl) (Instr.buildSlice T.t_sl_i_Problem 1 #[(0, .agg #[.int .i64 x50_0, .int .i64 x50_1, x50_2.v, x50_3.v])]) w12 fun (x51 : Sl) w13 =>
  RUN Tryz.prog (.at .sl) (bsem .append #[T.t_sl_i_Problem, T.t_sl_i_Problem] T.t_sl_i_Problem #[out.v, x51.v]) w13 fun (x52 : Sl) w14 =>
  I4 x52 w14 ∧ m4 x52 w14 < m4 out w9))) (
  Q out true w9)))))))

def V_s_EliminateTimes (Q : Sl → Bool → World → Prop) (p_0 : Int) (p_1 : Int) (p_2 : Sl) (p_3 : Sl) (k : Int) (w : World) : Prop :=
  NEW T.t_i_Problem #[.int .i64 p_0, .int .i64 p_1, p_2.v, p_3.v] w fun (p_p : Addr) w1 =>
  LD [.int .i64, .int .i64, .sl, .sl] p_p w1 fun (x11_0 : Int) (x11_1 : Int) (x11_2 : Sl) (x11_3 : Sl) =>
  Calls Tryz.prog F.s_prGood #[.agg #[.int .i64 x11_0, .int .i64 x11_1, x11_2.v, x11_3.v]] w1 (Ret [.at .bool] fun (x12 : Bool) w2 =>
  cond (!x12) (
  Q (⟨none, 0, 0⟩) false w2) (
  Calls Tryz.prog F.s_l1In #[.int .i64 k, .int .i64 0, .int .i64 5] w2 (Ret [.at .bool] fun (x16 : Bool) w3 =>
  cond (!x16) (
  Q (⟨none, 0, 0⟩) false w3) (
  V_s_EliminateTimes_k1 k Q p_p w3))))

theorem C_s_EliminateTimes {Q : Sl → Bool → World → Prop} {p_0 : Int} {p_1 : Int} {p_2 : Sl} {p_3 : Sl} {k : Int} {w : World} (h : V_s_EliminateTimes Q p_0 p_1 p_2 p_3 k w) : Calls Tryz.prog F.s_EliminateTimes #[.agg #[.int .i64 p_0, .int .i64 p_1, p_2.v, p_3.v], .int .i64 k] w (Ret [.at .sl, .at .bool] Q) :=
  mkC (hint := hint) (ann := annOf [(4, ⟨[(6, .sl)], [4, 5, 7, 8, 9, 10, 31, 32, 33, 34, 35, 36, 37, 38, 39, 40, 41, 42, 43, 44, 45, 46, 47, 48, 49, 50, 51, 52]⟩)]) (args := [.agg #[.int .i64 p_0, .int .i64 p_1, p_2.v, p_3.v], .int .i64 k]) (rs := [.at .sl, .at .bool]) Tryz.func46 (by kernel_rfl) (by kernel_rfl) h

def V_s_neGood_k1 (Q : Bool → World → Prop) (px1 : Addr) (w5 : World) : Prop :=
  LD [.sl] (px1.add 0) w5 fun (x37 : Sl) =>
  ∃ (I4 : Int → World → Prop) (m4 : Int → World → Nat), I4 0 w5 ∧ ∀ (x39 : Int) w6, I4 x39 w6 → ∀ _ _ _ _ _ _ _ _ _ _ _ _ _ _ _ _ _ _ _ _ _ _ _ _ _ _ _ _ _ _ _ _ _ _ _ _ _ _ _ _ _ _ _ _ _ _ _ _ _ _ _ _ _ _ _ _ _ _ _ : Value,
  cond (decide ((x39 : Int) < x37.len)) (
  IX x37 x39 1 fun (px42 : Addr) =>
  LD [.sl] px42 w6 fun (x43 : Sl) =>
  cond (decide ((x43.len : Int) > 6)) (
  Q false w6) (
  ∃ (I9 : Int → World → Prop) (m9 : Int → World → Nat), I9 0 w6 ∧ ∀ (x49 : Int) w7, I9 x49 w7 → ∀ _ _ _ _ _ _ _ _ _ _ _ _ _ _ _ _ _ _ _ _ _ _ _ _ _ _ _ _ _ _ _ _ _ _ _ _ _ _ _ _ _ _ _ _ _ _ : Value,
  cond (decide ((x49 : Int) < x43.len)) (
  IX x43 x49 2 fun (px52 : Addr) =>
  LD [.int .i64, .int .i64] px52 w7 fun (x53_0 : Int) (x53_1 : Int) =>
  NEW T.t_i_End #[.int .i64 0, .int .i64 0] w7 fun (px6 : Addr) w8 =>
  ST px6 0 [.int .i64 x53_0, .int .i64 x53_1] w8 fun w9 =>
  LD [.int .i64] (px6.add 0) w9 fun (x55 : Int) =>
  LD [.sl] (px1.add 0) w9 fun (x57 : Sl) =>
  QCALL Tryz.prog F.s_l1In #[.int .i64 x55, .int .i64 0, .int .i64 (IntKind.i64.wrap (x57.len - 1))] w9 [.at .bool] fun (x60 : Bool) =>
  cond (!x60) (
  ∀ w10, Ext w9 w10 →
  Q false w10) (
  LD [.int .i64] (px6.add 1) w9 fun (x64 : Int) =>
  LD [.sl] (px1.add 0) w9 fun (x66 : Sl) =>
  LD [.int .i64] (px6.add 0) w9 fun (x68 : Int) =>
  IX x66 x68 1 fun (px69 : Addr) =>
  LD [.sl] px69 w9 fun (x70 : Sl) =>
  QCALL Tryz.prog F.s_l1In #[.int .i64 x64, .int .i64 0, .int .i64 (IntKind.i64.wrap (x70.len - 1))] w9 [.at .bool] fun (x73 : Bool) =>
  cond (!x73) (
  ∀ w11, Ext w9 w11 →
  Q false w11) (
  LD [.sl] (px1.add 0) w9 fun (x78 : Sl) =>
  LD [.int .i64] (px6.add 0) w9 fun (x80 : Int) =>
  IX x78 x80 1 fun (px81 : Addr) =>
  LD [.sl] px81 w9 fun (x82 : Sl) =>
  LD [.int .i64] (px6.add 1) w9 fun (x84 : Int) =>
  IX x82 x84 2 fun (px85 : Addr) =>
  LD [.int .i64, .int .i64] px85 w9 fun (x86_0 : Int) (x86_1 : Int) =>
  AEQ Tryz.prog (do eqGuard .neq T.t_i_End (.tmp 86) (.tmp 89) (.agg #[.int .i64 x86_0, .int .i64 x86_1]) (.agg #[.int .i64 x39, .int .i64 x49]); binOp .neq T.t_i_End (.agg #[.int .i64 x86_0, .int .i64 x86_1]) (.agg #[.int .i64 x39, .int .i64 x49])) fun (x90 : Bool) =>
  ∀ w12, Ext w9 w12 →
  cond x90 (
  Q false w12) (
  I9 (IntKind.i64.wrap (x49 + 1)) w12 ∧ m9 (IntKind.i64.wrap (x49 + 1)) w12 < m9 x49 w7)))) (
  I4 (IntKind.i64.wrap (x39 + 1)) w7 ∧ m4 (IntKind.i64.wrap (x39 + 1)) w7 < m4 x39 w6))) (
  Q true w6)

def V_s_neGood (Q : Bool → World → Prop) (x0_0 : Sl) (x0_1 : Sl) (x0_2 : Sl) (w : World) : Prop :=
  NEW T.t_i_Network #[x0_0.v, x0_1.v, x0_2.v] w fun (px1 : Addr) w1 =>
  LD [.sl] (px1.add 0) w1 fun (x8 : Sl) =>
  Calls Tryz.prog F.s_l1In #[.int .i64 x8.len, .int .i64 1, .int .i64 40] w1 (Ret [.at .bool] fun (x10 : Bool) w2 =>
  cond (!x10) (
  Q false w2) (
  LD [.sl] (px1.add 1) w2 fun (x14 : Sl) =>
  LD [.sl] (px1.add 0) w2 fun (x16 : Sl) =>
  Calls Tryz.prog F.s_neIds #[x14.v, .int .i64 x16.len] w2 (Ret [.at .bool] fun (x18 : Bool) w3 =>
  cond (!x18) (
  Q false w3) (
  LD [.sl] (px1.add 2) w3 fun (x23 : Sl) =>
  LD [.sl] (px1.add 0) w3 fun (x26 : Sl) =>
  cond ((x23.len : Int) != x26.len) (
  Q false w3) (
  LD [.sl] (px1.add 2) w3 fun (x32 : Sl) =>
  Calls Tryz.prog F.s_l1All #[x32.v, .int .i64 0, .int .i64 9] w3 (Ret [.at .bool] fun (x33 : Bool) w4 =>
  cond (!x33) (
  Q false w4) (
  V_s_neGood_k1 Q px1 w4)))))))

theorem C_s_neGood {Q : Bool → World → Prop} {x0_0 : Sl} {x0_1 : Sl} {x0_2 : Sl} {w : World} (h : V_s_neGood Q x0_0 x0_1 x0_2 w) : Calls Tryz.prog F.s_neGood #[.agg #[x0_0.v, x0_1.v, x0_2.v]] w (Ret [.at .bool] Q) :=
  mkC (hint := hint) (ann := annOf [(4, ⟨[(39, .int .i64)], [2, 3, 4, 5, 6, 40, 41, 42, 43, 44, 45, 46, 47, 48, 49, 50, 51, 52, 53, 54, 55, 56, 57, 58, 59, 60, 61, 62, 63, 64, 65, 66, 67, 68, 69, 70, 71, 72, 73, 74, 75, 76, 77, 78, 79, 80, 81, 82, 83, 84, 85, 86, 87, 88, 89, 90, 91, 92, 93]⟩), (9, ⟨[(49, .int .i64)], [2, 5, 6, 50, 51, 52, 53, 54, 55, 56, 57, 58, 59, 60, 61, 62, 63, 64, 65, 66, 67, 68, 69, 70, 71, 72, 73, 74, 75, 76, 77, 78, 79, 80, 81, 82, 83, 84, 85, 86, 87, 88, 89, 90, 91, 92]⟩)]) (args := [.agg #[x0_0.v, x0_1.v, x0_2.v]]) (rs := [.at .bool]) Tryz.func47 (by kernel_rfl) (by kernel_rfl) h

def V_s_meStub (Q : Bool → World → Prop) (n_0 : Sl) (n_1 : Sl) (n_2 : Sl) (w : World) : Prop :=
  NEW T.t_i_Network #[n_0.v, n_1.v, n_2.v] w fun (p_n : Addr) w1 =>
  LD [.sl] (p_n.add 0) w1 fun (x7 : Sl) =>
  ∃ (I2 : Int → World → Prop) (m2 : Int → World → Nat), I2 0 w1 ∧ ∀ (x9 : Int) w2, I2 x9 w2 → ∀ _ _ _ _ _ _ _ _ _ _ _ _ _ _ _ _ _ _ _ _ _ _ _ _ : Value,
  cond (decide ((x9 : Int) < x7.len)) (
  LD [.sl] (p_n.add 0) w2 fun (x13 : Sl) =>
  IX x13 x9 1 fun (px15 : Addr) =>
  LD [.sl] px15 w2 fun (x16 : Sl) =>
  ∃ (I5 : Int → World → Prop) (m5 : Int → World → Nat), I5 0 w2 ∧ ∀ (x18 : Int) w3, I5 x18 w3 → ∀ _ _ _ _ _ _ _ _ _ _ _ _ _ : Value,
  cond (decide ((x18 : Int) < x16.len)) (
  IX x16 x18 2 fun (px21 : Addr) =>
  LD [.int .i64, .int .i64] px21 w3 fun (x22_0 : Int) (x22_1 : Int) =>
  NEW T.t_i_End #[.int .i64 0, .int .i64 0] w3 fun (p_e : Addr) w4 =>
  ST p_e 0 [.int .i64 x22_0, .int .i64 x22_1] w4 fun w5 =>
  LD [.int .i64, .int .i64] p_e w5 fun (x23_0 : Int) (x23_1 : Int) =>
  AEQ Tryz.prog (do eqGuard .eql T.t_i_End (.tmp 23) (.tmp 26) (.agg #[.int .i64 x23_0, .int .i64 x23_1]) (.agg #[.int .i64 x9, .int .i64 x18]); binOp .eql T.t_i_End (.agg #[.int .i64 x23_0, .int .i64 x23_1]) (.agg #[.int .i64 x9, .int .i64 x18])) fun (x27 : Bool) =>
  cond x27 (
  Q true w5) (
  I5 (IntKind.i64.wrap (x18 + 1)) w5 ∧ m5 (IntKind.i64.wrap (x18 + 1)) w5 < m5 x18 w3)) (
  I2 (IntKind.i64.wrap (x9 + 1)) w3 ∧ m2 (IntKind.i64.wrap (x9 + 1)) w3 < m2 x9 w2)) (
  Q false w2)

theorem C_s_meStub {Q : Bool → World → Prop} {n_0 : Sl} {n_1 : Sl} {n_2 : Sl} {w : World} (h : V_s_meStub Q n_0 n_1 n_2 w) : Calls Tryz.prog F.s_meStub #[.agg #[n_0.v, n_1.v, n_2.v]] w (Ret [.at .bool] Q) :=
  mkC (hint := hint) (ann := annOf [(2, ⟨[(9, .int .i64)], [2, 3, 4, 5, 10, 11, 12, 13, 14, 15, 16, 17, 18, 19, 20, 21, 22, 23, 24, 25, 26, 27, 28, 29]⟩), (5, ⟨[(18, .int .i64)], [2, 4, 5, 19, 20, 21, 22, 23, 24, 25, 26, 27, 28]⟩)]) (args := [.agg #[n_0.v, n_1.v, n_2.v]]) (rs := [.at .bool]) Tryz.func48 (by kernel_rfl) (by kernel_rfl) h

def V_s_ZeroLabeling_k1 (Q : Sl → Bool → World → Prop) (p_p : Addr) (p_n : Addr) (x13_0 : Sl) (w5 : World) : Prop :=
  LD [.sl] (p_n.add 0) w5 fun (x24 : Sl) =>
  ∃ (I6 : Sl → Int → World → Prop) (m6 : Sl → Int → World → Nat), I6 (⟨none, 0, 0⟩) 0 w5 ∧ ∀ (out : Sl) (x26 : Int) w6, I6 out x26 w6 → ∀ _ _ _ _ _ _ _ _ _ _ _ _ _ : Value,
  cond (decide ((x26 : Int) < x24.len)) (
  IX x24 x26 1 fun (px28 : Addr) =>
  LD [.sl] px28 w6 fun (x29 : Sl) =>
  LD [.int .i64, .int .i64, .sl, .sl] p_p w6 fun (x31_0 : Int) (x31_1 : Int) (x31_2 : Sl) (x31_3 : Sl) =>
  Calls Tryz.prog F.s_zeRow #[.agg #[.int .i64 x31_0, .int .i64 x31_1, x31_2.v, x31_3.v], x13_0.v, .int .i64 x29.len] w6 (Ret [.at .sl] fun (x35 : Sl) w7 =>
  RUN Tryz.prog (.at .sl) (Instr.buildSlice T.t_sl_sl_int 1 #[(0, x35.v)]) w7 fun (x36 : Sl) w8 =>
  RUN Tryz.prog (.at .sl) (bsem .append #[T.t_sl_sl_int, T.t_sl_sl_int] T.t_sl_sl_int #[out.v, x36.v]) w8 fun (x37 : Sl) w9 =>
  I6 x37 (IntKind.i64.wrap (x26 + 1)) w9 ∧ m6 x37 (IntKind.i64.wrap (x26 + 1)) w9 < m6 out x26 w6)) (
  Q out true w6)

def V_s_ZeroLabeling (Q : Sl → Bool → World → Prop) (p_0 : Int) (p_1 : Int) (p_2 : Sl) (p_3 : Sl) (n_0 : Sl) (n_1 : Sl) (n_2 : Sl) (w : World) : Prop :=
  NEW T.t_i_Problem #[.int .i64 p_0, .int .i64 p_1, p_2.v, p_3.v] w fun (p_p : Addr) w1 =>
  NEW T.t_i_Network #[n_0.v, n_1.v, n_2.v] w1 fun (p_n : Addr) w2 =>
  LD [.int .i64, .int .i64, .sl, .sl] p_p w2 fun (x12_0 : Int) (x12_1 : Int) (x12_2 : Sl) (x12_3 : Sl) =>
  Calls Tryz.prog F.s_ZeroConfiguration #[.agg #[.int .i64 x12_0, .int .i64 x12_1, x12_2.v, x12_3.v]] w2 (Ret [.at .sl, .at .bool] fun (x13_0 : Sl) (x13_1 : Bool) w3 =>
  cond (!x13_1) (
  Q (⟨none, 0, 0⟩) false w3) (
  LD [.sl, .sl, .sl] p_n w3 fun (x19_0 : Sl) (x19_1 : Sl) (x19_2 : Sl) =>
  Calls Tryz.prog F.s_neGood #[.agg #[x19_0.v, x19_1.v, x19_2.v]] w3 (Ret [.at .bool] fun (x20 : Bool) w4 =>
  cond (!x20) (
  Q (⟨none, 0, 0⟩) false w4) (
  V_s_ZeroLabeling_k1 Q p_p p_n x13_0 w4))))

theorem C_s_ZeroLabeling {Q : Sl → Bool → World → Prop} {p_0 : Int} {p_1 : Int} {p_2 : Sl} {p_3 : Sl} {n_0 : Sl} {n_1 : Sl} {n_2 : Sl} {w : World} (h : V_s_ZeroLabeling Q p_0 p_1 p_2 p_3 n_0 n_1 n_2 w) : Calls Tryz.prog F.s_ZeroLabeling #[.agg #[.int .i64 p_0, .int .i64 p_1, p_2.v, p_3.v], .agg #[n_0.v, n_1.v, n_2.v]] w (Ret [.at .sl, .at .bool] Q) :=
  mkC (hint := hint) (ann := annOf [(6, ⟨[(8, .sl), (26, .int .i64)], [10, 27, 28, 29, 30, 31, 32, 33, 34, 35, 36, 37, 38]⟩)]) (args := [.agg #[.int .i64 p_0, .int .i64 p_1, p_2.v, p_3.v], .agg #[n_0.v, n_1.v, n_2.v]]) (rs := [.at .sl, .at .bool]) Tryz.func49 (by kernel_rfl) (by kernel_rfl) h

def V_s_PullRound (Q : Sl → Bool → World → Prop) (p_0 : Int) (p_1 : Int) (p_2 : Sl) (p_3 : Sl) (n_0 : Sl) (n_1 : Sl) (n_2 : Sl) (l : Sl) (w : World) : Prop :=
  NEW T.t_i_Problem #[.int .i64 p_0, .int .i64 p_1, p_2.v, p_3.v] w fun (p_p : Addr) w1 =>
  NEW T.t_i_Network #[n_0.v, n_1.v, n_2.v] w1 fun (p_n : Addr) w2 =>
  LD [.int .i64, .int .i64, .sl, .sl] p_p w2 fun (x14_0 : Int) (x14_1 : Int) (x14_2 : Sl) (x14_3 : Sl) =>
  Calls Tryz.prog F.s_EdgeStep #[.agg #[.int .i64 x14_0, .int .i64 x14_1, x14_2.v, x14_3.v]] w2 (Ret [.agg [.int .i64, .int .i64, .sl, .sl], .at .sl, .at .bool] fun (x15_0_0 : Int) (x15_0_1 : Int) (x15_0_2 : Sl) (x15_0_3 : Sl) (x15_1 : Sl) (x15_2 : Bool) w3 =>
  NEW T.t_i_Problem #[.int .i64 0, .int .i64 0, .slice none 0 0, .slice none 0 0] w3 fun (p_q : Addr) w4 =>
  ST p_q 0 [.int .i64 x15_0_0, .int .i64 x15_0_1, x15_0_2.v, x15_0_3.v] w4 fun w5 =>
  cond (!x15_2) (
  Q (⟨none, 0, 0⟩) false w5) (
  LD [.int .i64, .int .i64, .sl, .sl] p_q w5 fun (x22_0 : Int) (x22_1 : Int) (x22_2 : Sl) (x22_3 : Sl) =>
  LD [.sl, .sl, .sl] p_n w5 fun (x23_0 : Sl) (x23_1 : Sl) (x23_2 : Sl) =>
  Calls Tryz.prog F.s_PullNodeStep #[.agg #[.int .i64 x22_0, .int .i64 x22_1, x22_2.v, x22_3.v], .agg #[x23_0.v, x23_1.v, x23_2.v], l.v] w5 (Ret [.at .sl, .at .bool] fun (x25_0 : Sl) (x25_1 : Bool) w6 =>
  cond (!x25_1) (
  Q (⟨none, 0, 0⟩) false w6) (
  LD [.int .i64, .int .i64, .sl, .sl] p_p w6 fun (x30_0 : Int) (x30_1 : Int) (x30_2 : Sl) (x30_3 : Sl) =>
  Calls Tryz.prog F.s_elPullEdge #[.agg #[.int .i64 x30_0, .int .i64 x30_1, x30_2.v, x30_3.v], x15_1.v, x25_0.v] w6 (Ret [.at .sl] fun (x33 : Sl) w7 =>
  Q x33 true w7)))))

theorem C_s_PullRound {Q : Sl → Bool → World → Prop} {p_0 : Int} {p_1 : Int} {p_2 : Sl} {p_3 : Sl} {n_0 : Sl} {n_1 : Sl} {n_2 : Sl} {l : Sl} {w : World} (h : V_s_PullRound Q p_0 p_1 p_2 p_3 n_0 n_1 n_2 l w) : Calls Tryz.prog F.s_PullRound #[.agg #[.int .i64 p_0, .int .i64 p_1, p_2.v, p_3.v], .agg #[n_0.v, n_1.v, n_2.v], l.v] w (Ret [.at .sl, .at .bool] Q) :=
  mkC (hint := hint) (ann := annOf []) (args := [.agg #[.int .i64 p_0, .int .i64 p_1, p_2.v, p_3.v], .agg #[n_0.v, n_1.v, n_2.v], l.v]) (rs := [.at .sl, .at .bool]) Tryz.func50 (by kernel_rfl) (by kernel_rfl) h

def V_l_toEndSS (Q : Sl → World → Prop) (a : Sl) (w : World) : Prop :=
  RUN Tryz.prog (.at .sl) (Instr.makeSlice T.t_sl_sl_i_End (.int .i64 a.len) (.int .i64 a.len)) w fun (x7 : Sl) w1 =>
  ∃ (I3 : Int → World → Prop) (m3 : Int → World → Nat), I3 0 w1 ∧ ∀ (i : Int) w2, I3 i w2 → ∀ _ _ _ _ _ _ _ _ _ _ _ _ _ _ : Value,
  cond (decide ((i : Int) < a.len)) (
  IX a i 1 fun (px18 : Addr) =>
  LD [.sl] px18 w2 fun (x19 : Sl) =>
  Calls Tryz.prog F.l_toEndS #[x19.v] w2 (Ret [.at .sl] fun (x20 : Sl) w3 =>
  IX x7 i 1 fun (px21 : Addr) =>
  ST px21 0 [x20.v] w3 fun w4 =>
  I3 (IntKind.i64.wrap (i + 1)) w4 ∧ m3 (IntKind.i64.wrap (i + 1)) w4 < m3 i w2)) (
  Q x7 w2)

theorem C_l_toEndSS {Q : Sl → World → Prop} {a : Sl} {w : World} (h : V_l_toEndSS Q a w) : Calls Tryz.prog F.l_toEndSS #[a.v] w (Ret [.at .sl] Q) :=
  mkC (hint := hint) (ann := annOf [(3, ⟨[(4, .int .i64)], [8, 9, 10, 11, 12, 13, 14, 15, 16, 17, 18, 19, 20, 21]⟩)]) (args := [a.v]) (rs := [.at .sl]) Tryz.func51 (by kernel_rfl) (by kernel_rfl) h

def V_l_toIntS (Q : Sl → World → Prop) (a : Sl) (w : World) : Prop :=
  RUN Tryz.prog (.at .sl) (Instr.makeSlice T.t_sl_int (.int .i64 a.len) (.int .i64 a.len)) w fun (x7 : Sl) w1 =>
  ∃ (I3 : Int → World → Prop) (m3 : Int → World → Nat), I3 0 w1 ∧ ∀ (i : Int) w2, I3 i w2 → ∀ _ _ _ _ _ _ _ _ _ _ _ _ _ : Value,
  cond (decide ((i : Int) < a.len)) (
  IX a i 1 fun (px18 : Addr) =>
  LD [.int .i64] px18 w2 fun (x19 : Int) =>
  IX x7 i 1 fun (px20 : Addr) =>
  ST px20 0 [.int .i64 x19] w2 fun w3 =>
  I3 (IntKind.i64.wrap (i + 1)) w3 ∧ m3 (IntKind.i64.wrap (i + 1)) w3 < m3 i w2) (
  Q x7 w2)

theorem C_l_toIntS {Q : Sl → World → Prop} {a : Sl} {w : World} (h : V_l_toIntS Q a w) : Calls Tryz.prog F.l_toIntS #[a.v] w (Ret [.at .sl] Q) :=
  mkC (hint := hint) (ann := annOf [(3, ⟨[(4, .int .i64)], [8, 9, 10, 11, 12, 13, 14, 15, 16, 17, 18, 19, 20]⟩)]) (args := [a.v]) (rs := [.at .sl]) Tryz.func52 (by kernel_rfl) (by kernel_rfl) h

def V_i_EliminateTimes_k1 (k : Int) (Q : Sl → Bool → World → Prop) (p_p : Addr) (w4 : World) : Prop :=
  LD [.int .i64, .int .i64, .sl, .sl] p_p w4 fun (x20_0 : Int) (x20_1 : Int) (x20_2 : Sl) (x20_3 : Sl) =>
  Calls Tryz.prog F.i_copyProblem #[.agg #[.int .i64 x20_0, .int .i64 x20_1, x20_2.v, x20_3.v]] w4 (Ret [.agg [.int .i64, .int .i64, .sl, .sl]] fun (x21_0 : Int) (x21_1 : Int) (x21_2 : Sl) (x21_3 : Sl) w5 =>
  RUN Tryz.prog (.at .sl) (Instr.buildSlice T.t_sl_i_Problem 1 #[(0, .agg #[.int .i64 x21_0, .int .i64 x21_1, x21_2.v, x21_3.v])]) w5 fun (x22 : Sl) w6 =>
  ∃ (I5 : Sl → Int → World → Prop) (m5 : Sl → Int → World → Nat), I5 x22 0 w6 ∧ ∀ (out : Sl) (x24 : Int) w7, I5 out x24 w7 → ∀ _ _ _ _ _ _ _ _ _ _ _ _ _ _ _ _ _ _ _ _ _ _ _ _ _ _ : Value,
  cond (decide ((x24 : Int) < k)) (
  IX out x24 4 fun (px30 : Addr) =>
  LD [.int .i64, .int .i64, .sl, .sl] px30 w7 fun (x31_0 : Int) (x31_1 : Int) (x31_2 : Sl) (x31_3 : Sl) =>
  Calls Tryz.prog F.i_eliminate #[.agg #[.int .i64 x31_0, .int .i64 x31_1, x31_2.v, x31_3.v]] w7 (Ret [.agg [.int .i64, .int .i64, .sl, .sl], .at .sl, .at .sl, .at .bool] fun (x32_0_0 : Int) (x32_0_1 : Int) (x32_0_2 : Sl) (x32_0_3 : Sl) (x32_1 : Sl) (x32_2 : Sl) (x32_3 : Bool) w8 =>
  NEW T.t_i_Problem #[.int .i64 0, .int .i64 0, .slice none 0 0, .slice none 0 0] w8 fun (p_next : Addr) w9 =>
  ST p_next 0 [.int .i64 x32_0_0, .int .i64 x32_0_1, x32_0_2.v, x32_0_3.v] w9 fun w10 =>
  cond (!x32_3) (
  Q (⟨none, 0, 0⟩) false w10) (
  LD [.int .i64, .int .i64, .sl, .sl] p_next w10 fun (x40_0 : Int) (x40_1 : Int) (x40_2 : Sl) (x40_3 : Sl) =>
  RUN Tryz.prog (.at .sl) (Instr.buildSlice T.t_sl_i_Problem 1 #[(0, .agg #[.int .i64 x40_0, .int .i64 x40_1, x40_2.v, x40_3.v])]) w10 fun (x41 : Sl) w11 =>
  RUN Tryz.prog (.at .sl) (bsem .append #[T.t_sl_i_Problem, T.t_sl_i_Problem] T.t_sl_i_Problem #[out.v, x41.v]) w11 fun (x42 : Sl) w12 =>
  I5 x42 (IntKind.i64.wrap (x24 + 1)) w12 ∧ m5 x42 (IntKind.i64.wrap (x24 + 1)) w12 < m5 out x24 w7))) (
  Q out true w7))

def V_i_EliminateTimes (Q : Sl → Bool → World → Prop) (p_0 : Int) (p_1 : Int) (p_2 : Sl) (p_3 : Sl) (k : Int) (w : World) : Prop :=
  NEW T.t_i_Problem #[.int .i64 p_0, .int .i64 p_1, p_2.v, p_3.v] w fun (p_p : Addr) w1 =>
  LD [.int .i64, .int .i64, .sl, .sl] p_p w1 fun (x12_0 : Int) (x12_1 : Int) (x12_2 : Sl) (x12_3 : Sl) =>
  Calls Tryz.prog F.i_IsProblem #[.agg #[.int .i64 x12_0, .int .i64 x12_1, x12_2.v, x12_3.v]] w1 (Ret [.at .bool] fun (x13 : Bool) w2 =>
  cond (!x13) (
  Q (⟨none, 0, 0⟩) false w2) (
  Calls Tryz.prog F.i_isRounds #[.int .i64 k] w2 (Ret [.at .bool] fun (x17 : Bool) w3 =>
  cond (!x17) (
  Q (⟨none, 0, 0⟩) false w3) (
  V_i_EliminateTimes_k1 k Q p_p w3))))

theorem C_i_EliminateTimes {Q : Sl → Bool → World → Prop} {p_0 : Int} {p_1 : Int} {p_2 : Sl} {p_3 : Sl} {k : Int} {w : World} (h : V_i_EliminateTimes Q p_0 p_1 p_2 p_3 k w) : Calls Tryz.prog F.i_EliminateTimes #[.agg #[.int .i64 p_0, .int .i64 p_1, p_2.v, p_3.v], .int .i64 k] w (Ret [.at .sl, .at .bool] Q) :=
  mkC (hint := hint) (ann := annOf [(5, ⟨[(6, .sl), (24, .int .i64)], [4, 5, 7, 8, 9, 10, 11, 25, 26, 27, 28, 29, 30, 31, 32, 33, 34, 35, 36, 37, 38, 39, 40, 41, 42, 43]⟩)]) (args := [.agg #[.int .i64 p_0, .int .i64 p_1, p_2.v, p_3.v], .int .i64 k]) (rs := [.at .sl, .at .bool]) Tryz.func53 (by kernel_rfl) (by kernel_rfl) h

def V_i_IsNetwork_k1 (Q : Bool → World → Prop) (px1 : Addr) (w5 : World) : Prop :=
  LD [.sl] (px1.add 0) w5 fun (x31 : Sl) =>
  ∃ (I4 : Int → World → Prop) (m4 : Int → World → Nat), I4 0 w5 ∧ ∀ (x33 : Int) w6, I4 x33 w6 → ∀ _ _ _ _ _ _ _ _ _ _ _ _ _ _ _ _ _ _ _ _ _ _ _ _ _ _ _ _ _ _ _ _ _ _ _ _ _ _ _ _ _ _ _ _ : Value,
  cond (decide ((x33 : Int) < x31.len)) (
  IX x31 x33 1 fun (px36 : Addr) =>
  LD [.sl] px36 w6 fun (x37 : Sl) =>
  cond (decide ((x37.len : Int) > 6)) (
  Q false w6) (
  ∃ (I9 : Int → World → Prop) (m9 : Int → World → Nat), I9 0 w6 ∧ ∀ (x43 : Int) w7, I9 x43 w7 → ∀ _ _ _ _ _ _ _ _ _ _ _ _ _ _ _ _ _ _ _ _ _ _ _ _ _ _ _ _ _ _ _ : Value,
  cond (decide ((x43 : Int) < x37.len)) (
  IX x37 x43 2 fun (px46 : Addr) =>
  LD [.int .i64, .int .i64] px46 w7 fun (x47_0 : Int) (x47_1 : Int) =>
  NEW T.t_i_End #[.int .i64 0, .int .i64 0] w7 fun (px6 : Addr) w8 =>
  ST px6 0 [.int .i64 x47_0, .int .i64 x47_1] w8 fun w9 =>
  LD [.sl, .sl, .sl] px1 w9 fun (x48_0 : Sl) (x48_1 : Sl) (x48_2 : Sl) =>
  LD [.int .i64] (px6.add 0) w9 fun (x50 : Int) =>
  LD [.int .i64] (px6.add 1) w9 fun (x52 : Int) =>
  QCALL Tryz.prog F.i_Network_hasPort #[.agg #[x48_0.v, x48_1.v, x48_2.v], .int .i64 x50, .int .i64 x52] w9 [.at .bool] fun (x53 : Bool) =>
  cond (!x53) (
  ∀ w10, Ext w9 w10 →
  Q false w10) (
  LD [.sl] (px1.add 0) w9 fun (x57 : Sl) =>
  LD [.int .i64] (px6.add 0) w9 fun (x59 : Int) =>
  IX x57 x59 1 fun (px60 : Addr) =>
  LD [.sl] px60 w9 fun (x61 : Sl) =>
  LD [.int .i64] (px6.add 1) w9 fun (x63 : Int) =>
  IX x61 x63 2 fun (px64 : Addr) =>
  LD [.int .i64, .int .i64] px64 w9 fun (x65_0 : Int) (x65_1 : Int) =>
  AEQ Tryz.prog (do eqGuard .neq T.t_i_End (.tmp 65) (.tmp 68) (.agg #[.int .i64 x65_0, .int .i64 x65_1]) (.agg #[.int .i64 x33, .int .i64 x43]); binOp .neq T.t_i_End (.agg #[.int .i64 x65_0, .int .i64 x65_1]) (.agg #[.int .i64 x33, .int .i64 x43])) fun (x69 : Bool) =>
  ∀ w11, Ext w9 w11 →
  cond x69 (
  Q false w11) (
  I9 (IntKind.i64.wrap (x43 + 1)) w11 ∧ m9 (IntKind.i64.wrap (x43 + 1)) w11 < m9 x43 w7))) (
  I4 (IntKind.i64.wrap (x33 + 1)) w7 ∧ m4 (IntKind.i64.wrap (x33 + 1)) w7 < m4 x33 w6))) (
  Q true w6)

def V_i_IsNetwork (Q : Bool → World → Prop) (x0_0 : Sl) (x0_1 : Sl) (x0_2 : Sl) (w : World) : Prop :=
  NEW T.t_i_Network #[x0_0.v, x0_1.v, x0_2.v] w fun (px1 : Addr) w1 =>
  LD [.sl] (px1.add 0) w1 fun (x8 : Sl) =>
  Calls Tryz.prog F.i_within #[.int .i64 x8.len, .int .i64 1, .int .i64 40] w1 (Ret [.at .bool] fun (x10 : Bool) w2 =>
  cond (!x10) (
  Q false w2) (
  LD [.sl] (px1.add 1) w2 fun (x14 : Sl) =>
  LD [.sl] (px1.add 0) w2 fun (x16 : Sl) =>
  Calls Tryz.prog F.i_idsOk #[x14.v, .int .i64 x16.len] w2 (Ret [.at .bool] fun (x18 : Bool) w3 =>
  cond (!x18) (
  Q false w3) (
  LD [.sl] (px1.add 2) w3 fun (x23 : Sl) =>
  LD [.sl] (px1.add 0) w3 fun (x25 : Sl) =>
  Calls Tryz.prog F.i_inputsOk #[x23.v, .int .i64 x25.len] w3 (Ret [.at .bool] fun (x27 : Bool) w4 =>
  cond (!x27) (
  Q false w4) (
  V_i_IsNetwork_k1 Q px1 w4))))))

theorem C_i_IsNetwork {Q : Bool → World → Prop} {x0_0 : Sl} {x0_1 : Sl} {x0_2 : Sl} {w : World} (h : V_i_IsNetwork Q x0_0 x0_1 x0_2 w) : Calls Tryz.prog F.i_IsNetwork #[.agg #[x0_0.v, x0_1.v, x0_2.v]] w (Ret [.at .bool] Q) :=
  mkC (hint := hint) (ann := annOf [(4, ⟨[(33, .int .i64)], [2, 3, 4, 5, 6, 34, 35, 36, 37, 38, 39, 40, 41, 42, 43, 44, 45, 46, 47, 48, 49, 50, 51, 52, 53, 54, 55, 56, 57, 58, 59, 60, 61, 62, 63, 64, 65, 66, 67, 68, 69, 70, 71, 72]⟩), (9, ⟨[(43, .int .i64)], [2, 5, 6, 44, 45, 46, 47, 48, 49, 50, 51, 52, 53, 54, 55, 56, 57, 58, 59, 60, 61, 62, 63, 64, 65, 66, 67, 68, 69, 70, 71]⟩)]) (args := [.agg #[x0_0.v, x0_1.v, x0_2.v]]) (rs := [.at .bool]) Tryz.func54 (by kernel_rfl) (by kernel_rfl) h

def V_slices_ContainsFunc_sl_i_edge_i_edge (Q : Bool → World → Prop) (s : Sl) (f : Value) (w : World) : Prop :=
  Calls Tryz.prog F.slices_IndexFunc_sl_i_edge_i_edge #[s.v, f] w (Ret [.at (.int .i64)] fun (x7 : Int) w1 =>
  Q (decide ((x7 : Int) ≥ 0)) w1)

theorem C_slices_ContainsFunc_sl_i_edge_i_edge {Q : Bool → World → Prop} {s : Sl} {f : Value} {w : World} (h : V_slices_ContainsFunc_sl_i_edge_i_edge Q s f w) : Calls Tryz.prog F.slices_ContainsFunc_sl_i_edge_i_edge #[s.v, f] w (Ret [.at .bool] Q) :=
  mkC (hint := hint) (ann := annOf []) (args := [s.v, f]) (rs := [.at .bool]) Tryz.func55 (by kernel_rfl) (by kernel_rfl) h

def V_i_Network_edges_k5 (I6 : Sl → Int → World → Prop) (m6 : Sl → Int → World → Nat) (out_2 : Sl) (x18 : Int) (w3 : World) (out_3 : Sl) (w10 : World) : Prop :=
  I6 out_3 (IntKind.i64.wrap (x18 + 1)) w10 ∧ m6 out_3 (IntKind.i64.wrap (x18 + 1)) w10 < m6 out_2 x18 w3

def V_i_Network_edges (Q : Sl → World → Prop) (n_0 : Sl) (n_1 : Sl) (n_2 : Sl) (w : World) : Prop :=
  NEW T.t_i_Network #[n_0.v, n_1.v, n_2.v] w fun (p_n : Addr) w1 =>
  LD [.sl] (p_n.add 0) w1 fun (x9 : Sl) =>
  ∃ (I3 : Sl → Int → World → Prop) (m3 : Sl → Int → World → Nat), I3 (⟨none, 0, 0⟩) 0 w1 ∧ ∀ (out : Sl) (x11 : Int) w2, I3 out x11 w2 → ∀ _ _ _ _ _ _ _ _ _ _ _ _ _ _ _ _ _ _ _ _ _ _ _ _ _ _ _ _ _ _ _ _ _ _ _ _ _ _ _ _ _ _ _ : Value,
  cond (decide ((x11 : Int) < x9.len)) (
  IX x9 x11 1 fun (px14 : Addr) =>
  LD [.sl] px14 w2 fun (x15 : Sl) =>
  ∃ (I6 : Sl → Int → World → Prop) (m6 : Sl → Int → World → Nat), I6 out 0 w2 ∧ ∀ (out_2 : Sl) (x18 : Int) w3, I6 out_2 x18 w3 → ∀ _ _ _ _ _ _ _ _ _ _ _ _ _ _ _ _ _ _ _ _ _ _ _ _ _ _ _ _ _ _ _ _ _ : Value,
  cond (decide ((x18 : Int) < x15.len)) (
  IX x15 x18 2 fun (px21 : Addr) =>
  LD [.int .i64, .int .i64] px21 w3 fun (x22_0 : Int) (x22_1 : Int) =>
  NEW T.t_i_End #[.int .i64 0, .int .i64 0] w3 fun (p_e : Addr) w4 =>
  ST p_e 0 [.int .i64 x22_0, .int .i64 x22_1] w4 fun w5 =>
  LD [.int .i64] (p_e.add 0) w5 fun (x25 : Int) =>
  cond (decide ((x11 : Int) < x25)) (
  LD [.int .i64] (p_e.add 0) w5 fun (x43 : Int) =>
  LD [.int .i64] (p_e.add 1) w5 fun (x45 : Int) =>
  RUN Tryz.prog (.at .sl) (Instr.buildSlice T.t_sl_i_edge 1 #[(0, .agg #[.int .i64 x11, .int .i64 x18, .int .i64 x43, .int .i64 x45])]) w5 fun (x47 : Sl) w6 =>
  RUN Tryz.prog (.at .sl) (bsem .append #[T.t_sl_i_edge, T.t_sl_i_edge] T.t_sl_i_edge #[out_2.v, x47.v]) w6 fun (x48 : Sl) w7 =>
  V_i_Network_edges_k5 I6 m6 out_2 x18 w3 x48 w7) (
  LD [.int .i64] (p_e.add 0) w5 fun (x30 : Int) =>
  cond ((x11 : Int) == x30) (
  LD [.int .i64] (p_e.add 1) w5 fun (x35 : Int) =>
  cond (decide ((x18 : Int) ≤ x35)) (
  LD [.int .i64] (p_e.add 0) w5 fun (x43_2 : Int) =>
  LD [.int .i64] (p_e.add 1) w5 fun (x45_2 : Int) =>
  RUN Tryz.prog (.at .sl) (Instr.buildSlice T.t_sl_i_edge 1 #[(0, .agg #[.int .i64 x11, .int .i64 x18, .int .i64 x43_2, .int .i64 x45_2])]) w5 fun (x47_2 : Sl) w8 =>
  RUN Tryz.prog (.at .sl) (bsem .append #[T.t_sl_i_edge, T.t_sl_i_edge] T.t_sl_i_edge #[out_2.v, x47_2.v]) w8 fun (x48_2 : Sl) w9 =>
  V_i_Network_edges_k5 I6 m6 out_2 x18 w3 x48_2 w9) (
  V_i_Network_edges_k5 I6 m6 out_2 x18 w3 out_2 w5)) (
  V_i_Network_edges_k5 I6 m6 out_2 x18 w3 out_2 w5))) (
  I3 out_2 (IntKind.i64.wrap (x11 + 1)) w3 ∧ m3 out_2 (IntKind.i64.wrap (x11 + 1)) w3 < m3 out x11 w2)) (
  Q out w2)

theorem C_i_Network_edges {Q : Sl → World → Prop} {n_0 : Sl} {n_1 : Sl} {n_2 : Sl} {w : World} (h : V_i_Network_edges Q n_0 n_1 n_2 w) : Calls Tryz.prog F.i_Network_edges #[.agg #[n_0.v, n_1.v, n_2.v]] w (Ret [.at .sl] Q) :=
  mkC (hint := hint) (ann := annOf [(3, ⟨[(3, .sl), (11, .int .i64)], [4, 5, 6, 7, 12, 13, 14, 15, 16, 17, 18, 19, 20, 21, 22, 23, 24, 25, 26, 27, 28, 29, 30, 31, 32, 33, 34, 35, 36, 37, 38, 39, 40, 41, 42, 43, 44, 45, 46, 47, 48, 49, 50]⟩), (6, ⟨[(3, .sl), (18, .int .i64)], [6, 7, 19, 20, 21, 22, 23, 24, 25, 26, 27, 28, 29, 30, 31, 32, 33, 34, 35, 36, 37, 38, 39, 40, 41, 42, 43, 44, 45, 46, 47, 48, 49]⟩)]) (args := [.agg #[n_0.v, n_1.v, n_2.v]]) (rs := [.at .sl]) Tryz.func56 (by kernel_rfl) (by kernel_rfl) h

def V_i_edge_stub (Q : Bool → World → Prop) (e_0 : Int) (e_1 : Int) (e_2 : Int) (e_3 : Int) (w : World) : Prop :=
  NEW T.t_i_edge #[.int .i64 e_0, .int .i64 e_1, .int .i64 e_2, .int .i64 e_3] w fun (p_e : Addr) w1 =>
  LD [.int .i64] (p_e.add 0) w1 fun (x4 : Int) =>
  LD [.int .i64] (p_e.add 2) w1 fun (x6 : Int) =>
  cond ((x4 : Int) == x6) (
  LD [.int .i64] (p_e.add 1) w1 fun (x10 : Int) =>
  LD [.int .i64] (p_e.add 3) w1 fun (x12 : Int) =>
  Q ((x10 : Int) == x12) w1) (
  Q false w1)

theorem C_i_edge_stub {Q : Bool → World → Prop} {e_0 : Int} {e_1 : Int} {e_2 : Int} {e_3 : Int} {w : World} (h : V_i_edge_stub Q e_0 e_1 e_2 e_3 w) : Calls Tryz.prog F.i_edge_stub #[.agg #[.int .i64 e_0, .int .i64 e_1, .int .i64 e_2, .int .i64 e_3]] w (Ret [.at .bool] Q) :=
  mkC (hint := hint) (ann := annOf []) (args := [.agg #[.int .i64 e_0, .int .i64 e_1, .int .i64 e_2, .int .i64 e_3]]) (rs := [.at .bool]) Tryz.func57 (by kernel_rfl) (by kernel_rfl) h

def V_i_ZeroLabeling_k1 (Q : Sl → Bool → World → Prop) (p_n : Addr) (x13_0 : Sl) (w5 : World) : Prop :=
  LD [.sl] (p_n.add 0) w5 fun (x24 : Sl) =>
  ∃ (I6 : Sl → Int → World → Prop) (m6 : Sl → Int → World → Nat), I6 (⟨none, 0, 0⟩) 0 w5 ∧ ∀ (out : Sl) (x26 : Int) w6, I6 out x26 w6 → ∀ _ _ _ _ _ _ _ _ _ _ _ _ : Value,
  cond (decide ((x26 : Int) < x24.len)) (
  IX x24 x26 1 fun (px28 : Addr) =>
  LD [.sl] px28 w6 fun (x29 : Sl) =>
  Calls Tryz.prog F.i_labelsFor #[x13_0.v, .int .i64 x29.len] w6 (Ret [.at .sl] fun (x34 : Sl) w7 =>
  RUN Tryz.prog (.at .sl) (Instr.buildSlice T.t_sl_sl_int 1 #[(0, x34.v)]) w7 fun (x35 : Sl) w8 =>
  RUN Tryz.prog (.at .sl) (bsem .append #[T.t_sl_sl_int, T.t_sl_sl_int] T.t_sl_sl_int #[out.v, x35.v]) w8 fun (x36 : Sl) w9 =>
  I6 x36 (IntKind.i64.wrap (x26 + 1)) w9 ∧ m6 x36 (IntKind.i64.wrap (x26 + 1)) w9 < m6 out x26 w6)) (
  Q out true w6)

def V_i_ZeroLabeling (Q : Sl → Bool → World → Prop) (p_0 : Int) (p_1 : Int) (p_2 : Sl) (p_3 : Sl) (n_0 : Sl) (n_1 : Sl) (n_2 : Sl) (w : World) : Prop :=
  NEW T.t_i_Problem #[.int .i64 p_0, .int .i64 p_1, p_2.v, p_3.v] w fun (p_p : Addr) w1 =>
  NEW T.t_i_Network #[n_0.v, n_1.v, n_2.v] w1 fun (p_n : Addr) w2 =>
  LD [.int .i64, .int .i64, .sl, .sl] p_p w2 fun (x12_0 : Int) (x12_1 : Int) (x12_2 : Sl) (x12_3 : Sl) =>
  Calls Tryz.prog F.i_ZeroConfiguration #[.agg #[.int .i64 x12_0, .int .i64 x12_1, x12_2.v, x12_3.v]] w2 (Ret [.at .sl, .at .bool] fun (x13_0 : Sl) (x13_1 : Bool) w3 =>
  cond (!x13_1) (
  Q (⟨none, 0, 0⟩) false w3) (
  LD [.sl, .sl, .sl] p_n w3 fun (x19_0 : Sl) (x19_1 : Sl) (x19_2 : Sl) =>
  Calls Tryz.prog F.i_IsNetwork #[.agg #[x19_0.v, x19_1.v, x19_2.v]] w3 (Ret [.at .bool] fun (x20 : Bool) w4 =>
  cond (!x20) (
  Q (⟨none, 0, 0⟩) false w4) (
  V_i_ZeroLabeling_k1 Q p_n x13_0 w4))))

theorem C_i_ZeroLabeling {Q : Sl → Bool → World → Prop} {p_0 : Int} {p_1 : Int} {p_2 : Sl} {p_3 : Sl} {n_0 : Sl} {n_1 : Sl} {n_2 : Sl} {w : World} (h : V_i_ZeroLabeling Q p_0 p_1 p_2 p_3 n_0 n_1 n_2 w) : Calls Tryz.prog F.i_ZeroLabeling #[.agg #[.int .i64 p_0, .int .i64 p_1, p_2.v, p_3.v], .agg #[n_0.v, n_1.v, n_2.v]] w (Ret [.at .sl, .at .bool] Q) :=
  mkC (hint := hint) (ann := annOf [(6, ⟨[(8, .sl), (26, .int .i64)], [10, 27, 28, 29, 30, 31, 32, 33, 34, 35, 36, 37]⟩)]) (args := [.agg #[.int .i64 p_0, .int .i64 p_1, p_2.v, p_3.v], .agg #[n_0.v, n_1.v, n_2.v]]) (rs := [.at .sl, .at .bool]) Tryz.func58 (by kernel_rfl) (by kernel_rfl) h

def V_i_PullRound (Q : Sl → Bool → World → Prop) (p_0 : Int) (p_1 : Int) (p_2 : Sl) (p_3 : Sl) (n_0 : Sl) (n_1 : Sl) (n_2 : Sl) (l : Sl) (w : World) : Prop :=
  NEW T.t_i_Problem #[.int .i64 p_0, .int .i64 p_1, p_2.v, p_3.v] w fun (p_p : Addr) w1 =>
  NEW T.t_i_Network #[n_0.v, n_1.v, n_2.v] w1 fun (p_n : Addr) w2 =>
  LD [.int .i64, .int .i64, .sl, .sl] p_p w2 fun (x13_0 : Int) (x13_1 : Int) (x13_2 : Sl) (x13_3 : Sl) =>
  Calls Tryz.prog F.i_EdgeStep #[.agg #[.int .i64 x13_0, .int .i64 x13_1, x13_2.v, x13_3.v]] w2 (Ret [.agg [.int .i64, .int .i64, .sl, .sl], .at .sl, .at .bool] fun (x14_0_0 : Int) (x14_0_1 : Int) (x14_0_2 : Sl) (x14_0_3 : Sl) (x14_1 : Sl) (x14_2 : Bool) w3 =>
  NEW T.t_i_Problem #[.int .i64 0, .int .i64 0, .slice none 0 0, .slice none 0 0] w3 fun (p_q : Addr) w4 =>
  ST p_q 0 [.int .i64 x14_0_0, .int .i64 x14_0_1, x14_0_2.v, x14_0_3.v] w4 fun w5 =>
  cond (!x14_2) (
  Q (⟨none, 0, 0⟩) false w5) (
  LD [.int .i64, .int .i64, .sl, .sl] p_q w5 fun (x21_0 : Int) (x21_1 : Int) (x21_2 : Sl) (x21_3 : Sl) =>
  LD [.sl, .sl, .sl] p_n w5 fun (x22_0 : Sl) (x22_1 : Sl) (x22_2 : Sl) =>
  Calls Tryz.prog F.i_PullNodeStep #[.agg #[.int .i64 x21_0, .int .i64 x21_1, x21_2.v, x21_3.v], .agg #[x22_0.v, x22_1.v, x22_2.v], l.v] w5 (Ret [.at .sl, .at .bool] fun (x24_0 : Sl) (x24_1 : Bool) w6 =>
  cond (!x24_1) (
  Q (⟨none, 0, 0⟩) false w6) (
  LD [.int .i64, .int .i64, .sl, .sl] p_p w6 fun (x29_0 : Int) (x29_1 : Int) (x29_2 : Sl) (x29_3 : Sl) =>
  LD [.sl, .sl, .sl] p_n w6 fun (x30_0 : Sl) (x30_1 : Sl) (x30_2 : Sl) =>
  Calls Tryz.prog F.i_PullEdgeStep #[.agg #[.int .i64 x29_0, .int .i64 x29_1, x29_2.v, x29_3.v], .agg #[x30_0.v, x30_1.v, x30_2.v], x24_0.v] w6 (Ret [.at .sl, .at .bool] fun (x32_0 : Sl) (x32_1 : Bool) w7 =>
  Q x32_0 x32_1 w7)))))

theorem C_i_PullRound {Q : Sl → Bool → World → Prop} {p_0 : Int} {p_1 : Int} {p_2 : Sl} {p_3 : Sl} {n_0 : Sl} {n_1 : Sl} {n_2 : Sl} {l : Sl} {w : World} (h : V_i_PullRound Q p_0 p_1 p_2 p_3 n_0 n_1 n_2 l w) : Calls Tryz.prog F.i_PullRound #[.agg #[.int .i64 p_0, .int .i64 p_1, p_2.v, p_3.v], .agg #[n_0.v, n_1.v, n_2.v], l.v] w (Ret [.at .sl, .at .bool] Q) :=
  mkC (hint := hint) (ann := annOf []) (args := [.agg #[.int .i64 p_0, .int .i64 p_1, p_2.v, p_3.v], .agg #[n_0.v, n_1.v, n_2.v], l.v]) (rs := [.at .sl, .at .bool]) Tryz.func59 (by kernel_rfl) (by kernel_rfl) h

def V_l_eqIntS (Q : Bool → World → Prop) (a : Sl) (b : Sl) (w : World) : Prop :=
  cond ((a.len : Int) != b.len) (
  Q false w) (
  ∃ (I4 : Int → World → Prop) (m4 : Int → World → Nat), I4 0 w ∧ ∀ (i : Int) w1, I4 i w1 → ∀ _ _ _ _ _ _ _ _ _ _ _ _ _ _ _ _ : Value,
  cond (decide ((i : Int) < a.len)) (
  IX a i 1 fun (px19 : Addr) =>
  LD [.int .i64] px19 w1 fun (x20 : Int) =>
  IX b i 1 fun (px23 : Addr) =>
  LD [.int .i64] px23 w1 fun (x24 : Int) =>
  ∀ w2, Ext w1 w2 →
  cond ((x20 : Int) != x24) (
  Q false w2) (
  I4 (IntKind.i64.wrap (i + 1)) w2 ∧ m4 (IntKind.i64.wrap (i + 1)) w2 < m4 i w1)) (
  Q true w1))

theorem C_l_eqIntS {Q : Bool → World → Prop} {a : Sl} {b : Sl} {w : World} (h : V_l_eqIntS Q a b w) : Calls Tryz.prog F.l_eqIntS #[a.v, b.v] w (Ret [.at .bool] Q) :=
  mkC (hint := hint) (ann := annOf [(4, ⟨[(5, .int .i64)], [4, 11, 12, 13, 14, 15, 16, 17, 18, 19, 20, 21, 22, 23, 24, 25]⟩)]) (args := [a.v, b.v]) (rs := [.at .bool]) Tryz.func60 (by kernel_rfl) (by kernel_rfl) h

def V_l_eqEndSS (Q : Bool → World → Prop) (a : Sl) (b : Sl) (w : World) : Prop :=
  cond ((a.len : Int) != b.len) (
  Q false w) (
  ∃ (I4 : Int → World → Prop) (m4 : Int → World → Nat), I4 0 w ∧ ∀ (i : Int) w1, I4 i w1 → ∀ _ _ _ _ _ _ _ _ _ _ _ _ _ _ _ _ _ : Value,
  cond (decide ((i : Int) < a.len)) (
  IX a i 1 fun (px19 : Addr) =>
  LD [.sl] px19 w1 fun (x20 : Sl) =>
  IX b i 1 fun (px23 : Addr) =>
  LD [.sl] px23 w1 fun (x24 : Sl) =>
  QCALL Tryz.prog F.l_eqEndS #[x20.v, x24.v] w1 [.at .bool] fun (x25 : Bool) =>
  ∀ w2, Ext w1 w2 →
  cond (!x25) (
  Q false w2) (
  I4 (IntKind.i64.wrap (i + 1)) w2 ∧ m4 (IntKind.i64.wrap (i + 1)) w2 < m4 i w1)) (
  Q true w1))

theorem C_l_eqEndSS {Q : Bool → World → Prop} {a : Sl} {b : Sl} {w : World} (h : V_l_eqEndSS Q a b w) : Calls Tryz.prog F.l_eqEndSS #[a.v, b.v] w (Ret [.at .bool] Q) :=
  mkC (hint := hint) (ann := annOf [(4, ⟨[(5, .int .i64)], [4, 11, 12, 13, 14, 15, 16, 17, 18, 19, 20, 21, 22, 23, 24, 25, 26]⟩)]) (args := [a.v, b.v]) (rs := [.at .bool]) Tryz.func61 (by kernel_rfl) (by kernel_rfl) h

def V_l_markEndSS (Q : Int → World → Prop) (a : Sl) (k : Int) (w : World) : Prop :=
  ∃ (I2 : Int → Int → World → Prop) (m2 : Int → Int → World → Nat), I2 k 0 w ∧ ∀ (k_2 : Int) (i : Int) w1, I2 k_2 i w1 → ∀ _ _ _ _ _ _ _ _ _ _ _ _ : Value,
  cond (decide ((i : Int) < a.len)) (
  IX a i 1 fun (px14 : Addr) =>
  LD [.sl] px14 w1 fun (x15 : Sl) =>
  Calls Tryz.prog F.l_markEndS #[x15.v, .int .i64 k_2] w1 (Ret [.at (.int .i64)] fun (x17 : Int) w2 =>
  I2 x17 (IntKind.i64.wrap (i + 1)) w2 ∧ m2 x17 (IntKind.i64.wrap (i + 1)) w2 < m2 k_2 i w1)) (
  Q k_2 w1)

theorem C_l_markEndSS {Q : Int → World → Prop} {a : Sl} {k : Int} {w : World} (h : V_l_markEndSS Q a k w) : Calls Tryz.prog F.l_markEndSS #[a.v, .int .i64 k] w (Ret [.at (.int .i64)] Q) :=
  mkC (hint := hint) (ann := annOf [(2, ⟨[(1, .int .i64), (5, .int .i64)], [6, 7, 8, 9, 10, 11, 12, 13, 14, 15, 16, 17]⟩)]) (args := [a.v, .int .i64 k]) (rs := [.at (.int .i64)]) Tryz.func62 (by kernel_rfl) (by kernel_rfl) h

def V_l_markIntS (Q : Int → World → Prop) (a : Sl) (k : Int) (w : World) : Prop :=
  ∃ (I2 : Int → Int → World → Prop) (m2 : Int → Int → World → Nat), I2 k 0 w ∧ ∀ (k_2 : Int) (i : Int) w1, I2 k_2 i w1 → ∀ _ _ _ _ _ _ _ _ _ _ _ _ : Value,
  cond (decide ((i : Int) < a.len)) (
  IX a i 1 fun (px15 : Addr) =>
  ST px15 0 [.int .i64 k_2] w1 fun w2 =>
  I2 (IntKind.i64.wrap (k_2 + 1)) (IntKind.i64.wrap (i + 1)) w2 ∧ m2 (IntKind.i64.wrap (k_2 + 1)) (IntKind.i64.wrap (i + 1)) w2 < m2 k_2 i w1) (
  Q k_2 w1)

theorem C_l_markIntS {Q : Int → World → Prop} {a : Sl} {k : Int} {w : World} (h : V_l_markIntS Q a k w) : Calls Tryz.prog F.l_markIntS #[a.v, .int .i64 k] w (Ret [.at (.int .i64)] Q) :=
  mkC (hint := hint) (ann := annOf [(2, ⟨[(1, .int .i64), (5, .int .i64)], [6, 7, 8, 9, 10, 11, 12, 13, 14, 15, 16, 17]⟩)]) (args := [a.v, .int .i64 k]) (rs := [.at (.int .i64)]) Tryz.func63 (by kernel_rfl) (by kernel_rfl) h

def V_l_heldIntS (Q : Int → World → Prop) (a : Sl) (k : Int) (w : World) : Prop :=
  ∃ (I2 : Int → Int → World → Prop) (m2 : Int → Int → World → Nat), I2 k 0 w ∧ ∀ (k_2 : Int) (i : Int) w1, I2 k_2 i w1 → ∀ _ _ _ _ _ _ _ _ _ _ _ _ _ _ _ : Value,
  cond (decide ((i : Int) < a.len)) (
  IX a i 1 fun (px14 : Addr) =>
  LD [.int .i64] px14 w1 fun (x15 : Int) =>
  cond ((x15 : Int) != k_2) (
  Q (-1) w1) (
  I2 (IntKind.i64.wrap (k_2 + 1)) (IntKind.i64.wrap (i + 1)) w1 ∧ m2 (IntKind.i64.wrap (k_2 + 1)) (IntKind.i64.wrap (i + 1)) w1 < m2 k_2 i w1)) (
  Q k_2 w1)

theorem C_l_heldIntS {Q : Int → World → Prop} {a : Sl} {k : Int} {w : World} (h : V_l_heldIntS Q a k w) : Calls Tryz.prog F.l_heldIntS #[a.v, .int .i64 k] w (Ret [.at (.int .i64)] Q) :=
  mkC (hint := hint) (ann := annOf [(2, ⟨[(1, .int .i64), (5, .int .i64)], [4, 6, 7, 8, 9, 10, 11, 12, 13, 14, 15, 16, 17, 18, 19]⟩)]) (args := [a.v, .int .i64 k]) (rs := [.at (.int .i64)]) Tryz.func64 (by kernel_rfl) (by kernel_rfl) h

def V_s_l1In (Q : Bool → World → Prop) (n : Int) (lo : Int) (hi : Int) (w : World) : Prop :=
  cond (decide ((n : Int) ≥ lo)) (
  Q (decide ((n : Int) ≤ hi)) w) (
  Q false w)

theorem C_s_l1In {Q : Bool → World → Prop} {n : Int} {lo : Int} {hi : Int} {w : World} (h : V_s_l1In Q n lo hi w) : Calls Tryz.prog F.s_l1In #[.int .i64 n, .int .i64 lo, .int .i64 hi] w (Ret [.at .bool] Q) :=
  mkC (hint := hint) (ann := annOf []) (args := [.int .i64 n, .int .i64 lo, .int .i64 hi]) (rs := [.at .bool]) Tryz.func65 (by kernel_rfl) (by kernel_rfl) h

def V_i_within (Q : Bool → World → Prop) (n : Int) (low : Int) (high : Int) (w : World) : Prop :=
  cond (decide ((low : Int) ≤ n)) (
  Q (decide ((n : Int) ≤ high)) w) (
  Q false w)

theorem C_i_within {Q : Bool → World → Prop} {n : Int} {low : Int} {high : Int} {w : World} (h : V_i_within Q n low high w) : Calls Tryz.prog F.i_within #[.int .i64 n, .int .i64 low, .int .i64 high] w (Ret [.at .bool] Q) :=
  mkC (hint := hint) (ann := annOf []) (args := [.int .i64 n, .int .i64 low, .int .i64 high]) (rs := [.at .bool]) Tryz.func67 (by kernel_rfl) (by kernel_rfl) h

end Go.Proofs.YtndebacmnpghkaaGreat
end

section
/- What each function's code computes to. Printed by a program. -/
namespace Go.Proofs.YtndebacmnpghkaaGreat
open Go.GX Go.RowKit
set_option linter.unusedVariables false
set_option maxRecDepth 100000

def V_s_prGood (Q : Bool → World → Prop) (p_0 : Int) (p_1 : Int) (p_2 : Sl) (p_3 : Sl) (w : World) : Prop :=
  NEW T.t_i_Problem #[.int .i64 p_0, .int .i64 p_1, p_2.v, p_3.v] w fun (p_p : Addr) w1 =>
  LD [.int .i64] (p_p.add 0) w1 fun (x4 : Int) =>
  Calls Tryz.prog F.s_l1In #[.int .i64 x4, .int .i64 1, .int .i64 8] w1 (Ret [.at .bool] fun (x5 : Bool) w2 =>
  cond x5 (
  LD [.int .i64] (p_p.add 1) w2 fun (x8 : Int) =>
  Calls Tryz.prog F.s_l1In #[.int .i64 x8, .int .i64 1, .int .i64 4] w2 (Ret [.at .bool] fun (x9 : Bool) w3 =>
  cond x9 (
  LD [.sl] (p_p.add 2) w3 fun (x13 : Sl) =>
  LD [.int .i64] (p_p.add 1) w3 fun (x15 : Int) =>
  LD [.int .i64] (p_p.add 0) w3 fun (x17 : Int) =>
  Calls Tryz.prog F.s_prLists #[x13.v, .int .i64 x15, .int .i64 x17] w3 (Ret [.at .bool] fun (x18 : Bool) w4 =>
  cond x18 (
  LD [.sl] (p_p.add 3) w4 fun (x22 : Sl) =>
  LD [.int .i64] (p_p.add 0) w4 fun (x24 : Int) =>
  Calls Tryz.prog F.s_prLists #[x22.v, .int .i64 2, .int .i64 x24] w4 (Ret [.at .bool] fun (x25 : Bool) w5 =>
  Q x25 w5)) (
  Q false w4))) (
  Q false w3))) (
  Q false w2))

theorem C_s_prGood {Q : Bool → World → Prop} {p_0 : Int} {p_1 : Int} {p_2 : Sl} {p_3 : Sl} {w : World} (h : V_s_prGood Q p_0 p_1 p_2 p_3 w) : Calls Tryz.prog F.s_prGood #[.agg #[.int .i64 p_0, .int .i64 p_1, p_2.v, p_3.v]] w (Ret [.at .bool] Q) :=
  mkC (hint := hint) (ann := annOf []) (args := [.agg #[.int .i64 p_0, .int .i64 p_1, p_2.v, p_3.v]]) (rs := [.at .bool]) Tryz.func74 (by kernel_rfl) (by kernel_rfl) h

def V_i_IsProblem (Q : Bool → World → Prop) (p_0 : Int) (p_1 : Int) (p_2 : Sl) (p_3 : Sl) (w : World) : Prop :=
  NEW T.t_i_Problem #[.int .i64 p_0, .int .i64 p_1, p_2.v, p_3.v] w fun (p_p : Addr) w1 =>
  LD [.int .i64] (p_p.add 0) w1 fun (x4 : Int) =>
  Calls Tryz.prog F.i_within #[.int .i64 x4, .int .i64 1, .int .i64 8] w1 (Ret [.at .bool] fun (x5 : Bool) w2 =>
  cond x5 (
  LD [.int .i64] (p_p.add 1) w2 fun (x8 : Int) =>
  Calls Tryz.prog F.i_within #[.int .i64 x8, .int .i64 1, .int .i64 4] w2 (Ret [.at .bool] fun (x9 : Bool) w3 =>
  cond x9 (
  LD [.sl] (p_p.add 2) w3 fun (x13 : Sl) =>
  LD [.int .i64] (p_p.add 1) w3 fun (x15 : Int) =>
  LD [.int .i64] (p_p.add 0) w3 fun (x17 : Int) =>
  Calls Tryz.prog F.i_configurationsOk #[x13.v, .int .i64 x15, .int .i64 x17] w3 (Ret [.at .bool] fun (x18 : Bool) w4 =>
  cond x18 (
  LD [.sl] (p_p.add 3) w4 fun (x22 : Sl) =>
  LD [.int .i64] (p_p.add 0) w4 fun (x24 : Int) =>
  Calls Tryz.prog F.i_configurationsOk #[x22.v, .int .i64 2, .int .i64 x24] w4 (Ret [.at .bool] fun (x25 : Bool) w5 =>
  Q x25 w5)) (
  Q false w4))) (
  Q false w3))) (
  Q false w2))

theorem C_i_IsProblem {Q : Bool → World → Prop} {p_0 : Int} {p_1 : Int} {p_2 : Sl} {p_3 : Sl} {w : World} (h : V_i_IsProblem Q p_0 p_1 p_2 p_3 w) : Calls Tryz.prog F.i_IsProblem #[.agg #[.int .i64 p_0, .int .i64 p_1, p_2.v, p_3.v]] w (Ret [.at .bool] Q) :=
  mkC (hint := hint) (ann := annOf []) (args := [.agg #[.int .i64 p_0, .int .i64 p_1, p_2.v, p_3.v]]) (rs := [.at .bool]) Tryz.func79 (by kernel_rfl) (by kernel_rfl) h

def V_i_eliminate (Q : Int → Int → Sl → Sl → Sl → Sl → Bool → World → Prop) (p_0 : Int) (p_1 : Int) (p_2 : Sl) (p_3 : Sl) (w : World) : Prop :=
  NEW T.t_i_Problem #[.int .i64 p_0, .int .i64 p_1, p_2.v, p_3.v] w fun (p_p : Addr) w1 =>
  NEW T.t_i_Problem #[.int .i64 0, .int .i64 0, .slice none 0 0, .slice none 0 0] w1 fun (px2 : Addr) w2 =>
  LD [.int .i64, .int .i64, .sl, .sl] p_p w2 fun (x12_0 : Int) (x12_1 : Int) (x12_2 : Sl) (x12_3 : Sl) =>
  Calls Tryz.prog F.i_edgeStep #[.agg #[.int .i64 x12_0, .int .i64 x12_1, x12_2.v, x12_3.v]] w2 (Ret [.agg [.int .i64, .int .i64, .sl, .sl], .at .sl, .at .bool] fun (x13_0_0 : Int) (x13_0_1 : Int) (x13_0_2 : Sl) (x13_0_3 : Sl) (x13_1 : Sl) (x13_2 : Bool) w3 =>
  NEW T.t_i_Problem #[.int .i64 0, .int .i64 0, .slice none 0 0, .slice none 0 0] w3 fun (p_q : Addr) w4 =>
  ST p_q 0 [.int .i64 x13_0_0, .int .i64 x13_0_1, x13_0_2.v, x13_0_3.v] w4 fun w5 =>
  cond (!x13_2) (
  ST px2 0 [.int .i64 0, .int .i64 0, .slice none 0 0, .slice none 0 0] w5 fun w6 =>
  LD [.int .i64, .int .i64, .sl, .sl] px2 w6 fun (r0_0 : Int) (r0_1 : Int) (r0_2 : Sl) (r0_3 : Sl) =>
  Q r0_0 r0_1 r0_2 r0_3 (⟨none, 0, 0⟩) (⟨none, 0, 0⟩) false w6) (
  LD [.int .i64, .int .i64, .sl, .sl] p_q w5 fun (x21_0 : Int) (x21_1 : Int) (x21_2 : Sl) (x21_3 : Sl) =>
  Calls Tryz.prog F.i_nodeStep #[.agg #[.int .i64 x21_0, .int .i64 x21_1, x21_2.v, x21_3.v]] w5 (Ret [.agg [.int .i64, .int .i64, .sl, .sl], .at .sl, .at .bool] fun (x22_0_0 : Int) (x22_0_1 : Int) (x22_0_2 : Sl) (x22_0_3 : Sl) (x22_1 : Sl) (x22_2 : Bool) w7 =>
  NEW T.t_i_Problem #[.int .i64 0, .int .i64 0, .slice none 0 0, .slice none 0 0] w7 fun (p_r : Addr) w8 =>
  ST p_r 0 [.int .i64 x22_0_0, .int .i64 x22_0_1, x22_0_2.v, x22_0_3.v] w8 fun w9 =>
  cond (!x22_2) (
  ST px2 0 [.int .i64 0, .int .i64 0, .slice none 0 0, .slice none 0 0] w9 fun w10 =>
  LD [.int .i64, .int .i64, .sl, .sl] px2 w10 fun (r0_0_2 : Int) (r0_1_2 : Int) (r0_2_2 : Sl) (r0_3_2 : Sl) =>
  Q r0_0_2 r0_1_2 r0_2_2 r0_3_2 (⟨none, 0, 0⟩) (⟨none, 0, 0⟩) false w10) (
  LD [.int .i64, .int .i64, .sl, .sl] p_r w9 fun (x29_0 : Int) (x29_1 : Int) (x29_2 : Sl) (x29_3 : Sl) =>
  ST px2 0 [.int .i64 x29_0, .int .i64 x29_1, x29_2.v, x29_3.v] w9 fun w11 =>
  LD [.int .i64, .int .i64, .sl, .sl] px2 w11 fun (r0_0_3 : Int) (r0_1_3 : Int) (r0_2_3 : Sl) (r0_3_3 : Sl) =>
  Q r0_0_3 r0_1_3 r0_2_3 r0_3_3 x13_1 x22_1 true w11))))

theorem C_i_eliminate {Q : Int → Int → Sl → Sl → Sl → Sl → Bool → World → Prop} {p_0 : Int} {p_1 : Int} {p_2 : Sl} {p_3 : Sl} {w : World} (h : V_i_eliminate Q p_0 p_1 p_2 p_3 w) : Calls Tryz.prog F.i_eliminate #[.agg #[.int .i64 p_0, .int .i64 p_1, p_2.v, p_3.v]] w (Ret [.agg [.int .i64, .int .i64, .sl, .sl], .at .sl, .at .sl, .at .bool] Q) :=
  mkC (hint := hint) (ann := annOf []) (args := [.agg #[.int .i64 p_0, .int .i64 p_1, p_2.v, p_3.v]]) (rs := [.agg [.int .i64, .int .i64, .sl, .sl], .at .sl, .at .sl, .at .bool]) Tryz.func80 (by kernel_rfl) (by kernel_rfl) h

def V_l_szEndS (Q : Int → World → Prop) (a : Sl) (left : Int) (w : World) : Prop :=
  cond (decide (((IntKind.i64.wrap (left - a.len)) : Int) < 0)) (
  Q (-1) w) (
  Q (IntKind.i64.wrap (left - a.len)) w)

theorem C_l_szEndS {Q : Int → World → Prop} {a : Sl} {left : Int} {w : World} (h : V_l_szEndS Q a left w) : Calls Tryz.prog F.l_szEndS #[a.v, .int .i64 left] w (Ret [.at (.int .i64)] Q) :=
  mkC (hint := hint) (ann := annOf []) (args := [a.v, .int .i64 left]) (rs := [.at (.int .i64)]) Tryz.func83 (by kernel_rfl) (by kernel_rfl) h

def V_s_reOwn (Q : Sl → World → Prop) (l : Sl) (w : World) : Prop :=
  Calls Tryz.prog F.s_reShifted #[l.v, .int .i64 0] w (Ret [.at .sl] fun (x4 : Sl) w1 =>
  Q x4 w1)

theorem C_s_reOwn {Q : Sl → World → Prop} {l : Sl} {w : World} (h : V_s_reOwn Q l w) : Calls Tryz.prog F.s_reOwn #[l.v] w (Ret [.at .sl] Q) :=
  mkC (hint := hint) (ann := annOf []) (args := [l.v]) (rs := [.at .sl]) Tryz.func84 (by kernel_rfl) (by kernel_rfl) h

def V_s_EliminateRound (Q : Int → Int → Sl → Sl → Sl → Sl → Bool → World → Prop) (p_0 : Int) (p_1 : Int) (p_2 : Sl) (p_3 : Sl) (w : World) : Prop :=
  NEW T.t_i_Problem #[.int .i64 p_0, .int .i64 p_1, p_2.v, p_3.v] w fun (p_p : Addr) w1 =>
  NEW T.t_i_Problem #[.int .i64 0, .int .i64 0, .slice none 0 0, .slice none 0 0] w1 fun (px2 : Addr) w2 =>
  LD [.int .i64, .int .i64, .sl, .sl] p_p w2 fun (x13_0 : Int) (x13_1 : Int) (x13_2 : Sl) (x13_3 : Sl) =>
  Calls Tryz.prog F.s_EdgeStep #[.agg #[.int .i64 x13_0, .int .i64 x13_1, x13_2.v, x13_3.v]] w2 (Ret [.agg [.int .i64, .int .i64, .sl, .sl], .at .sl, .at .bool] fun (x14_0_0 : Int) (x14_0_1 : Int) (x14_0_2 : Sl) (x14_0_3 : Sl) (x14_1 : Sl) (x14_2 : Bool) w3 =>
  NEW T.t_i_Problem #[.int .i64 0, .int .i64 0, .slice none 0 0, .slice none 0 0] w3 fun (p_q : Addr) w4 =>
  ST p_q 0 [.int .i64 x14_0_0, .int .i64 x14_0_1, x14_0_2.v, x14_0_3.v] w4 fun w5 =>
  cond (!x14_2) (
  ST px2 0 [.int .i64 0, .int .i64 0, .slice none 0 0, .slice none 0 0] w5 fun w6 =>
  LD [.int .i64, .int .i64, .sl, .sl] px2 w6 fun (r0_0 : Int) (r0_1 : Int) (r0_2 : Sl) (r0_3 : Sl) =>
  Q r0_0 r0_1 r0_2 r0_3 (⟨none, 0, 0⟩) (⟨none, 0, 0⟩) false w6) (
  LD [.int .i64, .int .i64, .sl, .sl] p_q w5 fun (x22_0 : Int) (x22_1 : Int) (x22_2 : Sl) (x22_3 : Sl) =>
  Calls Tryz.prog F.s_elNode #[.agg #[.int .i64 x22_0, .int .i64 x22_1, x22_2.v, x22_3.v]] w5 (Ret [.agg [.int .i64, .int .i64, .sl, .sl], .at .sl, .at .bool] fun (x23_0_0 : Int) (x23_0_1 : Int) (x23_0_2 : Sl) (x23_0_3 : Sl) (x23_1 : Sl) (x23_2 : Bool) w7 =>
  NEW T.t_i_Problem #[.int .i64 0, .int .i64 0, .slice none 0 0, .slice none 0 0] w7 fun (p_r : Addr) w8 =>
  ST p_r 0 [.int .i64 x23_0_0, .int .i64 x23_0_1, x23_0_2.v, x23_0_3.v] w8 fun w9 =>
  cond (!x23_2) (
  ST px2 0 [.int .i64 0, .int .i64 0, .slice none 0 0, .slice none 0 0] w9 fun w10 =>
  LD [.int .i64, .int .i64, .sl, .sl] px2 w10 fun (r0_0_2 : Int) (r0_1_2 : Int) (r0_2_2 : Sl) (r0_3_2 : Sl) =>
  Q r0_0_2 r0_1_2 r0_2_2 r0_3_2 (⟨none, 0, 0⟩) (⟨none, 0, 0⟩) false w10) (
  LD [.int .i64, .int .i64, .sl, .sl] p_r w9 fun (x30_0 : Int) (x30_1 : Int) (x30_2 : Sl) (x30_3 : Sl) =>
  ST px2 0 [.int .i64 x30_0, .int .i64 x30_1, x30_2.v, x30_3.v] w9 fun w11 =>
  LD [.int .i64, .int .i64, .sl, .sl] px2 w11 fun (r0_0_3 : Int) (r0_1_3 : Int) (r0_2_3 : Sl) (r0_3_3 : Sl) =>
  Q r0_0_3 r0_1_3 r0_2_3 r0_3_3 x14_1 x23_1 true w11))))

theorem C_s_EliminateRound {Q : Int → Int → Sl → Sl → Sl → Sl → Bool → World → Prop} {p_0 : Int} {p_1 : Int} {p_2 : Sl} {p_3 : Sl} {w : World} (h : V_s_EliminateRound Q p_0 p_1 p_2 p_3 w) : Calls Tryz.prog F.s_EliminateRound #[.agg #[.int .i64 p_0, .int .i64 p_1, p_2.v, p_3.v]] w (Ret [.agg [.int .i64, .int .i64, .sl, .sl], .at .sl, .at .sl, .at .bool] Q) :=
  mkC (hint := hint) (ann := annOf []) (args := [.agg #[.int .i64 p_0, .int .i64 p_1, p_2.v, p_3.v]]) (rs := [.agg [.int .i64, .int .i64, .sl, .sl], .at .sl, .at .sl, .at .bool]) Tryz.func85 (by kernel_rfl) (by kernel_rfl) h

def V_s_neIds (Q : Bool → World → Prop) (ids : Sl) (nodes : Int) (w : World) : Prop :=
  ∃ (I2 : Int → World → Prop) (m2 : Int → World → Nat), I2 0 w ∧ ∀ (x9 : Int) w1, I2 x9 w1 → ∀ _ _ _ _ _ _ _ _ _ _ _ _ _ _ _ _ _ _ : Value,
  cond (decide ((x9 : Int) < ids.len)) (
  IX ids x9 1 fun (px12 : Addr) =>
  LD [.int .i64] px12 w1 fun (x13 : Int) =>
  Calls Tryz.prog F.s_l1In #[.int .i64 x13, .int .i64 1, .int .i64 999999] w1 (Ret [.at .bool] fun (x15 : Bool) w2 =>
  cond (!x15) (
  Q false w2) (
  SLC ids none (some x9) 1 fun (x20 : Sl) =>
  Calls Tryz.prog F.s_l1Has #[x20.v, .int .i64 x13] w2 (Ret [.at .bool] fun (x22 : Bool) w3 =>
  cond x22 (
  Q false w3) (
  I2 (IntKind.i64.wrap (x9 + 1)) w3 ∧ m2 (IntKind.i64.wrap (x9 + 1)) w3 < m2 x9 w1))))) (
  cond ((ids.len : Int) == 0) (
  Q true w1) (
  Q ((ids.len : Int) == nodes) w1))

theorem C_s_neIds {Q : Bool → World → Prop} {ids : Sl} {nodes : Int} {w : World} (h : V_s_neIds Q ids nodes w) : Calls Tryz.prog F.s_neIds #[ids.v, .int .i64 nodes] w (Ret [.at .bool] Q) :=
  mkC (hint := hint) (ann := annOf [(2, ⟨[(9, .int .i64)], [4, 5, 6, 10, 11, 12, 13, 14, 15, 16, 17, 18, 19, 20, 21, 22, 23, 24]⟩)]) (args := [ids.v, .int .i64 nodes]) (rs := [.at .bool]) Tryz.func86 (by kernel_rfl) (by kernel_rfl) h

def V_s_l1All (Q : Bool → World → Prop) (l : Sl) (lo : Int) (hi : Int) (w : World) : Prop :=
  ∃ (I2 : Int → World → Prop) (m2 : Int → World → Nat), I2 0 w ∧ ∀ (x11 : Int) w1, I2 x11 w1 → ∀ _ _ _ _ _ _ _ _ _ _ _ : Value,
  cond (decide ((x11 : Int) < l.len)) (
  IX l x11 1 fun (px13 : Addr) =>
  LD [.int .i64] px13 w1 fun (x14 : Int) =>
  Calls Tryz.prog F.s_l1In #[.int .i64 x14, .int .i64 lo, .int .i64 hi] w1 (Ret [.at .bool] fun (x18 : Bool) w2 =>
  cond (!x18) (
  Q false w2) (
  I2 (IntKind.i64.wrap (x11 + 1)) w2 ∧ m2 (IntKind.i64.wrap (x11 + 1)) w2 < m2 x11 w1))) (
  Q true w1)

theorem C_s_l1All {Q : Bool → World → Prop} {l : Sl} {lo : Int} {hi : Int} {w : World} (h : V_s_l1All Q l lo hi w) : Calls Tryz.prog F.s_l1All #[l.v, .int .i64 lo, .int .i64 hi] w (Ret [.at .bool] Q) :=
  mkC (hint := hint) (ann := annOf [(2, ⟨[(11, .int .i64)], [6, 8, 12, 13, 14, 15, 16, 17, 18, 19, 20]⟩)]) (args := [l.v, .int .i64 lo, .int .i64 hi]) (rs := [.at .bool]) Tryz.func87 (by kernel_rfl) (by kernel_rfl) h

def V_s_ZeroConfiguration (Q : Sl → Bool → World → Prop) (p_0 : Int) (p_1 : Int) (p_2 : Sl) (p_3 : Sl) (w : World) : Prop :=
  NEW T.t_i_Problem #[.int .i64 p_0, .int .i64 p_1, p_2.v, p_3.v] w fun (p_p : Addr) w1 =>
  LD [.int .i64, .int .i64, .sl, .sl] p_p w1 fun (x4_0 : Int) (x4_1 : Int) (x4_2 : Sl) (x4_3 : Sl) =>
  Calls Tryz.prog F.s_prGood #[.agg #[.int .i64 x4_0, .int .i64 x4_1, x4_2.v, x4_3.v]] w1 (Ret [.at .bool] fun (x5 : Bool) w2 =>
  cond (!x5) (
  Q (⟨none, 0, 0⟩) false w2) (
  LD [.int .i64, .int .i64, .sl, .sl] p_p w2 fun (x7_0 : Int) (x7_1 : Int) (x7_2 : Sl) (x7_3 : Sl) =>
  Calls Tryz.prog F.s_zeGood #[.agg #[.int .i64 x7_0, .int .i64 x7_1, x7_2.v, x7_3.v]] w2 (Ret [.at .sl, .at .bool] fun (x8_0 : Sl) (x8_1 : Bool) w3 =>
  Q x8_0 x8_1 w3)))

theorem C_s_ZeroConfiguration {Q : Sl → Bool → World → Prop} {p_0 : Int} {p_1 : Int} {p_2 : Sl} {p_3 : Sl} {w : World} (h : V_s_ZeroConfiguration Q p_0 p_1 p_2 p_3 w) : Calls Tryz.prog F.s_ZeroConfiguration #[.agg #[.int .i64 p_0, .int .i64 p_1, p_2.v, p_3.v]] w (Ret [.at .sl, .at .bool] Q) :=
  mkC (hint := hint) (ann := annOf []) (args := [.agg #[.int .i64 p_0, .int .i64 p_1, p_2.v, p_3.v]]) (rs := [.at .sl, .at .bool]) Tryz.func88 (by kernel_rfl) (by kernel_rfl) h

def V_s_zeRow (Q : Sl → World → Prop) (p_0 : Int) (p_1 : Int) (p_2 : Sl) (p_3 : Sl) (x : Sl) (ports : Int) (w : World) : Prop :=
  NEW T.t_i_Problem #[.int .i64 p_0, .int .i64 p_1, p_2.v, p_3.v] w fun (p_p : Addr) w1 =>
  LD [.int .i64] (p_p.add 1) w1 fun (x11 : Int) =>
  cond ((ports : Int) == x11) (
  Calls Tryz.prog F.s_l1Own #[x.v] w1 (Ret [.at .sl] fun (x14 : Sl) w2 =>
  Q x14 w2)) (
  RUN Tryz.prog (.at .sl) (Instr.makeSlice T.t_sl_int (.int .i64 ports) (.int .i64 ports)) w1 fun (x16 : Sl) w3 =>
  ∃ (I5 : Int → World → Prop) (m5 : Int → World → Nat), I5 0 w3 ∧ ∀ (x19 : Int) w4, I5 x19 w4 → ∀ _ _ _ _ _ _ _ _ _ _ : Value,
  cond (decide ((x19 : Int) < x16.len)) (
  IX x 0 1 fun (px25 : Addr) =>
  LD [.int .i64] px25 w4 fun (x26 : Int) =>
  IX x16 x19 1 fun (px27 : Addr) =>
  ST px27 0 [.int .i64 x26] w4 fun w5 =>
  I5 (IntKind.i64.wrap (x19 + 1)) w5 ∧ m5 (IntKind.i64.wrap (x19 + 1)) w5 < m5 x19 w4) (
  Q x16 w4))

theorem C_s_zeRow {Q : Sl → World → Prop} {p_0 : Int} {p_1 : Int} {p_2 : Sl} {p_3 : Sl} {x : Sl} {ports : Int} {w : World} (h : V_s_zeRow Q p_0 p_1 p_2 p_3 x ports w) : Calls Tryz.prog F.s_zeRow #[.agg #[.int .i64 p_0, .int .i64 p_1, p_2.v, p_3.v], x.v, .int .i64 ports] w (Ret [.at .sl] Q) :=
  mkC (hint := hint) (ann := annOf [(5, ⟨[(19, .int .i64)], [8, 20, 21, 22, 23, 24, 25, 26, 27, 28]⟩)]) (args := [.agg #[.int .i64 p_0, .int .i64 p_1, p_2.v, p_3.v], x.v, .int .i64 ports]) (rs := [.at .sl]) Tryz.func89 (by kernel_rfl) (by kernel_rfl) h

def V_s_EdgeStep (Q : Int → Int → Sl → Sl → Sl → Bool → World → Prop) (p_0 : Int) (p_1 : Int) (p_2 : Sl) (p_3 : Sl) (w : World) : Prop :=
  NEW T.t_i_Problem #[.int .i64 p_0, .int .i64 p_1, p_2.v, p_3.v] w fun (p_p : Addr) w1 =>
  NEW T.t_i_Problem #[.int .i64 0, .int .i64 0, .slice none 0 0, .slice none 0 0] w1 fun (px2 : Addr) w2 =>
  LD [.int .i64, .int .i64, .sl, .sl] p_p w2 fun (x5_0 : Int) (x5_1 : Int) (x5_2 : Sl) (x5_3 : Sl) =>
  Calls Tryz.prog F.s_prGood #[.agg #[.int .i64 x5_0, .int .i64 x5_1, x5_2.v, x5_3.v]] w2 (Ret [.at .bool] fun (x6 : Bool) w3 =>
  cond (!x6) (
  ST px2 0 [.int .i64 0, .int .i64 0, .slice none 0 0, .slice none 0 0] w3 fun w4 =>
  LD [.int .i64, .int .i64, .sl, .sl] px2 w4 fun (r0_0 : Int) (r0_1 : Int) (r0_2 : Sl) (r0_3 : Sl) =>
  Q r0_0 r0_1 r0_2 r0_3 (⟨none, 0, 0⟩) false w4) (
  LD [.int .i64, .int .i64, .sl, .sl] p_p w3 fun (x9_0 : Int) (x9_1 : Int) (x9_2 : Sl) (x9_3 : Sl) =>
  Calls Tryz.prog F.s_elEdge #[.agg #[.int .i64 x9_0, .int .i64 x9_1, x9_2.v, x9_3.v]] w3 (Ret [.agg [.int .i64, .int .i64, .sl, .sl], .at .sl, .at .bool] fun (x10_0_0 : Int) (x10_0_1 : Int) (x10_0_2 : Sl) (x10_0_3 : Sl) (x10_1 : Sl) (x10_2 : Bool) w5 =>
  ST px2 0 [.int .i64 x10_0_0, .int .i64 x10_0_1, x10_0_2.v, x10_0_3.v] w5 fun w6 =>
  LD [.int .i64, .int .i64, .sl, .sl] px2 w6 fun (r0_0_2 : Int) (r0_1_2 : Int) (r0_2_2 : Sl) (r0_3_2 : Sl) =>
  Q r0_0_2 r0_1_2 r0_2_2 r0_3_2 x10_1 x10_2 w6)))

theorem C_s_EdgeStep {Q : Int → Int → Sl → Sl → Sl → Bool → World → Prop} {p_0 : Int} {p_1 : Int} {p_2 : Sl} {p_3 : Sl} {w : World} (h : V_s_EdgeStep Q p_0 p_1 p_2 p_3 w) : Calls Tryz.prog F.s_EdgeStep #[.agg #[.int .i64 p_0, .int .i64 p_1, p_2.v, p_3.v]] w (Ret [.agg [.int .i64, .int .i64, .sl, .sl], .at .sl, .at .bool] Q) :=
  mkC (hint := hint) (ann := annOf []) (args := [.agg #[.int .i64 p_0, .int .i64 p_1, p_2.v, p_3.v]]) (rs := [.agg [.int .i64, .int .i64, .sl, .sl], .at .sl, .at .bool]) Tryz.func90 (by kernel_rfl) (by kernel_rfl) h

def V_s_PullNodeStep (Q : Sl → Bool → World → Prop) (p_0 : Int) (p_1 : Int) (p_2 : Sl) (p_3 : Sl) (n_0 : Sl) (n_1 : Sl) (n_2 : Sl) (l : Sl) (w : World) : Prop :=
  NEW T.t_i_Problem #[.int .i64 p_0, .int .i64 p_1, p_2.v, p_3.v] w fun (p_p : Addr) w1 =>
  NEW T.t_i_Network #[n_0.v, n_1.v, n_2.v] w1 fun (p_n : Addr) w2 =>
  LD [.int .i64, .int .i64, .sl, .sl] p_p w2 fun (x12_0 : Int) (x12_1 : Int) (x12_2 : Sl) (x12_3 : Sl) =>
  Calls Tryz.prog F.s_NodeStep #[.agg #[.int .i64 x12_0, .int .i64 x12_1, x12_2.v, x12_3.v]] w2 (Ret [.agg [.int .i64, .int .i64, .sl, .sl], .at .sl, .at .bool] fun (x13_0_0 : Int) (x13_0_1 : Int) (x13_0_2 : Sl) (x13_0_3 : Sl) (x13_1 : Sl) (x13_2 : Bool) w3 =>
  NEW T.t_i_Problem #[.int .i64 0, .int .i64 0, .slice none 0 0, .slice none 0 0] w3 fun (p_q : Addr) w4 =>
  ST p_q 0 [.int .i64 x13_0_0, .int .i64 x13_0_1, x13_0_2.v, x13_0_3.v] w4 fun w5 =>
  cond (!x13_2) (
  Q (⟨none, 0, 0⟩) false w5) (
  LD [.int .i64, .int .i64, .sl, .sl] p_q w5 fun (x20_0 : Int) (x20_1 : Int) (x20_2 : Sl) (x20_3 : Sl) =>
  LD [.sl, .sl, .sl] p_n w5 fun (x21_0 : Sl) (x21_1 : Sl) (x21_2 : Sl) =>
  Calls Tryz.prog F.s_prAsked #[.agg #[.int .i64 x20_0, .int .i64 x20_1, x20_2.v, x20_3.v], .agg #[x21_0.v, x21_1.v, x21_2.v], l.v] w5 (Ret [.at .bool] fun (x23 : Bool) w6 =>
  cond (!x23) (
  Q (⟨none, 0, 0⟩) false w6) (
  LD [.int .i64, .int .i64, .sl, .sl] p_q w6 fun (x27_0 : Int) (x27_1 : Int) (x27_2 : Sl) (x27_3 : Sl) =>
  LD [.sl, .sl, .sl] p_n w6 fun (x28_0 : Sl) (x28_1 : Sl) (x28_2 : Sl) =>
  Calls Tryz.prog F.s_prIs #[.agg #[.int .i64 x27_0, .int .i64 x27_1, x27_2.v, x27_3.v], .agg #[x28_0.v, x28_1.v, x28_2.v], l.v] w6 (Ret [.at .bool] fun (x30 : Bool) w7 =>
  cond (!x30) (
  Q (⟨none, 0, 0⟩) false w7) (
  LD [.sl, .sl, .sl] p_n w7 fun (x34_0 : Sl) (x34_1 : Sl) (x34_2 : Sl) =>
  Calls Tryz.prog F.s_elStubless #[.agg #[x34_0.v, x34_1.v, x34_2.v]] w7 (Ret [.at .bool] fun (x35 : Bool) w8 =>
  cond (!x35) (
  Q (⟨none, 0, 0⟩) false w8) (
  LD [.int .i64, .int .i64, .sl, .sl] p_p w8 fun (x38_0_2 : Int) (x38_1_2 : Int) (x38_2_2 : Sl) (x38_3_2 : Sl) =>
  LD [.sl, .sl, .sl] p_n w8 fun (x40_0_2 : Sl) (x40_1_2 : Sl) (x40_2_2 : Sl) =>
  Calls Tryz.prog F.s_elPullNode #[.agg #[.int .i64 x38_0_2, .int .i64 x38_1_2, x38_2_2.v, x38_3_2.v], x13_1.v, .agg #[x40_0_2.v, x40_1_2.v, x40_2_2.v], l.v] w8 (Ret [.at .sl] fun (x42_2 : Sl) w10 =>
  Q x42_2 true w10)))))))))

theorem C_s_PullNodeStep {Q : Sl → Bool → World → Prop} {p_0 : Int} {p_1 : Int} {p_2 : Sl} {p_3 : Sl} {n_0 : Sl} {n_1 : Sl} {n_2 : Sl} {l : Sl} {w : World} (h : V_s_PullNodeStep Q p_0 p_1 p_2 p_3 n_0 n_1 n_2 l w) : Calls Tryz.prog F.s_PullNodeStep #[.agg #[.int .i64 p_0, .int .i64 p_1, p_2.v, p_3.v], .agg #[n_0.v, n_1.v, n_2.v], l.v] w (Ret [.at .sl, .at .bool] Q) :=
  mkC (hint := hint) (ann := annOf []) (args := [.agg #[.int .i64 p_0, .int .i64 p_1, p_2.v, p_3.v], .agg #[n_0.v, n_1.v, n_2.v], l.v]) (rs := [.at .sl, .at .bool]) Tryz.func91 (by kernel_rfl) (by kernel_rfl) h

def V_s_elPullEdge_k4 (I3 : Sl → Int → World → Prop) (m3 : Sl → Int → World → Nat) (x17 : Int) (w2 : World) (out : Sl) (chosen_2 : Sl) (w10 : World) : Prop :=
  RUN Tryz.prog (.at .sl) (Instr.buildSlice T.t_sl_sl_int 1 #[(0, chosen_2.v)]) w10 fun (x56 : Sl) w11 =>
  RUN Tryz.prog (.at .sl) (bsem .append #[T.t_sl_sl_int, T.t_sl_sl_int] T.t_sl_sl_int #[out.v, x56.v]) w11 fun (x57 : Sl) w12 =>
  I3 x57 (IntKind.i64.wrap (x17 + 1)) w12 ∧ m3 x57 (IntKind.i64.wrap (x17 + 1)) w12 < m3 out x17 w2

def V_s_elPullEdge_k5 (I3 : Sl → Int → World → Prop) (m3 : Sl → Int → World → Nat) (x17 : Int) (w2 : World) (x28_0 : Sl) (out : Sl) (x23 : Sl) (x39 : Bool) (w5 : World) : Prop :=
  cond x39 (
  ∃ (I10 : Sl → Int → World → Prop) (m10 : Sl → Int → World → Nat), I10 (⟨none, 0, 0⟩) 0 w5 ∧ ∀ (chosen : Sl) (x42 : Int) w6, I10 chosen x42 w6 → ∀ _ _ _ _ _ _ _ _ _ _ _ _ : Value,
  cond (decide ((x42 : Int) < x23.len)) (
  IX x23 x42 1 fun (px44 : Addr) =>
  LD [.int .i64] px44 w6 fun (x45 : Int) =>
  Calls Tryz.prog F.s_elLabels #[.int .i64 x45] w6 (Ret [.at .sl] fun (x48 : Sl) w7 =>
  IX x48 0 1 fun (px49 : Addr) =>
  LD [.int .i64] px49 w7 fun (x50 : Int) =>
  RUN Tryz.prog (.at .sl) (Instr.buildSlice T.t_sl_int 1 #[(0, .int .i64 x50)]) w7 fun (x51 : Sl) w8 =>
  RUN Tryz.prog (.at .sl) (bsem .append #[T.t_sl_int, T.t_sl_int] T.t_sl_int #[chosen.v, x51.v]) w8 fun (x52 : Sl) w9 =>
  I10 x52 (IntKind.i64.wrap (x42 + 1)) w9 ∧ m10 x52 (IntKind.i64.wrap (x42 + 1)) w9 < m10 chosen x42 w6)) (
  V_s_elPullEdge_k4 I3 m3 x17 w2 out chosen w6)) (
  V_s_elPullEdge_k4 I3 m3 x17 w2 out x28_0 w5)

def V_s_elPullEdge (Q : Sl → World → Prop) (p_0 : Int) (p_1 : Int) (p_2 : Sl) (p_3 : Sl) (sets : Sl) (l : Sl) (w : World) : Prop :=
  NEW T.t_i_Problem #[.int .i64 p_0, .int .i64 p_1, p_2.v, p_3.v] w fun (p_p : Addr) w1 =>
  ∃ (I3 : Sl → Int → World → Prop) (m3 : Sl → Int → World → Nat), I3 (⟨none, 0, 0⟩) 0 w1 ∧ ∀ (out : Sl) (x17 : Int) w2, I3 out x17 w2 → ∀ _ _ _ _ _ _ _ _ _ _ _ _ _ _ _ _ _ _ _ _ _ _ _ _ _ _ _ _ _ _ _ _ _ _ _ _ _ _ _ _ _ _ _ _ _ _ : Value,
  cond (decide ((x17 : Int) < l.len)) (
  IX l x17 1 fun (px19 : Addr) =>
  LD [.sl] px19 w2 fun (x20 : Sl) =>
  Calls Tryz.prog F.s_coThrough #[sets.v, x20.v] w2 (Ret [.at .sl] fun (x23 : Sl) w3 =>
  LD [.sl] (p_p.add 2) w3 fun (x26 : Sl) =>
  Calls Tryz.prog F.s_elChoice #[x26.v, x23.v, .slice none 0 0] w3 (Ret [.at .sl, .at .bool] fun (x28_0 : Sl) (x28_1 : Bool) w4 =>
  LD [.int .i64] (p_p.add 1) w4 fun (x34 : Int) =>
  cond ((x20.len : Int) != x34) (
  V_s_elPullEdge_k5 I3 m3 x17 w2 x28_0 out x23 true w4) (
  V_s_elPullEdge_k5 I3 m3 x17 w2 x28_0 out x23 (!x28_1) w4)))) (
  Q out w2)

theorem C_s_elPullEdge {Q : Sl → World → Prop} {p_0 : Int} {p_1 : Int} {p_2 : Sl} {p_3 : Sl} {sets : Sl} {l : Sl} {w : World} (h : V_s_elPullEdge Q p_0 p_1 p_2 p_3 sets l w) : Calls Tryz.prog F.s_elPullEdge #[.agg #[.int .i64 p_0, .int .i64 p_1, p_2.v, p_3.v], sets.v, l.v] w (Ret [.at .sl] Q) :=
  mkC (hint := hint) (ann := annOf [(3, ⟨[(7, .sl), (17, .int .i64)], [9, 10, 11, 12, 14, 18, 19, 20, 21, 22, 23, 24, 25, 26, 27, 28, 29, 30, 31, 32, 33, 34, 35, 36, 37, 38, 39, 40, 41, 42, 43, 44, 45, 46, 47, 48, 49, 50, 51, 52, 53, 54, 55, 56, 57, 58]⟩), (10, ⟨[(11, .sl), (42, .int .i64)], [14, 43, 44, 45, 46, 47, 48, 49, 50, 51, 52, 53]⟩)]) (args := [.agg #[.int .i64 p_0, .int .i64 p_1, p_2.v, p_3.v], sets.v, l.v]) (rs := [.at .sl]) Tryz.func92 (by kernel_rfl) (by kernel_rfl) h

def V_l_toEndS (Q : Sl → World → Prop) (a : Sl) (w : World) : Prop :=
  RUN Tryz.prog (.at .sl) (Instr.makeSlice T.t_sl_i_End (.int .i64 a.len) (.int .i64 a.len)) w fun (x7 : Sl) w1 =>
  ∃ (I3 : Int → World → Prop) (m3 : Int → World → Nat), I3 0 w1 ∧ ∀ (i : Int) w2, I3 i w2 → ∀ _ _ _ _ _ _ _ _ _ _ _ _ _ _ : Value,
  cond (decide ((i : Int) < a.len)) (
  IX a i 2 fun (px18 : Addr) =>
  LD [.int .i64, .int .i64] px18 w2 fun (x19_0 : Int) (x19_1 : Int) =>
  Calls Tryz.prog F.l_toEnd #[.agg #[.int .i64 x19_0, .int .i64 x19_1]] w2 (Ret [.agg [.int .i64, .int .i64]] fun (x20_0 : Int) (x20_1 : Int) w3 =>
  IX x7 i 2 fun (px21 : Addr) =>
  ST px21 0 [.int .i64 x20_0, .int .i64 x20_1] w3 fun w4 =>
  I3 (IntKind.i64.wrap (i + 1)) w4 ∧ m3 (IntKind.i64.wrap (i + 1)) w4 < m3 i w2)) (
  Q x7 w2)

theorem C_l_toEndS {Q : Sl → World → Prop} {a : Sl} {w : World} (h : V_l_toEndS Q a w) : Calls Tryz.prog F.l_toEndS #[a.v] w (Ret [.at .sl] Q) :=
  mkC (hint := hint) (ann := annOf [(3, ⟨[(4, .int .i64)], [8, 9, 10, 11, 12, 13, 14, 15, 16, 17, 18, 19, 20, 21]⟩)]) (args := [a.v]) (rs := [.at .sl]) Tryz.func93 (by kernel_rfl) (by kernel_rfl) h

def V_i_isRounds (Q : Bool → World → Prop) (k : Int) (w : World) : Prop :=
  Calls Tryz.prog F.i_within #[.int .i64 k, .int .i64 0, .int .i64 5] w (Ret [.at .bool] fun (x4 : Bool) w1 =>
  Q x4 w1)

theorem C_i_isRounds {Q : Bool → World → Prop} {k : Int} {w : World} (h : V_i_isRounds Q k w) : Calls Tryz.prog F.i_isRounds #[.int .i64 k] w (Ret [.at .bool] Q) :=
  mkC (hint := hint) (ann := annOf []) (args := [.int .i64 k]) (rs := [.at .bool]) Tryz.func94 (by kernel_rfl) (by kernel_rfl) h

def V_i_copyProblem (Q : Int → Int → Sl → Sl → World → Prop) (p_0 : Int) (p_1 : Int) (p_2 : Sl) (p_3 : Sl) (w : World) : Prop :=
  NEW T.t_i_Problem #[.int .i64 p_0, .int .i64 p_1, p_2.v, p_3.v] w fun (p_p : Addr) w1 =>
  NEW T.t_i_Problem #[.int .i64 0, .int .i64 0, .slice none 0 0, .slice none 0 0] w1 fun (px2 : Addr) w2 =>
  ∀ w3, Ext w2 w3 → w3.heap = w2.heap → ∃ (D3 : Nat → Prop),
  ¬ D3 (p_p.add 2).block ∧ (
  LD [.sl] (p_p.add 2) w3 fun (x4 : Sl) =>
  ¬ D3 (p_p.add 3).block ∧ (
  LD [.sl] (p_p.add 3) w3 fun (x7 : Sl) =>
  Calls Tryz.prog F.i_copyLists #[x4.v] w3 (Ret [.at .sl] fun (x5 : Sl) w4 =>
  Chg w3 w4 D3 ∧ (
  Calls Tryz.prog F.i_copyLists #[x7.v] w4 (Ret [.at .sl] fun (x8 : Sl) w5 =>
  Chg w3 w5 D3 ∧ (
  ST (p_p.add 2) 0 [x5.v] w5 fun w6 =>
  ST (p_p.add 3) 0 [x8.v] w6 fun w7 =>
  LD [.int .i64, .int .i64, .sl, .sl] p_p w7 fun (x11_0 : Int) (x11_1 : Int) (x11_2 : Sl) (x11_3 : Sl) =>
  ST px2 0 [.int .i64 x11_0, .int .i64 x11_1, x11_2.v, x11_3.v] w7 fun w8 =>
  LD [.int .i64, .int .i64, .sl, .sl] px2 w8 fun (r0_0 : Int) (r0_1 : Int) (r0_2 : Sl) (r0_3 : Sl) =>
  Q r0_0 r0_1 r0_2 r0_3 w8))))))

theorem C_i_copyProblem {Q : Int → Int → Sl → Sl → World → Prop} {p_0 : Int} {p_1 : Int} {p_2 : Sl} {p_3 : Sl} {w : World} (h : V_i_copyProblem Q p_0 p_1 p_2 p_3 w) : Calls Tryz.prog F.i_copyProblem #[.agg #[.int .i64 p_0, .int .i64 p_1, p_2.v, p_3.v]] w (Ret [.agg [.int .i64, .int .i64, .sl, .sl]] Q) :=
  mkC (hint := hint) (ann := annOf []) (args := [.agg #[.int .i64 p_0, .int .i64 p_1, p_2.v, p_3.v]]) (rs := [.agg [.int .i64, .int .i64, .sl, .sl]]) Tryz.func95 (by kernel_rfl) (by kernel_rfl) h

def V_i_idsOk (Q : Bool → World → Prop) (ids : Sl) (nodes : Int) (w : World) : Prop :=
  cond ((ids.len : Int) == 0) (
  Q true w) (
  Calls Tryz.prog F.slices_Clone_sl_int_int #[ids.v] w (Ret [.at .sl] fun (x10 : Sl) w1 =>
  Calls Tryz.prog F.slices_Sort_sl_int_int #[x10.v] w1 (Ret [] fun w2 =>
  cond ((ids.len : Int) == nodes) (
  Calls Tryz.prog F.i_increasing #[x10.v, .int .i64 1, .int .i64 999999] w2 (Ret [.at .bool] fun (x19 : Bool) w3 =>
  Q x19 w3)) (
  Q false w2))))

theorem C_i_idsOk {Q : Bool → World → Prop} {ids : Sl} {nodes : Int} {w : World} (h : V_i_idsOk Q ids nodes w) : Calls Tryz.prog F.i_idsOk #[ids.v, .int .i64 nodes] w (Ret [.at .bool] Q) :=
  mkC (hint := hint) (ann := annOf []) (args := [ids.v, .int .i64 nodes]) (rs := [.at .bool]) Tryz.func96 (by kernel_rfl) (by kernel_rfl) h

def V_i_inputsOk (Q : Bool → World → Prop) (inputs : Sl) (nodes : Int) (w : World) : Prop :=
  cond ((inputs.len : Int) == nodes) (
  Calls Tryz.prog F.i_allWithin #[inputs.v, .int .i64 0, .int .i64 9] w (Ret [.at .bool] fun (x11 : Bool) w1 =>
  Q x11 w1)) (
  Q false w)

theorem C_i_inputsOk {Q : Bool → World → Prop} {inputs : Sl} {nodes : Int} {w : World} (h : V_i_inputsOk Q inputs nodes w) : Calls Tryz.prog F.i_inputsOk #[inputs.v, .int .i64 nodes] w (Ret [.at .bool] Q) :=
  mkC (hint := hint) (ann := annOf []) (args := [inputs.v, .int .i64 nodes]) (rs := [.at .bool]) Tryz.func97 (by kernel_rfl) (by kernel_rfl) h

def V_i_Network_hasPort (Q : Bool → World → Prop) (n_0 : Sl) (n_1 : Sl) (n_2 : Sl) (v : Int) (i : Int) (w : World) : Prop :=
  NEW T.t_i_Network #[n_0.v, n_1.v, n_2.v] w fun (p_n : Addr) w1 =>
  LD [.sl, .sl, .sl] p_n w1 fun (x7_0 : Sl) (x7_1 : Sl) (x7_2 : Sl) =>
  Calls Tryz.prog F.i_Network_hasNode #[.agg #[x7_0.v, x7_1.v, x7_2.v], .int .i64 v] w1 (Ret [.at .bool] fun (x9 : Bool) w2 =>
  cond x9 (
  LD [.sl] (p_n.add 0) w2 fun (x13 : Sl) =>
  IX x13 v 1 fun (px15 : Addr) =>
  LD [.sl] px15 w2 fun (x16 : Sl) =>
  Calls Tryz.prog F.i_within #[.int .i64 i, .int .i64 0, .int .i64 (IntKind.i64.wrap (x16.len - 1))] w2 (Ret [.at .bool] fun (x19 : Bool) w3 =>
  Q x19 w3)) (
  Q false w2))

theorem C_i_Network_hasPort {Q : Bool → World → Prop} {n_0 : Sl} {n_1 : Sl} {n_2 : Sl} {v : Int} {i : Int} {w : World} (h : V_i_Network_hasPort Q n_0 n_1 n_2 v i w) : Calls Tryz.prog F.i_Network_hasPort #[.agg #[n_0.v, n_1.v, n_2.v], .int .i64 v, .int .i64 i] w (Ret [.at .bool] Q) :=
  mkC (hint := hint) (ann := annOf []) (args := [.agg #[n_0.v, n_1.v, n_2.v], .int .i64 v, .int .i64 i]) (rs := [.at .bool]) Tryz.func98 (by kernel_rfl) (by kernel_rfl) h

def V_slices_IndexFunc_sl_i_edge_i_edge (Q : Int → World → Prop) (s : Sl) (f : Value) (w : World) : Prop :=
  ∃ (I2 : Int → World → Prop) (m2 : Int → World → Nat), I2 0 w ∧ ∀ (x8 : Int) w1, I2 x8 w1 → ∀ _ _ _ _ _ _ _ _ _ _ _ _ : Value,
  cond (decide ((x8 : Int) < s.len)) (
  IX s x8 4 fun (px14 : Addr) =>
  LD [.int .i64, .int .i64, .int .i64, .int .i64] px14 w1 fun (x15_0 : Int) (x15_1 : Int) (x15_2 : Int) (x15_3 : Int) =>
  CALLV Tryz.prog f #[.agg #[.int .i64 x15_0, .int .i64 x15_1, .int .i64 x15_2, .int .i64 x15_3]] w1 (Ret [.at .bool] fun (x16 : Bool) w2 =>
  cond x16 (
  Q x8 w2) (
  I2 (IntKind.i64.wrap (x8 + 1)) w2 ∧ m2 (IntKind.i64.wrap (x8 + 1)) w2 < m2 x8 w1))) (
  Q (-1) w1)

theorem C_slices_IndexFunc_sl_i_edge_i_edge {Q : Int → World → Prop} {s : Sl} {f : Value} {w : World} (h : V_slices_IndexFunc_sl_i_edge_i_edge Q s f w) : Calls Tryz.prog F.slices_IndexFunc_sl_i_edge_i_edge #[s.v, f] w (Ret [.at (.int .i64)] Q) :=
  mkC (hint := hint) (ann := annOf [(2, ⟨[(8, .int .i64)], [4, 5, 9, 10, 11, 12, 13, 14, 15, 16, 17, 18]⟩)]) (args := [s.v, f]) (rs := [.at (.int .i64)]) Tryz.func99 (by kernel_rfl) (by kernel_rfl) h

def V_i_ZeroConfiguration (Q : Sl → Bool → World → Prop) (p_0 : Int) (p_1 : Int) (p_2 : Sl) (p_3 : Sl) (w : World) : Prop :=
  NEW T.t_i_Problem #[.int .i64 p_0, .int .i64 p_1, p_2.v, p_3.v] w fun (p_p : Addr) w1 =>
  LD [.int .i64, .int .i64, .sl, .sl] p_p w1 fun (x6_0 : Int) (x6_1 : Int) (x6_2 : Sl) (x6_3 : Sl) =>
  Calls Tryz.prog F.i_IsProblem #[.agg #[.int .i64 x6_0, .int .i64 x6_1, x6_2.v, x6_3.v]] w1 (Ret [.at .bool] fun (x7 : Bool) w2 =>
  cond (!x7) (
  Q (⟨none, 0, 0⟩) false w2) (
  LD [.sl] (p_p.add 2) w2 fun (x10 : Sl) =>
  ∃ (I4 : Int → World → Prop) (m4 : Int → World → Nat), I4 0 w2 ∧ ∀ (x12 : Int) w3, I4 x12 w3 → ∀ _ _ _ _ _ _ _ _ _ _ _ _ _ : Value,
  cond (decide ((x12 : Int) < x10.len)) (
  IX x10 x12 1 fun (px14 : Addr) =>
  LD [.sl] px14 w3 fun (x15 : Sl) =>
  LD [.int .i64, .int .i64, .sl, .sl] p_p w3 fun (x16_0 : Int) (x16_1 : Int) (x16_2 : Sl) (x16_3 : Sl) =>
  Calls Tryz.prog F.i_isGoodPair #[.agg #[.int .i64 x16_0, .int .i64 x16_1, x16_2.v, x16_3.v], x15.v, x15.v] w3 (Ret [.at .bool] fun (x19 : Bool) w4 =>
  cond x19 (
  Calls Tryz.prog F.slices_Clone_sl_int_int #[x15.v] w4 (Ret [.at .sl] fun (x21 : Sl) w5 =>
  Q x21 true w5)) (
  I4 (IntKind.i64.wrap (x12 + 1)) w4 ∧ m4 (IntKind.i64.wrap (x12 + 1)) w4 < m4 x12 w3))) (
  Q (⟨none, 0, 0⟩) false w3)))

theorem C_i_ZeroConfiguration {Q : Sl → Bool → World → Prop} {p_0 : Int} {p_1 : Int} {p_2 : Sl} {p_3 : Sl} {w : World} (h : V_i_ZeroConfiguration Q p_0 p_1 p_2 p_3 w) : Calls Tryz.prog F.i_ZeroConfiguration #[.agg #[.int .i64 p_0, .int .i64 p_1, p_2.v, p_3.v]] w (Ret [.at .sl, .at .bool] Q) :=
  mkC (hint := hint) (ann := annOf [(4, ⟨[(12, .int .i64)], [2, 3, 5, 13, 14, 15, 16, 17, 18, 19, 20, 21, 22]⟩)]) (args := [.agg #[.int .i64 p_0, .int .i64 p_1, p_2.v, p_3.v]]) (rs := [.at .sl, .at .bool]) Tryz.func100 (by kernel_rfl) (by kernel_rfl) h

def V_i_labelsFor (Q : Sl → World → Prop) (list : Sl) (ports : Int) (w : World) : Prop :=
  cond ((ports : Int) == list.len) (
  Calls Tryz.prog F.slices_Clone_sl_int_int #[list.v] w (Ret [.at .sl] fun (x10 : Sl) w1 =>
  Q x10 w1)) (
  SLC list none (some 1) 1 fun (x12 : Sl) =>
  Calls Tryz.prog F.slices_Repeat_sl_int_int #[x12.v, .int .i64 ports] w (Ret [.at .sl] fun (x14 : Sl) w2 =>
  Q x14 w2))

theorem C_i_labelsFor {Q : Sl → World → Prop} {list : Sl} {ports : Int} {w : World} (h : V_i_labelsFor Q list ports w) : Calls Tryz.prog F.i_labelsFor #[list.v, .int .i64 ports] w (Ret [.at .sl] Q) :=
  mkC (hint := hint) (ann := annOf []) (args := [list.v, .int .i64 ports]) (rs := [.at .sl]) Tryz.func101 (by kernel_rfl) (by kernel_rfl) h

def V_i_EdgeStep (Q : Int → Int → Sl → Sl → Sl → Bool → World → Prop) (p_0 : Int) (p_1 : Int) (p_2 : Sl) (p_3 : Sl) (w : World) : Prop :=
  NEW T.t_i_Problem #[.int .i64 p_0, .int .i64 p_1, p_2.v, p_3.v] w fun (p_p : Addr) w1 =>
  NEW T.t_i_Problem #[.int .i64 0, .int .i64 0, .slice none 0 0, .slice none 0 0] w1 fun (px2 : Addr) w2 =>
  LD [.int .i64, .int .i64, .sl, .sl] p_p w2 fun (x5_0 : Int) (x5_1 : Int) (x5_2 : Sl) (x5_3 : Sl) =>
  Calls Tryz.prog F.i_IsProblem #[.agg #[.int .i64 x5_0, .int .i64 x5_1, x5_2.v, x5_3.v]] w2 (Ret [.at .bool] fun (x6 : Bool) w3 =>
  cond (!x6) (
  ST px2 0 [.int .i64 0, .int .i64 0, .slice none 0 0, .slice none 0 0] w3 fun w4 =>
  LD [.int .i64, .int .i64, .sl, .sl] px2 w4 fun (r0_0 : Int) (r0_1 : Int) (r0_2 : Sl) (r0_3 : Sl) =>
  Q r0_0 r0_1 r0_2 r0_3 (⟨none, 0, 0⟩) false w4) (
  LD [.int .i64, .int .i64, .sl, .sl] p_p w3 fun (x9_0 : Int) (x9_1 : Int) (x9_2 : Sl) (x9_3 : Sl) =>
  Calls Tryz.prog F.i_edgeStep #[.agg #[.int .i64 x9_0, .int .i64 x9_1, x9_2.v, x9_3.v]] w3 (Ret [.agg [.int .i64, .int .i64, .sl, .sl], .at .sl, .at .bool] fun (x10_0_0 : Int) (x10_0_1 : Int) (x10_0_2 : Sl) (x10_0_3 : Sl) (x10_1 : Sl) (x10_2 : Bool) w5 =>
  ST px2 0 [.int .i64 x10_0_0, .int .i64 x10_0_1, x10_0_2.v, x10_0_3.v] w5 fun w6 =>
  LD [.int .i64, .int .i64, .sl, .sl] px2 w6 fun (r0_0_2 : Int) (r0_1_2 : Int) (r0_2_2 : Sl) (r0_3_2 : Sl) =>
  Q r0_0_2 r0_1_2 r0_2_2 r0_3_2 x10_1 x10_2 w6)))

theorem C_i_EdgeStep {Q : Int → Int → Sl → Sl → Sl → Bool → World → Prop} {p_0 : Int} {p_1 : Int} {p_2 : Sl} {p_3 : Sl} {w : World} (h : V_i_EdgeStep Q p_0 p_1 p_2 p_3 w) : Calls Tryz.prog F.i_EdgeStep #[.agg #[.int .i64 p_0, .int .i64 p_1, p_2.v, p_3.v]] w (Ret [.agg [.int .i64, .int .i64, .sl, .sl], .at .sl, .at .bool] Q) :=
  mkC (hint := hint) (ann := annOf []) (args := [.agg #[.int .i64 p_0, .int .i64 p_1, p_2.v, p_3.v]]) (rs := [.agg [.int .i64, .int .i64, .sl, .sl], .at .sl, .at .bool]) Tryz.func102 (by kernel_rfl) (by kernel_rfl) h

def V_i_PullNodeStep_k1 (x2 : Sl) (Q : Sl → Bool → World → Prop) (px3 : Addr) (px4 : Addr) (x18_1 : Sl) (w10 : World) : Prop :=
  Calls Tryz.prog F.i_copyLists #[x2.v] w10 (Ret [.at .sl] fun (x42 : Sl) w11 =>
  LD [.sl, .sl, .sl] px4 w11 fun (x43_0 : Sl) (x43_1 : Sl) (x43_2 : Sl) =>
  Calls Tryz.prog F.i_Network_edges #[.agg #[x43_0.v, x43_1.v, x43_2.v]] w11 (Ret [.at .sl] fun (x44 : Sl) w12 =>
  ∃ (I6 : Int → World → Prop) (m6 : Int → World → Nat), I6 0 w12 ∧ ∀ (x46 : Int) w13, I6 x46 w13 → ∀ _ _ _ _ _ _ _ _ _ _ _ _ _ _ _ _ _ _ _ _ _ _ _ _ _ _ _ _ _ _ _ _ _ _ _ _ _ _ _ _ _ _ _ _ _ _ _ _ _ _ _ _ _ _ _ _ _ _ _ : Value,
  cond (decide ((x46 : Int) < x44.len)) (
  IX x44 x46 4 fun (px48 : Addr) =>
  LD [.int .i64, .int .i64, .int .i64, .int .i64] px48 w13 fun (x49_0 : Int) (x49_1 : Int) (x49_2 : Int) (x49_3 : Int) =>
  NEW T.t_i_edge #[.int .i64 0, .int .i64 0, .int .i64 0, .int .i64 0] w13 fun (px13 : Addr) w14 =>
  ST px13 0 [.int .i64 x49_0, .int .i64 x49_1, .int .i64 x49_2, .int .i64 x49_3] w14 fun w15 =>
  ∀ w16, Ext w15 w16 → w16.heap = w15.heap →
  LD [.int .i64, .int .i64, .sl, .sl] px3 w16 fun (x51_0 : Int) (x51_1 : Int) (x51_2 : Sl) (x51_3 : Sl) =>
  LD [.int .i64] (px13.add 0) w16 fun (x55 : Int) =>
  IX x2 x55 1 fun (px56 : Addr) =>
  LD [.sl] px56 w16 fun (x57 : Sl) =>
  LD [.int .i64] (px13.add 1) w16 fun (x59 : Int) =>
  IX x57 x59 1 fun (px60 : Addr) =>
  LD [.int .i64] px60 w16 fun (x61 : Int) =>
  LD [.int .i64] (px13.add 2) w16 fun (x64 : Int) =>
  IX x2 x64 1 fun (px65 : Addr) =>
  LD [.sl] px65 w16 fun (x66 : Sl) =>
  Ext w16 w16 ∧ (
  LD [.int .i64] (px13.add 3) w16 fun (x68 : Int) =>
  Ext w16 w16 ∧ (
  IX x66 x68 1 fun (px69 : Addr) =>
  Ext w16 w16 ∧ (
  LD [.int .i64] px69 w16 fun (x70 : Int) =>
  Ext w16 w16 ∧ (
  RUN Tryz.prog (.at .sl) (Instr.buildSlice T.t_sl_int 2 #[(0, .int .i64 x61), (1, .int .i64 x70)]) w16 fun (x71 : Sl) w17 =>
  Ext w16 w17 ∧ (
  Calls Tryz.prog F.i_listsOf #[x18_1.v, x71.v] w17 (Ret [.at .sl] fun (x72 : Sl) w18 =>
  Ext w16 w18 ∧ (
  Calls Tryz.prog F.i_Problem_edgeChoice #[.agg #[.int .i64 x51_0, .int .i64 x51_1, x51_2.v, x51_3.v], x72.v] w18 (Ret [.at .sl, .at .bool] fun (x73_0 : Sl) (x73_1 : Bool) w19 =>
  Ext w16 w19 ∧ (
  Ext w16 w19 ∧ (
  Ext w16 w19 ∧ (
  cond (!x73_1) (
  Q (⟨none, 0, 0⟩) false w19) (
  ∀ w20, Ext w19 w20 → w20.heap = w19.heap → ∃ (D20 : Nat → Prop),
  ¬ D20 (px13.add 0).block ∧ (
  LD [.int .i64] (px13.add 0) w20 fun (x80 : Int) =>
  IX x42 x80 1 fun (px81 : Addr) =>
  ¬ D20 px81.block ∧ (
  LD [.sl] px81 w20 fun (x82 : Sl) =>
  ¬ D20 (px13.add 1).block ∧ (
  LD [.int .i64] (px13.add 1) w20 fun (x84 : Int) =>
  ¬ D20 (px13.add 2).block ∧ (
  LD [.int .i64] (px13.add 2) w20 fun (x87 : Int) =>
  IX x42 x87 1 fun (px88 : Addr) =>
  ¬ D20 px88.block ∧ (
  LD [.sl] px88 w20 fun (x89 : Sl) =>
  ¬ D20 (px13.add 3).block ∧ (
  LD [.int .i64] (px13.add 3) w20 fun (x91 : Int) =>
  IX x73_0 0 1 fun (px93 : Addr) =>
  ¬ D20 px93.block ∧ (
  LD [.int .i64] px93 w20 fun (x94 : Int) =>
  Chg w20 w20 D20 ∧ (
  IX x73_0 1 1 fun (px96 : Addr) =>
  Chg w20 w20 D20 ∧ (
  LD [.int .i64] px96 w20 fun (x97 : Int) =>
  Chg w20 w20 D20 ∧ (
  IX x82 x84 1 fun (px98 : Addr) =>
  Chg w20 w20 D20 ∧ (
  ST px98 0 [.int .i64 x94] w20 fun w21 =>
  Chg w20 w21 D20 ∧ (
  IX x89 x91 1 fun (px99 : Addr) =>
  ST px99 0 [.int .i64 x97] w21 fun w22 =>
  I6 (IntKind.i64.wrap (x46 + 1)) w22 ∧ m6 (IntKind.i64.wrap (x46 + 1)) w22 < m6 x46 w13))))))))))))))))))))))))) (
  Q x42 true w13)))

def V_i_PullNodeStep (Q : Sl → Bool → World → Prop) (x0_0 : Int) (x0_1 : Int) (x0_2 : Sl) (x0_3 : Sl) (x1_0 : Sl) (x1_1 : Sl) (x1_2 : Sl) (x2 : Sl) (w : World) : Prop :=
  NEW T.t_i_Problem #[.int .i64 x0_0, .int .i64 x0_1, x0_2.v, x0_3.v] w fun (px3 : Addr) w1 =>
  NEW T.t_i_Network #[x1_0.v, x1_1.v, x1_2.v] w1 fun (px4 : Addr) w2 =>
  LD [.int .i64, .int .i64, .sl, .sl] px3 w2 fun (x17_0 : Int) (x17_1 : Int) (x17_2 : Sl) (x17_3 : Sl) =>
  Calls Tryz.prog F.i_NodeStep #[.agg #[.int .i64 x17_0, .int .i64 x17_1, x17_2.v, x17_3.v]] w2 (Ret [.agg [.int .i64, .int .i64, .sl, .sl], .at .sl, .at .bool] fun (x18_0_0 : Int) (x18_0_1 : Int) (x18_0_2 : Sl) (x18_0_3 : Sl) (x18_1 : Sl) (x18_2 : Bool) w3 =>
  NEW T.t_i_Problem #[.int .i64 0, .int .i64 0, .slice none 0 0, .slice none 0 0] w3 fun (px8 : Addr) w4 =>
  ST px8 0 [.int .i64 x18_0_0, .int .i64 x18_0_1, x18_0_2.v, x18_0_3.v] w4 fun w5 =>
  cond (!x18_2) (
  Q (⟨none, 0, 0⟩) false w5) (
  LD [.sl, .sl, .sl] px4 w5 fun (x25_0 : Sl) (x25_1 : Sl) (x25_2 : Sl) =>
  Calls Tryz.prog F.i_IsNetwork #[.agg #[x25_0.v, x25_1.v, x25_2.v]] w5 (Ret [.at .bool] fun (x26 : Bool) w6 =>
  cond (!x26) (
  Q (⟨none, 0, 0⟩) false w6) (
  LD [.sl, .sl, .sl] px4 w6 fun (x30_0 : Sl) (x30_1 : Sl) (x30_2 : Sl) =>
  Calls Tryz.prog F.i_Network_edges #[.agg #[x30_0.v, x30_1.v, x30_2.v]] w6 (Ret [.at .sl] fun (x31 : Sl) w7 =>
  Calls Tryz.prog F.slices_ContainsFunc_sl_i_edge_i_edge #[x31.v, .func (.func F.i_edge_stub) #[] #[]] w7 (Ret [.at .bool] fun (x32 : Bool) w8 =>
  cond x32 (
  Q (⟨none, 0, 0⟩) false w8) (
  LD [.int .i64, .int .i64, .sl, .sl] px8 w8 fun (x35_0 : Int) (x35_1 : Int) (x35_2 : Sl) (x35_3 : Sl) =>
  LD [.sl, .sl, .sl] px4 w8 fun (x36_0 : Sl) (x36_1 : Sl) (x36_2 : Sl) =>
  Calls Tryz.prog F.i_isSolution #[.agg #[.int .i64 x35_0, .int .i64 x35_1, x35_2.v, x35_3.v], .agg #[x36_0.v, x36_1.v, x36_2.v], x2.v] w8 (Ret [.at .bool] fun (x38 : Bool) w9 =>
  cond (!x38) (
  Q (⟨none, 0, 0⟩) false w9) (
  V_i_PullNodeStep_k1 x2 Q px3 px4 x18_1 w9)))))))))

theorem C_i_PullNodeStep {Q : Sl → Bool → World → Prop} {x0_0 : Int} {x0_1 : Int} {x0_2 : Sl} {x0_3 : Sl} {x1_0 : Sl} {x1_1 : Sl} {x1_2 : Sl} {x2 : Sl} {w : World} (h : V_i_PullNodeStep Q x0_0 x0_1 x0_2 x0_3 x1_0 x1_1 x1_2 x2 w) : Calls Tryz.prog F.i_PullNodeStep #[.agg #[.int .i64 x0_0, .int .i64 x0_1, x0_2.v, x0_3.v], .agg #[x1_0.v, x1_1.v, x1_2.v], x2.v] w (Ret [.at .sl, .at .bool] Q) :=
  mkC (hint := hint) (ann := annOf [(6, ⟨[(46, .int .i64)], [6, 7, 13, 14, 15, 47, 48, 49, 50, 51, 52, 53, 54, 55, 56, 57, 58, 59, 60, 61, 62, 63, 64, 65, 66, 67, 68, 69, 70, 71, 72, 73, 74, 75, 76, 77, 78, 79, 80, 81, 82, 83, 84, 85, 86, 87, 88, 89, 90, 91, 92, 93, 94, 95, 96, 97, 98, 99, 100]⟩)]) (args := [.agg #[.int .i64 x0_0, .int .i64 x0_1, x0_2.v, x0_3.v], .agg #[x1_0.v, x1_1.v, x1_2.v], x2.v]) (rs := [.at .sl, .at .bool]) Tryz.func103 (by kernel_rfl) (by kernel_rfl) h

def V_i_PullEdgeStep (Q : Sl → Bool → World → Prop) (p_0 : Int) (p_1 : Int) (p_2 : Sl) (p_3 : Sl) (n_0 : Sl) (n_1 : Sl) (n_2 : Sl) (l : Sl) (w : World) : Prop :=
  NEW T.t_i_Problem #[.int .i64 p_0, .int .i64 p_1, p_2.v, p_3.v] w fun (p_p : Addr) w1 =>
  NEW T.t_i_Network #[n_0.v, n_1.v, n_2.v] w1 fun (p_n : Addr) w2 =>
  LD [.int .i64, .int .i64, .sl, .sl] p_p w2 fun (x12_0 : Int) (x12_1 : Int) (x12_2 : Sl) (x12_3 : Sl) =>
  Calls Tryz.prog F.i_EdgeStep #[.agg #[.int .i64 x12_0, .int .i64 x12_1, x12_2.v, x12_3.v]] w2 (Ret [.agg [.int .i64, .int .i64, .sl, .sl], .at .sl, .at .bool] fun (x13_0_0 : Int) (x13_0_1 : Int) (x13_0_2 : Sl) (x13_0_3 : Sl) (x13_1 : Sl) (x13_2 : Bool) w3 =>
  NEW T.t_i_Problem #[.int .i64 0, .int .i64 0, .slice none 0 0, .slice none 0 0] w3 fun (p_q : Addr) w4 =>
  ST p_q 0 [.int .i64 x13_0_0, .int .i64 x13_0_1, x13_0_2.v, x13_0_3.v] w4 fun w5 =>
  cond (!x13_2) (
  Q (⟨none, 0, 0⟩) false w5) (
  LD [.sl, .sl, .sl] p_n w5 fun (x20_0 : Sl) (x20_1 : Sl) (x20_2 : Sl) =>
  Calls Tryz.prog F.i_IsNetwork #[.agg #[x20_0.v, x20_1.v, x20_2.v]] w5 (Ret [.at .bool] fun (x21 : Bool) w6 =>
  cond (!x21) (
  Q (⟨none, 0, 0⟩) false w6) (
  LD [.int .i64, .int .i64, .sl, .sl] p_q w6 fun (x25_0 : Int) (x25_1 : Int) (x25_2 : Sl) (x25_3 : Sl) =>
  LD [.sl, .sl, .sl] p_n w6 fun (x26_0 : Sl) (x26_1 : Sl) (x26_2 : Sl) =>
  Calls Tryz.prog F.i_isSolution #[.agg #[.int .i64 x25_0, .int .i64 x25_1, x25_2.v, x25_3.v], .agg #[x26_0.v, x26_1.v, x26_2.v], l.v] w6 (Ret [.at .bool] fun (x28 : Bool) w7 =>
  cond (!x28) (
  Q (⟨none, 0, 0⟩) false w7) (
  LD [.int .i64, .int .i64, .sl, .sl] p_p w7 fun (x31_0_2 : Int) (x31_1_2 : Int) (x31_2_2 : Sl) (x31_3_2 : Sl) =>
  Calls Tryz.prog F.i_pullEdgeStep #[.agg #[.int .i64 x31_0_2, .int .i64 x31_1_2, x31_2_2.v, x31_3_2.v], x13_1.v, l.v] w7 (Ret [.at .sl, .at .bool] fun (x34_0_2 : Sl) (x34_1_2 : Bool) w9 =>
  Q x34_0_2 x34_1_2 w9)))))))

theorem C_i_PullEdgeStep {Q : Sl → Bool → World → Prop} {p_0 : Int} {p_1 : Int} {p_2 : Sl} {p_3 : Sl} {n_0 : Sl} {n_1 : Sl} {n_2 : Sl} {l : Sl} {w : World} (h : V_i_PullEdgeStep Q p_0 p_1 p_2 p_3 n_0 n_1 n_2 l w) : Calls Tryz.prog F.i_PullEdgeStep #[.agg #[.int .i64 p_0, .int .i64 p_1, p_2.v, p_3.v], .agg #[n_0.v, n_1.v, n_2.v], l.v] w (Ret [.at .sl, .at .bool] Q) :=
  mkC (hint := hint) (ann := annOf []) (args := [.agg #[.int .i64 p_0, .int .i64 p_1, p_2.v, p_3.v], .agg #[n_0.v, n_1.v, n_2.v], l.v]) (rs := [.at .sl, .at .bool]) Tryz.func104 (by kernel_rfl) (by kernel_rfl) h

def V_l_eqEndS (Q : Bool → World → Prop) (a : Sl) (b : Sl) (w : World) : Prop :=
  cond ((a.len : Int) != b.len) (
  Q false w) (
  ∃ (I4 : Int → World → Prop) (m4 : Int → World → Nat), I4 0 w ∧ ∀ (i : Int) w1, I4 i w1 → ∀ _ _ _ _ _ _ _ _ _ _ _ _ _ _ _ _ _ : Value,
  cond (decide ((i : Int) < a.len)) (
  IX a i 2 fun (px19 : Addr) =>
  LD [.int .i64, .int .i64] px19 w1 fun (x20_0 : Int) (x20_1 : Int) =>
  IX b i 2 fun (px23 : Addr) =>
  LD [.int .i64, .int .i64] px23 w1 fun (x24_0 : Int) (x24_1 : Int) =>
  QCALL Tryz.prog F.l_eqEnd #[.agg #[.int .i64 x20_0, .int .i64 x20_1], .agg #[.int .i64 x24_0, .int .i64 x24_1]] w1 [.at .bool] fun (x25 : Bool) =>
  ∀ w2, Ext w1 w2 →
  cond (!x25) (
  Q false w2) (
  I4 (IntKind.i64.wrap (i + 1)) w2 ∧ m4 (IntKind.i64.wrap (i + 1)) w2 < m4 i w1)) (
  Q true w1))

theorem C_l_eqEndS {Q : Bool → World → Prop} {a : Sl} {b : Sl} {w : World} (h : V_l_eqEndS Q a b w) : Calls Tryz.prog F.l_eqEndS #[a.v, b.v] w (Ret [.at .bool] Q) :=
  mkC (hint := hint) (ann := annOf [(4, ⟨[(5, .int .i64)], [4, 11, 12, 13, 14, 15, 16, 17, 18, 19, 20, 21, 22, 23, 24, 25, 26]⟩)]) (args := [a.v, b.v]) (rs := [.at .bool]) Tryz.func105 (by kernel_rfl) (by kernel_rfl) h

def V_l_markEndS (Q : Int → World → Prop) (a : Sl) (k : Int) (w : World) : Prop :=
  ∃ (I2 : Int → Int → World → Prop) (m2 : Int → Int → World → Nat), I2 k 0 w ∧ ∀ (k_2 : Int) (i : Int) w1, I2 k_2 i w1 → ∀ _ _ _ _ _ _ _ _ _ _ _ _ _ _ _ _ _ _ _ _ : Value,
  cond (decide ((i : Int) < a.len)) (
  IX a i 2 fun (px15 : Addr) =>
  ST (px15.add 0) 0 [.int .i64 k_2] w1 fun w2 =>
  IX a i 2 fun (px22 : Addr) =>
  ST (px22.add 1) 0 [.int .i64 (IntKind.i64.wrap (k_2 + 1))] w2 fun w3 =>
  I2 (IntKind.i64.wrap ((IntKind.i64.wrap (k_2 + 1)) + 1)) (IntKind.i64.wrap (i + 1)) w3 ∧ m2 (IntKind.i64.wrap ((IntKind.i64.wrap (k_2 + 1)) + 1)) (IntKind.i64.wrap (i + 1)) w3 < m2 k_2 i w1) (
  Q k_2 w1)

theorem C_l_markEndS {Q : Int → World → Prop} {a : Sl} {k : Int} {w : World} (h : V_l_markEndS Q a k w) : Calls Tryz.prog F.l_markEndS #[a.v, .int .i64 k] w (Ret [.at (.int .i64)] Q) :=
  mkC (hint := hint) (ann := annOf [(2, ⟨[(1, .int .i64), (5, .int .i64)], [6, 7, 8, 9, 10, 11, 12, 13, 14, 15, 16, 17, 18, 19, 20, 21, 22, 23, 24, 25]⟩)]) (args := [a.v, .int .i64 k]) (rs := [.at (.int .i64)]) Tryz.func106 (by kernel_rfl) (by kernel_rfl) h

def V_slices_Equal_sl_int_int (Q : Bool → World → Prop) (s1 : Sl) (s2 : Sl) (w : World) : Prop :=
  cond ((s1.len : Int) != s2.len) (
  Q false w) (
  ∃ (I4 : Int → World → Prop) (m4 : Int → World → Nat), I4 0 w ∧ ∀ (x13 : Int) w1, I4 x13 w1 → ∀ _ _ _ _ _ _ _ _ _ _ _ _ _ _ : Value,
  cond (decide ((x13 : Int) < s1.len)) (
  IX s1 x13 1 fun (px18 : Addr) =>
  LD [.int .i64] px18 w1 fun (x19 : Int) =>
  IX s2 x13 1 fun (px22 : Addr) =>
  LD [.int .i64] px22 w1 fun (x23 : Int) =>
  ∀ w2, Ext w1 w2 →
  cond ((x19 : Int) != x23) (
  Q false w2) (
  I4 (IntKind.i64.wrap (x13 + 1)) w2 ∧ m4 (IntKind.i64.wrap (x13 + 1)) w2 < m4 x13 w1)) (
  Q true w1))

theorem C_slices_Equal_sl_int_int {Q : Bool → World → Prop} {s1 : Sl} {s2 : Sl} {w : World} (h : V_slices_Equal_sl_int_int Q s1 s2 w) : Calls Tryz.prog F.slices_Equal_sl_int_int #[s1.v, s2.v] w (Ret [.at .bool] Q) :=
  mkC (hint := hint) (ann := annOf [(4, ⟨[(13, .int .i64)], [4, 5, 14, 15, 16, 17, 18, 19, 20, 21, 22, 23, 24, 25]⟩)]) (args := [s1.v, s2.v]) (rs := [.at .bool]) Tryz.func115 (by kernel_rfl) (by kernel_rfl) h

def V_s_prLists_k4 (I2 : Int → World → Prop) (m2 : Int → World → Nat) (x12 : Int) (w1 : World) (size1 : Int) (Q : Bool → World → Prop) (x16 : Sl) (w4 : World) : Prop :=
  ∃ (I7 : Int → World → Prop) (m7 : Int → World → Nat), I7 1 w4 ∧ ∀ (k : Int) w5, I7 k w5 → ∀ _ _ _ _ _ _ _ _ _ _ _ _ _ _ _ _ : Value,
  cond (decide ((k : Int) < size1)) (
  IX x16 (IntKind.i64.wrap (k - 1)) 1 fun (px50 : Addr) =>
  LD [.int .i64] px50 w5 fun (x51 : Int) =>
  IX x16 k 1 fun (px54 : Addr) =>
  LD [.int .i64] px54 w5 fun (x55 : Int) =>
  ∀ w6, Ext w5 w6 →
  cond (decide ((x51 : Int) > x55)) (
  Q false w6) (
  I7 (IntKind.i64.wrap (k + 1)) w6 ∧ m7 (IntKind.i64.wrap (k + 1)) w6 < m7 k w5)) (
  I2 (IntKind.i64.wrap (x12 + 1)) w5 ∧ m2 (IntKind.i64.wrap (x12 + 1)) w5 < m2 x12 w1)

def V_s_prLists (Q : Bool → World → Prop) (l : Sl) (size1 : Int) (labels : Int) (w : World) : Prop :=
  ∃ (I2 : Int → World → Prop) (m2 : Int → World → Nat), I2 0 w ∧ ∀ (x12 : Int) w1, I2 x12 w1 → ∀ _ _ _ _ _ _ _ _ _ _ _ _ _ _ _ _ _ _ _ _ _ _ _ _ _ _ _ _ _ _ _ _ _ _ _ _ _ _ _ _ _ _ _ _ _ _ _ _ _ : Value,
  cond (decide ((x12 : Int) < l.len)) (
  IX l x12 1 fun (px15 : Addr) =>
  LD [.sl] px15 w1 fun (x16 : Sl) =>
  cond ((x16.len : Int) != size1) (
  Q false w1) (
  Calls Tryz.prog F.s_l1All #[x16.v, .int .i64 0, .int .i64 (IntKind.i64.wrap (labels - 1))] w1 (Ret [.at .bool] fun (x25 : Bool) w2 =>
  cond (!x25) (
  Q false w2) (
  cond (decide ((x12 : Int) > 0)) (
  IX l (IntKind.i64.wrap (x12 - 1)) 1 fun (px35 : Addr) =>
  LD [.sl] px35 w2 fun (x36 : Sl) =>
  Calls Tryz.prog F.s_prOrder #[x36.v, x16.v] w2 (Ret [.at (.int .i64)] fun (x38 : Int) w3 =>
  cond (decide ((x38 : Int) ≥ 0)) (
  Q false w3) (
  V_s_prLists_k4 I2 m2 x12 w1 size1 Q x16 w3))) (
  V_s_prLists_k4 I2 m2 x12 w1 size1 Q x16 w2))))) (
  Q true w1)

theorem C_s_prLists {Q : Bool → World → Prop} {l : Sl} {size1 : Int} {labels : Int} {w : World} (h : V_s_prLists Q l size1 labels w) : Calls Tryz.prog F.s_prLists #[l.v, .int .i64 size1, .int .i64 labels] w (Ret [.at .bool] Q) :=
  mkC (hint := hint) (ann := annOf [(2, ⟨[(12, .int .i64)], [6, 7, 8, 9, 13, 14, 15, 16, 17, 18, 19, 20, 21, 22, 23, 24, 25, 26, 27, 28, 29, 30, 31, 32, 33, 34, 35, 36, 37, 38, 39, 40, 41, 42, 43, 44, 45, 46, 47, 48, 49, 50, 51, 52, 53, 54, 55, 56, 57]⟩), (7, ⟨[(9, .int .i64)], [6, 42, 43, 44, 45, 46, 47, 48, 49, 50, 51, 52, 53, 54, 55, 56]⟩)]) (args := [l.v, .int .i64 size1, .int .i64 labels]) (rs := [.at .bool]) Tryz.func117 (by kernel_rfl) (by kernel_rfl) h

def V_i_configurationsOk (Q : Bool → World → Prop) (list : Sl) (size1 : Int) (labels : Int) (w : World) : Prop :=
  ∃ (I2 : Int → World → Prop) (m2 : Int → World → Nat), I2 0 w ∧ ∀ (x11 : Int) w1, I2 x11 w1 → ∀ _ _ _ _ _ _ _ _ _ _ _ _ _ _ _ _ _ _ _ _ _ _ _ _ _ _ _ _ _ _ _ _ _ _ _ _ _ _ : Value,
  cond (decide ((x11 : Int) < list.len)) (
  IX list x11 1 fun (px14 : Addr) =>
  LD [.sl] px14 w1 fun (x15 : Sl) =>
  cond ((x15.len : Int) != size1) (
  Q false w1) (
  Calls Tryz.prog F.slices_IsSorted_sl_int_int #[x15.v] w1 (Ret [.at .bool] fun (x22 : Bool) w2 =>
  cond (!x22) (
  Q false w2) (
  Calls Tryz.prog F.i_allWithin #[x15.v, .int .i64 0, .int .i64 (IntKind.i64.wrap (labels - 1))] w2 (Ret [.at .bool] fun (x29 : Bool) w3 =>
  cond (!x29) (
  Q false w3) (
  cond (decide ((x11 : Int) > 0)) (
  IX list (IntKind.i64.wrap (x11 - 1)) 1 fun (px39 : Addr) =>
  LD [.sl] px39 w3 fun (x40 : Sl) =>
  Calls Tryz.prog F.slices_Compare_sl_int_int #[x40.v, x15.v] w3 (Ret [.at (.int .i64)] fun (x42 : Int) w4 =>
  cond (decide ((x42 : Int) ≥ 0)) (
  Q false w4) (
  I2 (IntKind.i64.wrap (x11 + 1)) w4 ∧ m2 (IntKind.i64.wrap (x11 + 1)) w4 < m2 x11 w1))) (
  I2 (IntKind.i64.wrap (x11 + 1)) w3 ∧ m2 (IntKind.i64.wrap (x11 + 1)) w3 < m2 x11 w1))))))) (
  Q true w1)

theorem C_i_configurationsOk {Q : Bool → World → Prop} {list : Sl} {size1 : Int} {labels : Int} {w : World} (h : V_i_configurationsOk Q list size1 labels w) : Calls Tryz.prog F.i_configurationsOk #[list.v, .int .i64 size1, .int .i64 labels] w (Ret [.at .bool] Q) :=
  mkC (hint := hint) (ann := annOf [(2, ⟨[(11, .int .i64)], [6, 7, 8, 12, 13, 14, 15, 16, 17, 18, 19, 20, 21, 22, 23, 24, 25, 26, 27, 28, 29, 30, 31, 32, 33, 34, 35, 36, 37, 38, 39, 40, 41, 42, 43, 44, 45, 46]⟩)]) (args := [list.v, .int .i64 size1, .int .i64 labels]) (rs := [.at .bool]) Tryz.func121 (by kernel_rfl) (by kernel_rfl) h

def V_i_edgeStep (Q : Int → Int → Sl → Sl → Sl → Bool → World → Prop) (p_0 : Int) (p_1 : Int) (p_2 : Sl) (p_3 : Sl) (w : World) : Prop :=
  NEW T.t_i_Problem #[.int .i64 p_0, .int .i64 p_1, p_2.v, p_3.v] w fun (p_p : Addr) w1 =>
  NEW T.t_i_Problem #[.int .i64 0, .int .i64 0, .slice none 0 0, .slice none 0 0] w1 fun (px2 : Addr) w2 =>
  ∃ (I3 : Sl → Int → World → Prop) (m3 : Sl → Int → World → Nat), I3 (⟨none, 0, 0⟩) 1 w2 ∧ ∀ (full : Sl) (set1 : Int) w3, I3 full set1 w3 → ∀ _ _ _ _ _ _ _ _ _ _ _ _ _ _ _ _ _ _ _ _ _ _ _ _ _ _ : Value,
  LD [.int .i64] (p_p.add 0) w3 fun (x13 : Int) =>
  (0 : Int) ≤ x13 ∧ (
  cond (decide ((set1 : Int) < (shlI .i64 1 x13))) (
  LD [.int .i64, .int .i64, .sl, .sl] p_p w3 fun (x18_0 : Int) (x18_1 : Int) (x18_2 : Sl) (x18_3 : Sl) =>
  Calls Tryz.prog F.i_beside #[.agg #[.int .i64 x18_0, .int .i64 x18_1, x18_2.v, x18_3.v], .int .i64 set1] w3 (Ret [.at (.int .i64)] fun (x20 : Int) w4 =>
  cond ((x20 : Int) != 0) (
  LD [.int .i64, .int .i64, .sl, .sl] p_p w4 fun (x24_0 : Int) (x24_1 : Int) (x24_2 : Sl) (x24_3 : Sl) =>
  Calls Tryz.prog F.i_beside #[.agg #[.int .i64 x24_0, .int .i64 x24_1, x24_2.v, x24_3.v], .int .i64 x20] w4 (Ret [.at (.int .i64)] fun (x26 : Int) w5 =>
  cond ((x26 : Int) == set1) (
  RUN Tryz.prog (.at .sl) (Instr.buildSlice T.t_sl_int 2 #[(0, .int .i64 set1), (1, .int .i64 x20)]) w5 fun (x33 : Sl) w6 =>
  RUN Tryz.prog (.at .sl) (Instr.buildSlice T.t_sl_sl_int 1 #[(0, x33.v)]) w6 fun (x34 : Sl) w7 =>
  RUN Tryz.prog (.at .sl) (bsem .append #[T.t_sl_sl_int, T.t_sl_sl_int] T.t_sl_sl_int #[full.v, x34.v]) w7 fun (x35 : Sl) w8 =>
  I3 x35 (IntKind.i64.wrap (set1 + 1)) w8 ∧ m3 x35 (IntKind.i64.wrap (set1 + 1)) w8 < m3 full set1 w3) (
  I3 full (IntKind.i64.wrap (set1 + 1)) w5 ∧ m3 full (IntKind.i64.wrap (set1 + 1)) w5 < m3 full set1 w3))) (
  I3 full (IntKind.i64.wrap (set1 + 1)) w4 ∧ m3 full (IntKind.i64.wrap (set1 + 1)) w4 < m3 full set1 w3))) (
  Calls Tryz.prog F.i_newLabels #[full.v] w3 (Ret [.at .sl, .at .sl] fun (x38_0 : Sl) (x38_1 : Sl) w9 =>
  NEW T.t_sl_int #[.slice none 0 0] w9 fun (p_sets : Addr) w10 =>
  ST p_sets 0 [x38_0.v] w10 fun w11 =>
  LD [.sl] p_sets w11 fun (x41 : Sl) =>
  Calls Tryz.prog F.i_within #[.int .i64 x41.len, .int .i64 1, .int .i64 8] w11 (Ret [.at .bool] fun (x43 : Bool) w12 =>
  cond (!x43) (
  ST px2 0 [.int .i64 0, .int .i64 0, .slice none 0 0, .slice none 0 0] w12 fun w13 =>
  LD [.int .i64, .int .i64, .sl, .sl] px2 w13 fun (r0_0 : Int) (r0_1 : Int) (r0_2 : Sl) (r0_3 : Sl) =>
  Q r0_0 r0_1 r0_2 r0_3 (⟨none, 0, 0⟩) false w13) (
  LD [.sl] p_sets w12 fun (x46 : Sl) =>
  LD [.int .i64] (p_p.add 1) w12 fun (x49 : Int) =>
  Calls Tryz.prog F.i_allowedBy #[.int .i64 x46.len, .int .i64 x49, .func (.func F.i_edgeStep_1) #[] #[.pointer (some p_p), .pointer (some p_sets)]] w12 (Ret [.at .sl] fun (x51 : Sl) w14 =>
  ∀ w15, Ext w14 w15 → w15.heap = w14.heap → ∃ (D15 : Nat → Prop),
  ¬ D15 p_sets.block ∧ (
  LD [.sl] p_sets w15 fun (x52 : Sl) =>
  ¬ D15 (p_p.add 1).block ∧ (
  LD [.int .i64] (p_p.add 1) w15 fun (x55 : Int) =>
  ¬ D15 p_sets.block ∧ (
  LD [.sl] p_sets w15 fun (x59 : Sl) =>
  ST px2 0 [.int .i64 x52.len, .int .i64 x55, x51.v, x38_1.v] w15 fun w16 =>
  Chg w15 w16 D15 ∧ (
  LD [.int .i64, .int .i64, .sl, .sl] px2 w16 fun (r0_0_2 : Int) (r0_1_2 : Int) (r0_2_2 : Sl) (r0_3_2 : Sl) =>
  Q r0_0_2 r0_1_2 r0_2_2 r0_3_2 x59 true w16))))))))))

theorem C_i_edgeStep {Q : Int → Int → Sl → Sl → Sl → Bool → World → Prop} {p_0 : Int} {p_1 : Int} {p_2 : Sl} {p_3 : Sl} {w : World} (h : V_i_edgeStep Q p_0 p_1 p_2 p_3 w) : Calls Tryz.prog F.i_edgeStep #[.agg #[.int .i64 p_0, .int .i64 p_1, p_2.v, p_3.v]] w (Ret [.agg [.int .i64, .int .i64, .sl, .sl], .at .sl, .at .bool] Q) :=
  mkC (hint := hint) (ann := annOf [(3, ⟨[(5, .sl), (6, .int .i64)], [7, 11, 12, 13, 14, 15, 16, 17, 18, 19, 20, 21, 22, 23, 24, 25, 26, 27, 28, 29, 30, 31, 32, 33, 34, 35]⟩)]) (args := [.agg #[.int .i64 p_0, .int .i64 p_1, p_2.v, p_3.v]]) (rs := [.agg [.int .i64, .int .i64, .sl, .sl], .at .sl, .at .bool]) Tryz.func122 (by kernel_rfl) (by kernel_rfl) h

def V_i_nodeStep_k1 (Q : Int → Int → Sl → Sl → Sl → Bool → World → Prop) (p_p : Addr) (px2 : Addr) (w4 : World) : Prop :=
  LD [.int .i64, .int .i64, .sl, .sl] p_p w4 fun (x18_0 : Int) (x18_1 : Int) (x18_2 : Sl) (x18_3 : Sl) =>
  Calls Tryz.prog F.i_newNodeSets #[.agg #[.int .i64 x18_0, .int .i64 x18_1, x18_2.v, x18_3.v]] w4 (Ret [.at .ptr] fun (x19 : Addr) w5 =>
  Calls Tryz.prog F.ptr_i_nodeSets_fullLists #[.pointer (some x19)] w5 (Ret [.at .sl] fun (x20 : Sl) w6 =>
  Calls Tryz.prog F.i_newLabels #[x20.v] w6 (Ret [.at .sl, .at .sl] fun (x21_0 : Sl) (x21_1 : Sl) w7 =>
  NEW T.t_sl_int #[.slice none 0 0] w7 fun (p_sets : Addr) w8 =>
  ST p_sets 0 [x21_0.v] w8 fun w9 =>
  LD [.sl] p_sets w9 fun (x24 : Sl) =>
  Calls Tryz.prog F.i_within #[.int .i64 x24.len, .int .i64 1, .int .i64 8] w9 (Ret [.at .bool] fun (x26 : Bool) w10 =>
  cond (!x26) (
  ST px2 0 [.int .i64 0, .int .i64 0, .slice none 0 0, .slice none 0 0] w10 fun w11 =>
  LD [.int .i64, .int .i64, .sl, .sl] px2 w11 fun (r0_0_2 : Int) (r0_1_2 : Int) (r0_2_2 : Sl) (r0_3_2 : Sl) =>
  Q r0_0_2 r0_1_2 r0_2_2 r0_3_2 (⟨none, 0, 0⟩) false w11) (
  LD [.sl] p_sets w10 fun (x29 : Sl) =>
  Calls Tryz.prog F.i_allowedBy #[.int .i64 x29.len, .int .i64 2, .func (.func F.i_nodeStep_1) #[] #[.pointer (some p_p), .pointer (some p_sets)]] w10 (Ret [.at .sl] fun (x32 : Sl) w12 =>
  ∀ w13, Ext w12 w13 → w13.heap = w12.heap → ∃ (D13 : Nat → Prop),
  ¬ D13 p_sets.block ∧ (
  LD [.sl] p_sets w13 fun (x33 : Sl) =>
  ¬ D13 (p_p.add 1).block ∧ (
  LD [.int .i64] (p_p.add 1) w13 fun (x36 : Int) =>
  ¬ D13 p_sets.block ∧ (
  LD [.sl] p_sets w13 fun (x40 : Sl) =>
  ST px2 0 [.int .i64 x33.len, .int .i64 x36, x21_1.v, x32.v] w13 fun w14 =>
  Chg w13 w14 D13 ∧ (
  LD [.int .i64, .int .i64, .sl, .sl] px2 w14 fun (r0_0_3 : Int) (r0_1_3 : Int) (r0_2_3 : Sl) (r0_3_3 : Sl) =>
  Q r0_0_3 r0_1_3 r0_2_3 r0_3_3 x40 true w14))))))))))

def V_i_nodeStep (Q : Int → Int → Sl → Sl → Sl → Bool → World → Prop) (p_0 : Int) (p_1 : Int) (p_2 : Sl) (p_3 : Sl) (w : World) : Prop :=
  NEW T.t_i_Problem #[.int .i64 p_0, .int .i64 p_1, p_2.v, p_3.v] w fun (p_p : Addr) w1 =>
  NEW T.t_i_Problem #[.int .i64 0, .int .i64 0, .slice none 0 0, .slice none 0 0] w1 fun (px2 : Addr) w2 =>
  LD [.int .i64] (p_p.add 1) w2 fun (x9 : Int) =>
  cond ((x9 : Int) == 4) (
  LD [.int .i64] (p_p.add 0) w2 fun (x13 : Int) =>
  cond (decide ((x13 : Int) > 6)) (
  ST px2 0 [.int .i64 0, .int .i64 0, .slice none 0 0, .slice none 0 0] w2 fun w3 =>
  LD [.int .i64, .int .i64, .sl, .sl] px2 w3 fun (r0_0 : Int) (r0_1 : Int) (r0_2 : Sl) (r0_3 : Sl) =>
  Q r0_0 r0_1 r0_2 r0_3 (⟨none, 0, 0⟩) false w3) (
  V_i_nodeStep_k1 Q p_p px2 w2)) (
  V_i_nodeStep_k1 Q p_p px2 w2)

theorem C_i_nodeStep {Q : Int → Int → Sl → Sl → Sl → Bool → World → Prop} {p_0 : Int} {p_1 : Int} {p_2 : Sl} {p_3 : Sl} {w : World} (h : V_i_nodeStep Q p_0 p_1 p_2 p_3 w) : Calls Tryz.prog F.i_nodeStep #[.agg #[.int .i64 p_0, .int .i64 p_1, p_2.v, p_3.v]] w (Ret [.agg [.int .i64, .int .i64, .sl, .sl], .at .sl, .at .bool] Q) :=
  mkC (hint := hint) (ann := annOf []) (args := [.agg #[.int .i64 p_0, .int .i64 p_1, p_2.v, p_3.v]]) (rs := [.agg [.int .i64, .int .i64, .sl, .sl], .at .sl, .at .bool]) Tryz.func123 (by kernel_rfl) (by kernel_rfl) h

def V_i_Problem_hasLabels (Q : Bool → World → Prop) (p_0 : Int) (p_1 : Int) (p_2 : Sl) (p_3 : Sl) (labels : Sl) (w : World) : Prop :=
  NEW T.t_i_Problem #[.int .i64 p_0, .int .i64 p_1, p_2.v, p_3.v] w fun (p_p : Addr) w1 =>
  LD [.int .i64] (p_p.add 0) w1 fun (x7 : Int) =>
  Calls Tryz.prog F.i_allWithin #[labels.v, .int .i64 0, .int .i64 (IntKind.i64.wrap (x7 - 1))] w1 (Ret [.at .bool] fun (x9 : Bool) w2 =>
  Q x9 w2)

theorem C_i_Problem_hasLabels {Q : Bool → World → Prop} {p_0 : Int} {p_1 : Int} {p_2 : Sl} {p_3 : Sl} {labels : Sl} {w : World} (h : V_i_Problem_hasLabels Q p_0 p_1 p_2 p_3 labels w) : Calls Tryz.prog F.i_Problem_hasLabels #[.agg #[.int .i64 p_0, .int .i64 p_1, p_2.v, p_3.v], labels.v] w (Ret [.at .bool] Q) :=
  mkC (hint := hint) (ann := annOf []) (args := [.agg #[.int .i64 p_0, .int .i64 p_1, p_2.v, p_3.v], labels.v]) (rs := [.at .bool]) Tryz.func124 (by kernel_rfl) (by kernel_rfl) h

def V_i_Problem_node (Q : Bool → World → Prop) (p_0 : Int) (p_1 : Int) (p_2 : Sl) (p_3 : Sl) (labels : Sl) (w : World) : Prop :=
  NEW T.t_i_Problem #[.int .i64 p_0, .int .i64 p_1, p_2.v, p_3.v] w fun (p_p : Addr) w1 =>
  LD [.sl] (p_p.add 2) w1 fun (x6 : Sl) =>
  Calls Tryz.prog F.i_hasConfiguration #[x6.v, labels.v] w1 (Ret [.at .bool] fun (x8 : Bool) w2 =>
  Q x8 w2)

theorem C_i_Problem_node {Q : Bool → World → Prop} {p_0 : Int} {p_1 : Int} {p_2 : Sl} {p_3 : Sl} {labels : Sl} {w : World} (h : V_i_Problem_node Q p_0 p_1 p_2 p_3 labels w) : Calls Tryz.prog F.i_Problem_node #[.agg #[.int .i64 p_0, .int .i64 p_1, p_2.v, p_3.v], labels.v] w (Ret [.at .bool] Q) :=
  mkC (hint := hint) (ann := annOf []) (args := [.agg #[.int .i64 p_0, .int .i64 p_1, p_2.v, p_3.v], labels.v]) (rs := [.at .bool]) Tryz.func125 (by kernel_rfl) (by kernel_rfl) h

def V_slices_ContainsFunc_sl_sl_int_sl_int (Q : Bool → World → Prop) (s : Sl) (f : Value) (w : World) : Prop :=
  Calls Tryz.prog F.slices_IndexFunc_sl_sl_int_sl_int #[s.v, f] w (Ret [.at (.int .i64)] fun (x7 : Int) w1 =>
  Q (decide ((x7 : Int) ≥ 0)) w1)

theorem C_slices_ContainsFunc_sl_sl_int_sl_int {Q : Bool → World → Prop} {s : Sl} {f : Value} {w : World} (h : V_slices_ContainsFunc_sl_sl_int_sl_int Q s f w) : Calls Tryz.prog F.slices_ContainsFunc_sl_sl_int_sl_int #[s.v, f] w (Ret [.at .bool] Q) :=
  mkC (hint := hint) (ann := annOf []) (args := [s.v, f]) (rs := [.at .bool]) Tryz.func127 (by kernel_rfl) (by kernel_rfl) h

def V_i_Problem_edge (Q : Bool → World → Prop) (p_0 : Int) (p_1 : Int) (p_2 : Sl) (p_3 : Sl) (a : Int) (b : Int) (w : World) : Prop :=
  NEW T.t_i_Problem #[.int .i64 p_0, .int .i64 p_1, p_2.v, p_3.v] w fun (p_p : Addr) w1 =>
  LD [.sl] (p_p.add 3) w1 fun (x8 : Sl) =>
  RUN Tryz.prog (.at .sl) (Instr.buildSlice T.t_sl_int 2 #[(0, .int .i64 a), (1, .int .i64 b)]) w1 fun (x11 : Sl) w2 =>
  Calls Tryz.prog F.i_hasConfiguration #[x8.v, x11.v] w2 (Ret [.at .bool] fun (x12 : Bool) w3 =>
  Q x12 w3)

theorem C_i_Problem_edge {Q : Bool → World → Prop} {p_0 : Int} {p_1 : Int} {p_2 : Sl} {p_3 : Sl} {a : Int} {b : Int} {w : World} (h : V_i_Problem_edge Q p_0 p_1 p_2 p_3 a b w) : Calls Tryz.prog F.i_Problem_edge #[.agg #[.int .i64 p_0, .int .i64 p_1, p_2.v, p_3.v], .int .i64 a, .int .i64 b] w (Ret [.at .bool] Q) :=
  mkC (hint := hint) (ann := annOf []) (args := [.agg #[.int .i64 p_0, .int .i64 p_1, p_2.v, p_3.v], .int .i64 a, .int .i64 b]) (rs := [.at .bool]) Tryz.func129 (by kernel_rfl) (by kernel_rfl) h

def V_s_reShifted (Q : Sl → World → Prop) (l : Sl) (by1 : Int) (w : World) : Prop :=
  ∃ (I3 : Sl → Int → World → Prop) (m3 : Sl → Int → World → Nat), I3 (⟨none, 0, 0⟩) 0 w ∧ ∀ (out : Sl) (x13 : Int) w1, I3 out x13 w1 → ∀ _ _ _ _ _ _ _ _ _ _ _ _ _ _ _ _ _ _ _ _ _ _ _ _ : Value,
  cond (decide ((x13 : Int) < l.len)) (
  IX l x13 1 fun (px15 : Addr) =>
  LD [.sl] px15 w1 fun (x16 : Sl) =>
  ∃ (I7 : Sl → Int → World → Prop) (m7 : Sl → Int → World → Nat), I7 (⟨none, 0, 0⟩) 0 w1 ∧ ∀ (y : Sl) (x19 : Int) w2, I7 y x19 w2 → ∀ _ _ _ _ _ _ _ _ _ _ _ : Value,
  cond (decide ((x19 : Int) < x16.len)) (
  IX x16 x19 1 fun (px21 : Addr) =>
  LD [.int .i64] px21 w2 fun (x22 : Int) =>
  RUN Tryz.prog (.at .sl) (Instr.buildSlice T.t_sl_int 1 #[(0, .int .i64 (IntKind.i64.wrap (x22 + by1)))]) w2 fun (x27 : Sl) w3 =>
  RUN Tryz.prog (.at .sl) (bsem .append #[T.t_sl_int, T.t_sl_int] T.t_sl_int #[y.v, x27.v]) w3 fun (x28 : Sl) w4 =>
  I7 x28 (IntKind.i64.wrap (x19 + 1)) w4 ∧ m7 x28 (IntKind.i64.wrap (x19 + 1)) w4 < m7 y x19 w2) (
  RUN Tryz.prog (.at .sl) (Instr.buildSlice T.t_sl_sl_int 1 #[(0, y.v)]) w2 fun (x32 : Sl) w5 =>
  RUN Tryz.prog (.at .sl) (bsem .append #[T.t_sl_sl_int, T.t_sl_sl_int] T.t_sl_sl_int #[out.v, x32.v]) w5 fun (x33 : Sl) w6 =>
  I3 x33 (IntKind.i64.wrap (x13 + 1)) w6 ∧ m3 x33 (IntKind.i64.wrap (x13 + 1)) w6 < m3 out x13 w1)) (
  Q out w1)

theorem C_s_reShifted {Q : Sl → World → Prop} {l : Sl} {by1 : Int} {w : World} (h : V_s_reShifted Q l by1 w) : Calls Tryz.prog F.s_reShifted #[l.v, .int .i64 by1] w (Ret [.at .sl] Q) :=
  mkC (hint := hint) (ann := annOf [(3, ⟨[(5, .sl), (13, .int .i64)], [7, 8, 10, 14, 15, 16, 17, 18, 19, 20, 21, 22, 23, 24, 25, 26, 27, 28, 29, 30, 31, 32, 33, 34]⟩), (7, ⟨[(8, .sl), (19, .int .i64)], [10, 20, 21, 22, 23, 24, 25, 26, 27, 28, 29]⟩)]) (args := [l.v, .int .i64 by1]) (rs := [.at .sl]) Tryz.func131 (by kernel_rfl) (by kernel_rfl) h

def V_s_elNode_k5 (I6 : Sl → Int → World → Prop) (m6 : Sl → Int → World → Nat) (x6 : Sl) (x33 : Int) (w10 : World) (x6_2 : Sl) (w21 : World) : Prop :=
  I6 x6_2 (IntKind.i64.wrap (x33 + 1)) w21 ∧ m6 x6_2 (IntKind.i64.wrap (x33 + 1)) w21 < m6 x6 x33 w10

def V_s_elNode_k9 (I6 : Sl → Int → World → Prop) (m6 : Sl → Int → World → Nat) (x33 : Int) (w10 : World) (px5 : Addr) (x6 : Sl) (x9 : Sl) (x51 : Int) (w15 : World) : Prop :=
  RUN Tryz.prog (.at .sl) (Instr.buildSlice T.t_sl_int 1 #[(0, .int .i64 x51)]) w15 fun (x71 : Sl) w16 =>
  RUN Tryz.prog (.at .sl) (bsem .append #[T.t_sl_int, T.t_sl_int] T.t_sl_int #[x9.v, x71.v]) w16 fun (x72 : Sl) w17 =>
  LD [.int .i64, .int .i64, .sl, .sl, .sl] px5 w17 fun (x73_0 : Int) (x73_1 : Int) (x73_2 : Sl) (x73_3 : Sl) (x73_4 : Sl) =>
  Calls Tryz.prog F.s_elTable_full #[.agg #[.int .i64 x73_0, .int .i64 x73_1, x73_2.v, x73_3.v, x73_4.v], x72.v] w17 (Ret [.at .bool] fun (x75 : Bool) w18 =>
  cond x75 (
  RUN Tryz.prog (.at .sl) (Instr.buildSlice T.t_sl_sl_int 1 #[(0, x72.v)]) w18 fun (x78 : Sl) w19 =>
  RUN Tryz.prog (.at .sl) (bsem .append #[T.t_sl_sl_int, T.t_sl_sl_int] T.t_sl_sl_int #[x6.v, x78.v]) w19 fun (x79 : Sl) w20 =>
  V_s_elNode_k5 I6 m6 x6 x33 w10 x79 w20) (
  V_s_elNode_k5 I6 m6 x6 x33 w10 x6 w18))

def V_s_elNode_k1 (Q : Int → Int → Sl → Sl → Sl → Bool → World → Prop) (px1 : Addr) (px2 : Addr) (w4 : World) : Prop :=
  LD [.int .i64, .int .i64, .sl, .sl] px1 w4 fun (x22_0 : Int) (x22_1 : Int) (x22_2 : Sl) (x22_3 : Sl) =>
  Calls Tryz.prog F.s_elTabled #[.agg #[.int .i64 x22_0, .int .i64 x22_1, x22_2.v, x22_3.v]] w4 (Ret [.agg [.int .i64, .int .i64, .sl, .sl, .sl]] fun (x23_0 : Int) (x23_1 : Int) (x23_2 : Sl) (x23_3 : Sl) (x23_4 : Sl) w5 =>
  NEW T.t_s_elTable #[.int .i64 0, .int .i64 0, .slice none 0 0, .slice none 0 0, .slice none 0 0] w5 fun (px5 : Addr) w6 =>
  ST px5 0 [.int .i64 x23_0, .int .i64 x23_1, x23_2.v, x23_3.v, x23_4.v] w6 fun w7 =>
  ∀ w8, Ext w7 w8 → w8.heap = w7.heap →
  LD [.int .i64] (px1.add 0) w8 fun (x25 : Int) =>
  (0 : Int) ≤ x25 ∧ (
  LD [.int .i64] (px1.add 1) w8 fun (x29 : Int) =>
  Calls Tryz.prog F.s_reChoices #[.int .i64 (IntKind.i64.wrap ((shlI .i64 1 x25) - 1)), .int .i64 (IntKind.i64.wrap (x29 - 1))] w8 (Ret [.at .sl] fun (x31 : Sl) w9 =>
  Ext w8 w9 ∧ (
  Ext w8 w9 ∧ (
  ∃ (I6 : Sl → Int → World → Prop) (m6 : Sl → Int → World → Nat), I6 (⟨none, 0, 0⟩) 0 w9 ∧ ∀ (x6 : Sl) (x33 : Int) w10, I6 x6 x33 w10 → ∀ _ _ _ _ _ _ _ _ _ _ _ _ _ _ _ _ _ _ _ _ _ _ _ _ _ _ _ _ _ _ _ _ _ _ _ _ _ _ _ _ _ _ _ _ _ _ _ _ _ _ _ : Value,
  cond (decide ((x33 : Int) < x31.len)) (
  IX x31 x33 1 fun (px35 : Addr) =>
  LD [.sl] px35 w10 fun (x36 : Sl) =>
  ∃ (I10 : Sl → Int → World → Prop) (m10 : Sl → Int → World → Nat), I10 (⟨none, 0, 0⟩) 0 w10 ∧ ∀ (x9 : Sl) (x39 : Int) w11, I10 x9 x39 w11 → ∀ _ _ _ _ _ _ _ _ _ _ : Value,
  cond (decide ((x39 : Int) < x36.len)) (
  IX x36 x39 1 fun (px41 : Addr) =>
  LD [.int .i64] px41 w11 fun (x42 : Int) =>
  RUN Tryz.prog (.at .sl) (Instr.buildSlice T.t_sl_int 1 #[(0, .int .i64 (IntKind.i64.wrap (x42 + 1)))]) w11 fun (x46 : Sl) w12 =>
  RUN Tryz.prog (.at .sl) (bsem .append #[T.t_sl_int, T.t_sl_int] T.t_sl_int #[x9.v, x46.v]) w12 fun (x47 : Sl) w13 =>
  I10 x47 (IntKind.i64.wrap (x39 + 1)) w13 ∧ m10 x47 (IntKind.i64.wrap (x39 + 1)) w13 < m10 x9 x39 w11) (
  LD [.int .i64, .int .i64, .sl, .sl, .sl] px5 w11 fun (x49_0 : Int) (x49_1 : Int) (x49_2 : Sl) (x49_3 : Sl) (x49_4 : Sl) =>
  Calls Tryz.prog F.s_elTable_rest #[.agg #[.int .i64 x49_0, .int .i64 x49_1, x49_2.v, x49_3.v, x49_4.v], x9.v, .int .i64 0] w11 (Ret [.at (.int .i64)] fun (x51 : Int) w14 =>
  cond ((x51 : Int) == 0) (
  V_s_elNode_k5 I6 m6 x6 x33 w10 x6 w14) (
  cond (decide ((x9.len : Int) > 0)) (
  IX x9 (IntKind.i64.wrap (x9.len - 1)) 1 fun (px64 : Addr) =>
  LD [.int .i64] px64 w14 fun (x65 : Int) =>
  cond (decide ((x51 : Int) < x65)) (
  V_s_elNode_k5 I6 m6 x6 x33 w10 x6 w14) (
  V_s_elNode_k9 I6 m6 x33 w10 px5 x6 x9 x51 w14)) (
  V_s_elNode_k9 I6 m6 x33 w10 px5 x6 x9 x51 w14))))) (
  LD [.int .i64, .int .i64, .sl, .sl] px1 w10 fun (x81_0 : Int) (x81_1 : Int) (x81_2 : Sl) (x81_3 : Sl) =>
  Calls Tryz.prog F.s_elMade #[.agg #[.int .i64 x81_0, .int .i64 x81_1, x81_2.v, x81_3.v], x6.v, .bool false] w10 (Ret [.agg [.int .i64, .int .i64, .sl, .sl], .at .sl, .at .bool] fun (x83_0_0 : Int) (x83_0_1 : Int) (x83_0_2 : Sl) (x83_0_3 : Sl) (x83_1 : Sl) (x83_2 : Bool) w22 =>
  ST px2 0 [.int .i64 x83_0_0, .int .i64 x83_0_1, x83_0_2.v, x83_0_3.v] w22 fun w23 =>
  LD [.int .i64, .int .i64, .sl, .sl] px2 w23 fun (r0_0_2 : Int) (r0_1_2 : Int) (r0_2_2 : Sl) (r0_3_2 : Sl) =>
  Q r0_0_2 r0_1_2 r0_2_2 r0_3_2 x83_1 x83_2 w23)))))))

def V_s_elNode (Q : Int → Int → Sl → Sl → Sl → Bool → World → Prop) (x0_0 : Int) (x0_1 : Int) (x0_2 : Sl) (x0_3 : Sl) (w : World) : Prop :=
  NEW T.t_i_Problem #[.int .i64 x0_0, .int .i64 x0_1, x0_2.v, x0_3.v] w fun (px1 : Addr) w1 =>
  NEW T.t_i_Problem #[.int .i64 0, .int .i64 0, .slice none 0 0, .slice none 0 0] w1 fun (px2 : Addr) w2 =>
  LD [.int .i64] (px1.add 1) w2 fun (x14 : Int) =>
  cond ((x14 : Int) == 4) (
  LD [.int .i64] (px1.add 0) w2 fun (x18 : Int) =>
  cond (decide ((x18 : Int) > 6)) (
  ST px2 0 [.int .i64 0, .int .i64 0, .slice none 0 0, .slice none 0 0] w2 fun w3 =>
  LD [.int .i64, .int .i64, .sl, .sl] px2 w3 fun (r0_0 : Int) (r0_1 : Int) (r0_2 : Sl) (r0_3 : Sl) =>
  Q r0_0 r0_1 r0_2 r0_3 (⟨none, 0, 0⟩) false w3) (
  V_s_elNode_k1 Q px1 px2 w2)) (
  V_s_elNode_k1 Q px1 px2 w2)

theorem C_s_elNode {Q : Int → Int → Sl → Sl → Sl → Bool → World → Prop} {x0_0 : Int} {x0_1 : Int} {x0_2 : Sl} {x0_3 : Sl} {w : World} (h : V_s_elNode Q x0_0 x0_1 x0_2 x0_3 w) : Calls Tryz.prog F.s_elNode #[.agg #[.int .i64 x0_0, .int .i64 x0_1, x0_2.v, x0_3.v]] w (Ret [.agg [.int .i64, .int .i64, .sl, .sl], .at .sl, .at .bool] Q) :=
  mkC (hint := hint) (ann := annOf [(6, ⟨[(6, .sl), (33, .int .i64)], [8, 9, 11, 12, 34, 35, 36, 37, 38, 39, 40, 41, 42, 43, 44, 45, 46, 47, 48, 49, 50, 51, 52, 53, 54, 55, 56, 57, 58, 59, 60, 61, 62, 63, 64, 65, 66, 67, 68, 69, 70, 71, 72, 73, 74, 75, 76, 77, 78, 79, 80]⟩), (10, ⟨[(9, .sl), (39, .int .i64)], [11, 40, 41, 42, 43, 44, 45, 46, 47, 48]⟩)]) (args := [.agg #[.int .i64 x0_0, .int .i64 x0_1, x0_2.v, x0_3.v]]) (rs := [.agg [.int .i64, .int .i64, .sl, .sl], .at .sl, .at .bool]) Tryz.func132 (by kernel_rfl) (by kernel_rfl) h

def V_s_l1Has (Q : Bool → World → Prop) (l : Sl) (n : Int) (w : World) : Prop :=
  ∃ (I2 : Int → World → Prop) (m2 : Int → World → Nat), I2 0 w ∧ ∀ (x9 : Int) w1, I2 x9 w1 → ∀ _ _ _ _ _ _ _ _ _ : Value,
  cond (decide ((x9 : Int) < l.len)) (
  IX l x9 1 fun (px11 : Addr) =>
  LD [.int .i64] px11 w1 fun (x12 : Int) =>
  cond ((x12 : Int) == n) (
  Q true w1) (
  I2 (IntKind.i64.wrap (x9 + 1)) w1 ∧ m2 (IntKind.i64.wrap (x9 + 1)) w1 < m2 x9 w1)) (
  Q false w1)

theorem C_s_l1Has {Q : Bool → World → Prop} {l : Sl} {n : Int} {w : World} (h : V_s_l1Has Q l n w) : Calls Tryz.prog F.s_l1Has #[l.v, .int .i64 n] w (Ret [.at .bool] Q) :=
  mkC (hint := hint) (ann := annOf [(2, ⟨[(9, .int .i64)], [4, 6, 10, 11, 12, 13, 14, 15, 16]⟩)]) (args := [l.v, .int .i64 n]) (rs := [.at .bool]) Tryz.func133 (by kernel_rfl) (by kernel_rfl) h

def V_s_zeGood (Q : Sl → Bool → World → Prop) (p_0 : Int) (p_1 : Int) (p_2 : Sl) (p_3 : Sl) (w : World) : Prop :=
  NEW T.t_i_Problem #[.int .i64 p_0, .int .i64 p_1, p_2.v, p_3.v] w fun (p_p : Addr) w1 =>
  LD [.sl] (p_p.add 2) w1 fun (x7 : Sl) =>
  ∃ (I2 : Int → World → Prop) (m2 : Int → World → Nat), I2 0 w1 ∧ ∀ (x9 : Int) w2, I2 x9 w2 → ∀ _ _ _ _ _ _ _ _ _ _ _ _ _ : Value,
  cond (decide ((x9 : Int) < x7.len)) (
  IX x7 x9 1 fun (px11 : Addr) =>
  LD [.sl] px11 w2 fun (x12 : Sl) =>
  LD [.int .i64, .int .i64, .sl, .sl] p_p w2 fun (x13_0 : Int) (x13_1 : Int) (x13_2 : Sl) (x13_3 : Sl) =>
  Calls Tryz.prog F.s_zePairs #[.agg #[.int .i64 x13_0, .int .i64 x13_1, x13_2.v, x13_3.v], x12.v, x12.v] w2 (Ret [.at .bool] fun (x16 : Bool) w3 =>
  cond x16 (
  Calls Tryz.prog F.s_l1Own #[x12.v] w3 (Ret [.at .sl] fun (x18 : Sl) w4 =>
  Q x18 true w4)) (
  I2 (IntKind.i64.wrap (x9 + 1)) w3 ∧ m2 (IntKind.i64.wrap (x9 + 1)) w3 < m2 x9 w2))) (
  Q (⟨none, 0, 0⟩) false w2)

theorem C_s_zeGood {Q : Sl → Bool → World → Prop} {p_0 : Int} {p_1 : Int} {p_2 : Sl} {p_3 : Sl} {w : World} (h : V_s_zeGood Q p_0 p_1 p_2 p_3 w) : Calls Tryz.prog F.s_zeGood #[.agg #[.int .i64 p_0, .int .i64 p_1, p_2.v, p_3.v]] w (Ret [.at .sl, .at .bool] Q) :=
  mkC (hint := hint) (ann := annOf [(2, ⟨[(9, .int .i64)], [2, 3, 5, 10, 11, 12, 13, 14, 15, 16, 17, 18, 19]⟩)]) (args := [.agg #[.int .i64 p_0, .int .i64 p_1, p_2.v, p_3.v]]) (rs := [.at .sl, .at .bool]) Tryz.func134 (by kernel_rfl) (by kernel_rfl) h

def V_s_l1Own (Q : Sl → World → Prop) (l : Sl) (w : World) : Prop :=
  RUN Tryz.prog (.at .sl) (Instr.buildSlice T.t_sl_int 0 #[]) w fun (x3 : Sl) w1 =>
  RUN Tryz.prog (.at .sl) (bsem .append #[T.t_sl_int, T.t_sl_int] T.t_sl_int #[x3.v, l.v]) w1 fun (x5 : Sl) w2 =>
  Q x5 w2

theorem C_s_l1Own {Q : Sl → World → Prop} {l : Sl} {w : World} (h : V_s_l1Own Q l w) : Calls Tryz.prog F.s_l1Own #[l.v] w (Ret [.at .sl] Q) :=
  mkC (hint := hint) (ann := annOf []) (args := [l.v]) (rs := [.at .sl]) Tryz.func135 (by kernel_rfl) (by kernel_rfl) h

def V_s_elEdge (Q : Int → Int → Sl → Sl → Sl → Bool → World → Prop) (p_0 : Int) (p_1 : Int) (p_2 : Sl) (p_3 : Sl) (w : World) : Prop :=
  NEW T.t_i_Problem #[.int .i64 p_0, .int .i64 p_1, p_2.v, p_3.v] w fun (p_p : Addr) w1 =>
  NEW T.t_i_Problem #[.int .i64 0, .int .i64 0, .slice none 0 0, .slice none 0 0] w1 fun (px2 : Addr) w2 =>
  ∃ (I3 : Sl → Int → World → Prop) (m3 : Sl → Int → World → Nat), I3 (⟨none, 0, 0⟩) 1 w2 ∧ ∀ (full : Sl) (set1 : Int) w3, I3 full set1 w3 → ∀ _ _ _ _ _ _ _ _ _ _ _ _ _ _ _ _ _ _ _ _ _ _ _ _ _ _ : Value,
  LD [.int .i64] (p_p.add 0) w3 fun (x10 : Int) =>
  (0 : Int) ≤ x10 ∧ (
  cond (decide ((set1 : Int) < (shlI .i64 1 x10))) (
  LD [.int .i64, .int .i64, .sl, .sl] p_p w3 fun (x15_0 : Int) (x15_1 : Int) (x15_2 : Sl) (x15_3 : Sl) =>
  Calls Tryz.prog F.s_elNear #[.agg #[.int .i64 x15_0, .int .i64 x15_1, x15_2.v, x15_3.v], .int .i64 set1] w3 (Ret [.at (.int .i64)] fun (x17 : Int) w4 =>
  cond (decide ((x17 : Int) > 0)) (
  LD [.int .i64, .int .i64, .sl, .sl] p_p w4 fun (x21_0 : Int) (x21_1 : Int) (x21_2 : Sl) (x21_3 : Sl) =>
  Calls Tryz.prog F.s_elNear #[.agg #[.int .i64 x21_0, .int .i64 x21_1, x21_2.v, x21_3.v], .int .i64 x17] w4 (Ret [.at (.int .i64)] fun (x23 : Int) w5 =>
  cond ((x23 : Int) == set1) (
  RUN Tryz.prog (.at .sl) (Instr.buildSlice T.t_sl_int 2 #[(0, .int .i64 set1), (1, .int .i64 x17)]) w5 fun (x30 : Sl) w6 =>
  RUN Tryz.prog (.at .sl) (Instr.buildSlice T.t_sl_sl_int 1 #[(0, x30.v)]) w6 fun (x31 : Sl) w7 =>
  RUN Tryz.prog (.at .sl) (bsem .append #[T.t_sl_sl_int, T.t_sl_sl_int] T.t_sl_sl_int #[full.v, x31.v]) w7 fun (x32 : Sl) w8 =>
  I3 x32 (IntKind.i64.wrap (set1 + 1)) w8 ∧ m3 x32 (IntKind.i64.wrap (set1 + 1)) w8 < m3 full set1 w3) (
  I3 full (IntKind.i64.wrap (set1 + 1)) w5 ∧ m3 full (IntKind.i64.wrap (set1 + 1)) w5 < m3 full set1 w3))) (
  I3 full (IntKind.i64.wrap (set1 + 1)) w4 ∧ m3 full (IntKind.i64.wrap (set1 + 1)) w4 < m3 full set1 w3))) (
  LD [.int .i64, .int .i64, .sl, .sl] p_p w3 fun (x33_0 : Int) (x33_1 : Int) (x33_2 : Sl) (x33_3 : Sl) =>
  Calls Tryz.prog F.s_elMade #[.agg #[.int .i64 x33_0, .int .i64 x33_1, x33_2.v, x33_3.v], full.v, .bool true] w3 (Ret [.agg [.int .i64, .int .i64, .sl, .sl], .at .sl, .at .bool] fun (x35_0_0 : Int) (x35_0_1 : Int) (x35_0_2 : Sl) (x35_0_3 : Sl) (x35_1 : Sl) (x35_2 : Bool) w9 =>
  ST px2 0 [.int .i64 x35_0_0, .int .i64 x35_0_1, x35_0_2.v, x35_0_3.v] w9 fun w10 =>
  LD [.int .i64, .int .i64, .sl, .sl] px2 w10 fun (r0_0 : Int) (r0_1 : Int) (r0_2 : Sl) (r0_3 : Sl) =>
  Q r0_0 r0_1 r0_2 r0_3 x35_1 x35_2 w10)))

theorem C_s_elEdge {Q : Int → Int → Sl → Sl → Sl → Bool → World → Prop} {p_0 : Int} {p_1 : Int} {p_2 : Sl} {p_3 : Sl} {w : World} (h : V_s_elEdge Q p_0 p_1 p_2 p_3 w) : Calls Tryz.prog F.s_elEdge #[.agg #[.int .i64 p_0, .int .i64 p_1, p_2.v, p_3.v]] w (Ret [.agg [.int .i64, .int .i64, .sl, .sl], .at .sl, .at .bool] Q) :=
  mkC (hint := hint) (ann := annOf [(3, ⟨[(5, .sl), (6, .int .i64)], [7, 8, 9, 10, 11, 12, 13, 14, 15, 16, 17, 18, 19, 20, 21, 22, 23, 24, 25, 26, 27, 28, 29, 30, 31, 32]⟩)]) (args := [.agg #[.int .i64 p_0, .int .i64 p_1, p_2.v, p_3.v]]) (rs := [.agg [.int .i64, .int .i64, .sl, .sl], .at .sl, .at .bool]) Tryz.func136 (by kernel_rfl) (by kernel_rfl) h

def V_s_NodeStep (Q : Int → Int → Sl → Sl → Sl → Bool → World → Prop) (p_0 : Int) (p_1 : Int) (p_2 : Sl) (p_3 : Sl) (w : World) : Prop :=
  NEW T.t_i_Problem #[.int .i64 p_0, .int .i64 p_1, p_2.v, p_3.v] w fun (p_p : Addr) w1 =>
  NEW T.t_i_Problem #[.int .i64 0, .int .i64 0, .slice none 0 0, .slice none 0 0] w1 fun (px2 : Addr) w2 =>
  LD [.int .i64, .int .i64, .sl, .sl] p_p w2 fun (x5_0 : Int) (x5_1 : Int) (x5_2 : Sl) (x5_3 : Sl) =>
  Calls Tryz.prog F.s_prGood #[.agg #[.int .i64 x5_0, .int .i64 x5_1, x5_2.v, x5_3.v]] w2 (Ret [.at .bool] fun (x6 : Bool) w3 =>
  cond (!x6) (
  ST px2 0 [.int .i64 0, .int .i64 0, .slice none 0 0, .slice none 0 0] w3 fun w4 =>
  LD [.int .i64, .int .i64, .sl, .sl] px2 w4 fun (r0_0 : Int) (r0_1 : Int) (r0_2 : Sl) (r0_3 : Sl) =>
  Q r0_0 r0_1 r0_2 r0_3 (⟨none, 0, 0⟩) false w4) (
  LD [.int .i64, .int .i64, .sl, .sl] p_p w3 fun (x9_0 : Int) (x9_1 : Int) (x9_2 : Sl) (x9_3 : Sl) =>
  Calls Tryz.prog F.s_elNode #[.agg #[.int .i64 x9_0, .int .i64 x9_1, x9_2.v, x9_3.v]] w3 (Ret [.agg [.int .i64, .int .i64, .sl, .sl], .at .sl, .at .bool] fun (x10_0_0 : Int) (x10_0_1 : Int) (x10_0_2 : Sl) (x10_0_3 : Sl) (x10_1 : Sl) (x10_2 : Bool) w5 =>
  ST px2 0 [.int .i64 x10_0_0, .int .i64 x10_0_1, x10_0_2.v, x10_0_3.v] w5 fun w6 =>
  LD [.int .i64, .int .i64, .sl, .sl] px2 w6 fun (r0_0_2 : Int) (r0_1_2 : Int) (r0_2_2 : Sl) (r0_3_2 : Sl) =>
  Q r0_0_2 r0_1_2 r0_2_2 r0_3_2 x10_1 x10_2 w6)))

theorem C_s_NodeStep {Q : Int → Int → Sl → Sl → Sl → Bool → World → Prop} {p_0 : Int} {p_1 : Int} {p_2 : Sl} {p_3 : Sl} {w : World} (h : V_s_NodeStep Q p_0 p_1 p_2 p_3 w) : Calls Tryz.prog F.s_NodeStep #[.agg #[.int .i64 p_0, .int .i64 p_1, p_2.v, p_3.v]] w (Ret [.agg [.int .i64, .int .i64, .sl, .sl], .at .sl, .at .bool] Q) :=
  mkC (hint := hint) (ann := annOf []) (args := [.agg #[.int .i64 p_0, .int .i64 p_1, p_2.v, p_3.v]]) (rs := [.agg [.int .i64, .int .i64, .sl, .sl], .at .sl, .at .bool]) Tryz.func137 (by kernel_rfl) (by kernel_rfl) h

def V_s_prAsked (Q : Bool → World → Prop) (p_0 : Int) (p_1 : Int) (p_2 : Sl) (p_3 : Sl) (n_0 : Sl) (n_1 : Sl) (n_2 : Sl) (l : Sl) (w : World) : Prop :=
  NEW T.t_i_Problem #[.int .i64 p_0, .int .i64 p_1, p_2.v, p_3.v] w fun (p_p : Addr) w1 =>
  NEW T.t_i_Network #[n_0.v, n_1.v, n_2.v] w1 fun (p_n : Addr) w2 =>
  LD [.int .i64, .int .i64, .sl, .sl] p_p w2 fun (x7_0 : Int) (x7_1 : Int) (x7_2 : Sl) (x7_3 : Sl) =>
  Calls Tryz.prog F.s_prGood #[.agg #[.int .i64 x7_0, .int .i64 x7_1, x7_2.v, x7_3.v]] w2 (Ret [.at .bool] fun (x8 : Bool) w3 =>
  cond x8 (
  LD [.sl, .sl, .sl] p_n w3 fun (x10_0 : Sl) (x10_1 : Sl) (x10_2 : Sl) =>
  Calls Tryz.prog F.s_neGood #[.agg #[x10_0.v, x10_1.v, x10_2.v]] w3 (Ret [.at .bool] fun (x11 : Bool) w4 =>
  cond x11 (
  LD [.int .i64, .int .i64, .sl, .sl] p_p w4 fun (x14_0 : Int) (x14_1 : Int) (x14_2 : Sl) (x14_3 : Sl) =>
  LD [.sl, .sl, .sl] p_n w4 fun (x15_0 : Sl) (x15_1 : Sl) (x15_2 : Sl) =>
  Calls Tryz.prog F.s_prShape #[.agg #[.int .i64 x14_0, .int .i64 x14_1, x14_2.v, x14_3.v], .agg #[x15_0.v, x15_1.v, x15_2.v], l.v] w4 (Ret [.at .bool] fun (x17 : Bool) w5 =>
  Q x17 w5)) (
  Q false w4))) (
  Q false w3))

theorem C_s_prAsked {Q : Bool → World → Prop} {p_0 : Int} {p_1 : Int} {p_2 : Sl} {p_3 : Sl} {n_0 : Sl} {n_1 : Sl} {n_2 : Sl} {l : Sl} {w : World} (h : V_s_prAsked Q p_0 p_1 p_2 p_3 n_0 n_1 n_2 l w) : Calls Tryz.prog F.s_prAsked #[.agg #[.int .i64 p_0, .int .i64 p_1, p_2.v, p_3.v], .agg #[n_0.v, n_1.v, n_2.v], l.v] w (Ret [.at .bool] Q) :=
  mkC (hint := hint) (ann := annOf []) (args := [.agg #[.int .i64 p_0, .int .i64 p_1, p_2.v, p_3.v], .agg #[n_0.v, n_1.v, n_2.v], l.v]) (rs := [.at .bool]) Tryz.func138 (by kernel_rfl) (by kernel_rfl) h

def V_s_prIs (Q : Bool → World → Prop) (p_0 : Int) (p_1 : Int) (p_2 : Sl) (p_3 : Sl) (n_0 : Sl) (n_1 : Sl) (n_2 : Sl) (l : Sl) (w : World) : Prop :=
  NEW T.t_i_Problem #[.int .i64 p_0, .int .i64 p_1, p_2.v, p_3.v] w fun (p_p : Addr) w1 =>
  NEW T.t_i_Network #[n_0.v, n_1.v, n_2.v] w1 fun (p_n : Addr) w2 =>
  LD [.int .i64, .int .i64, .sl, .sl] p_p w2 fun (x10_0 : Int) (x10_1 : Int) (x10_2 : Sl) (x10_3 : Sl) =>
  LD [.sl, .sl, .sl] p_n w2 fun (x11_0 : Sl) (x11_1 : Sl) (x11_2 : Sl) =>
  Calls Tryz.prog F.s_prFault #[.agg #[.int .i64 x10_0, .int .i64 x10_1, x10_2.v, x10_3.v], .agg #[x11_0.v, x11_1.v, x11_2.v], l.v] w2 (Ret [.at (.int .i64), .at (.int .i64)] fun (x13_0 : Int) (x13_1 : Int) w3 =>
  Q (decide ((x13_0 : Int) < 0)) w3)

theorem C_s_prIs {Q : Bool → World → Prop} {p_0 : Int} {p_1 : Int} {p_2 : Sl} {p_3 : Sl} {n_0 : Sl} {n_1 : Sl} {n_2 : Sl} {l : Sl} {w : World} (h : V_s_prIs Q p_0 p_1 p_2 p_3 n_0 n_1 n_2 l w) : Calls Tryz.prog F.s_prIs #[.agg #[.int .i64 p_0, .int .i64 p_1, p_2.v, p_3.v], .agg #[n_0.v, n_1.v, n_2.v], l.v] w (Ret [.at .bool] Q) :=
  mkC (hint := hint) (ann := annOf []) (args := [.agg #[.int .i64 p_0, .int .i64 p_1, p_2.v, p_3.v], .agg #[n_0.v, n_1.v, n_2.v], l.v]) (rs := [.at .bool]) Tryz.func139 (by kernel_rfl) (by kernel_rfl) h

def V_s_elStubless (Q : Bool → World → Prop) (n_0 : Sl) (n_1 : Sl) (n_2 : Sl) (w : World) : Prop :=
  NEW T.t_i_Network #[n_0.v, n_1.v, n_2.v] w fun (p_n : Addr) w1 =>
  LD [.sl] (p_n.add 0) w1 fun (x8 : Sl) =>
  ∃ (I2 : Int → World → Prop) (m2 : Int → World → Nat), I2 0 w1 ∧ ∀ (x10 : Int) w2, I2 x10 w2 → ∀ _ _ _ _ _ _ _ _ _ _ _ _ _ _ _ _ _ _ _ _ _ _ _ : Value,
  cond (decide ((x10 : Int) < x8.len)) (
  IX x8 x10 1 fun (px13 : Addr) =>
  LD [.sl] px13 w2 fun (x14 : Sl) =>
  ∃ (I5 : Int → World → Prop) (m5 : Int → World → Nat), I5 0 w2 ∧ ∀ (x17 : Int) w3, I5 x17 w3 → ∀ _ _ _ _ _ _ _ _ _ _ _ _ _ : Value,
  cond (decide ((x17 : Int) < x14.len)) (
  IX x14 x17 2 fun (px20 : Addr) =>
  LD [.int .i64, .int .i64] px20 w3 fun (x21_0 : Int) (x21_1 : Int) =>
  NEW T.t_i_End #[.int .i64 0, .int .i64 0] w3 fun (p_e : Addr) w4 =>
  ST p_e 0 [.int .i64 x21_0, .int .i64 x21_1] w4 fun w5 =>
  LD [.int .i64, .int .i64] p_e w5 fun (x22_0 : Int) (x22_1 : Int) =>
  AEQ Tryz.prog (do eqGuard .eql T.t_i_End (.tmp 22) (.tmp 25) (.agg #[.int .i64 x22_0, .int .i64 x22_1]) (.agg #[.int .i64 x10, .int .i64 x17]); binOp .eql T.t_i_End (.agg #[.int .i64 x22_0, .int .i64 x22_1]) (.agg #[.int .i64 x10, .int .i64 x17])) fun (x26 : Bool) =>
  cond x26 (
  Q false w5) (
  I5 (IntKind.i64.wrap (x17 + 1)) w5 ∧ m5 (IntKind.i64.wrap (x17 + 1)) w5 < m5 x17 w3)) (
  I2 (IntKind.i64.wrap (x10 + 1)) w3 ∧ m2 (IntKind.i64.wrap (x10 + 1)) w3 < m2 x10 w2)) (
  Q true w2)

theorem C_s_elStubless {Q : Bool → World → Prop} {n_0 : Sl} {n_1 : Sl} {n_2 : Sl} {w : World} (h : V_s_elStubless Q n_0 n_1 n_2 w) : Calls Tryz.prog F.s_elStubless #[.agg #[n_0.v, n_1.v, n_2.v]] w (Ret [.at .bool] Q) :=
  mkC (hint := hint) (ann := annOf [(2, ⟨[(10, .int .i64)], [2, 3, 4, 5, 6, 11, 12, 13, 14, 15, 16, 17, 18, 19, 20, 21, 22, 23, 24, 25, 26, 27, 28]⟩), (5, ⟨[(17, .int .i64)], [2, 5, 6, 18, 19, 20, 21, 22, 23, 24, 25, 26, 27]⟩)]) (args := [.agg #[n_0.v, n_1.v, n_2.v]]) (rs := [.at .bool]) Tryz.func140 (by kernel_rfl) (by kernel_rfl) h

end Go.Proofs.YtndebacmnpghkaaGreat
end
