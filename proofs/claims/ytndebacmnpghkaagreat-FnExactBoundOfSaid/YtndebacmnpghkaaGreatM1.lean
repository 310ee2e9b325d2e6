/- Own texts, merged: Values, V0, V1, V2. -/
import Derived.Test.YtndebacmnpghkaaGreatM0
import Derived.RangeFuncBox
import Derived.RangeFuncLeaves
import Derived.Shelf.Abstract
import Derived.WalkKit
import Derived.OwnWalkIn
import Derived.TacticsInMore
import Derived.LoopNIn
import Derived.LoopIn
import Derived.Test.YtndebacmnpghkaaGreatProg
set_option linter.unusedVariables false
section
/- slices.Values at []int: its closure calls yield for each element; turned from the kit's worked text on the library's two iterators over a slice. -/
namespace Go.Proofs.YtndebacmnpghkaaGreat
open Go Go.RowKit Go.Shelf Go.Proofs

attribute [local go_sem] Oper.semAt_some

/-- What has come when k rounds are over. -/
def upto {α : Type} (f : Nat → α) (k : Nat) : List α := (List.range k).map f
theorem upto_succ {α : Type} (f : Nat → α) (k : Nat) : upto f (k + 1) = upto f k ++ [f k] := by simp [upto, List.range_succ]
theorem upto_length {α : Type} (f : Nat → α) (k : Nat) : (upto f k).length = k := by simp [upto]
theorem upto_all (zs : List Int) : upto (fun j => zs[j]?.getD 0) zs.length = zs := by
  apply List.ext_getElem
  · simp [upto]
  · intro i h1 h2
    simp [upto, h2]
theorem upto_take (zs : List Int) {k : Nat} (hk : k ≤ zs.length) : upto (fun j => zs[j]?.getD 0) k = zs.take k := by
  apply List.ext_getElem
  · simp [upto, hk]
  · intro i h1 h2
    have : i < zs.length := by simp [upto] at h1; omega
    simp [upto, this]

theorem add_block (ad : Addr) (k : Nat) : (ad.add k).block = ad.block := by unfold Addr.add; split <;> rfl

set_option maxRecDepth 100000 in
set_option maxHeartbeats 2000000 in
theorem values1_in (Fe : Fence) (n : Nat) (h7 : Fe.fn 261) (hro : Fe.round = none) (hn : 1 ≤ n) (l Bs n₀ len cap : Nat) (ad : Addr) (zs : List Int) (hreach : len * 8 ≤ 140737488351232) (hb : 0 < len → ad.block < n₀) (J Jx : List Int → World → Prop)
    (hY : ∀ pre x W, J pre W → pre.length < len → YieldAt Fe (n - 1) Tryz.prog l #[.int .i64 x] W fun e W' =>
      (e = .returned (.bool true) ∧ J (pre ++ [x]) W' ∧ Below n₀ W W') ∨ (e = .returned (.bool false) ∧ Jx (pre ++ [x]) W'))
    (W : World) (hBs : W.cell? ⟨Bs, 0, none⟩ = some (.slice (some ad) len cap)) (hc : ∀ j, j < len → W.cell? (ad.add j) = some (.int .i64 (zs[j]?.getD 0))) (h0 : J [] W) :
    CallsIn Fe n Tryz.prog 261 #[.func (.yield l) #[] #[], .pointer (some ⟨Bs, 0, none⟩)] W fun e W' => (∃ v, e = .returned v) ∧
      ((∃ ys, ys = upto (fun j => zs[j]?.getD 0) len ∧ J ys W') ∨ (∃ pre, (∃ k, k ≤ len ∧ pre = upto (fun j => zs[j]?.getD 0) k) ∧ Jx pre W')) := by
  refine callsIn_of_wp Tryz.func261 rfl h7 ?_ hro
  simp only [Tryz.ntmps261, List.size_toArray, List.length_cons, List.length_nil, Nat.reduceAdd, Nat.reduceSub, Array.replicate_succ, Array.replicate_zero, List.push_toArray, List.append_toArray, List.nil_append, List.cons_append]
  gi_wp2
  gi_loopw [7] (fun i wr => ∃ k : Nat, k ≤ len ∧ i = .int .i64 k ∧ J (upto (fun j => zs[j]?.getD 0) k) wr ∧ Below n₀ W wr)
    (fun i _ => len - (intOf i).toNat)
  case atStart => exact ⟨0, Nat.zero_le _, rfl, h0, Below.refl _ _⟩
  case round =>
    obtain ⟨k, hk, rfl, hJs, hnx⟩ := hrel
    have hcx : k < len → wr.cell? (ad.add k) = some (.int .i64 (zs[k]?.getD 0)) := fun h => (hnx.cell (p := ad.add k) (by rw [add_block]; exact hb (by omega))).trans (hc k h)
    by_cases hlt : k < len
    · obtain ⟨fn, tmps, assign, body, hy, hR⟩ := hY _ (zs[k]?.getD 0) wr hJs (by rw [upto_length]; exact hlt)
      have hcx' := hcx hlt
      gi_wp2
      refine hR.mono ?_
      rintro e W3 (⟨rfl, hJ3, hk3⟩ | ⟨rfl, hJx3⟩)
      · gi_wp2
        go_roundw
        case rel => exact ⟨k + 1, by omega, by simp, by rw [upto_succ]; exact hJ3, hnx.trans hk3⟩
        case measure => simp [intOf]; omega
      · gi_wp2
        refine bodyPost_ret (results_none rfl _ _ _) rfl ?_
        exact ⟨⟨_, rfl⟩, .inr ⟨_, ⟨k + 1, by omega, (upto_succ _ _).symm⟩, hJx3⟩⟩
    · obtain rfl : k = len := by omega
      gi_wp2
      go_end0
      exact ⟨⟨_, rfl⟩, .inl ⟨_, rfl, hJs⟩⟩

/-- The slice value sv holds the ints zs, in a block below n₀; or it is nil and there are none. -/
def IntsIn (n₀ : Nat) (W : World) (sv : Value) (zs : List Int) : Prop :=
  (∃ cap, sv = .slice none 0 cap ∧ zs = []) ∨ ∃ ad cap, sv = .slice (some ad) zs.length cap ∧ (0 < zs.length → ad.block < n₀) ∧ ∀ j, j < zs.length → W.cell? (ad.add j) = some (.int .i64 (zs[j]?.getD 0))
theorem IntsIn.below {n₀ : Nat} {A B : World} (h : Below n₀ A B) {sv : Value} {zs : List Int} : IntsIn n₀ A sv zs → IntsIn n₀ B sv zs
  | .inl e => .inl e
  | .inr ⟨ad, cap, e, hb, hc⟩ => .inr ⟨ad, cap, e, hb, fun j hj => (h.cell (p := ad.add j) (by rw [add_block]; exact hb (by omega))).trans (hc j hj)⟩

set_option maxRecDepth 100000 in
set_option maxHeartbeats 1000000 in
theorem values1_nil_in (Fe : Fence) (n : Nat) (h7 : Fe.fn 261) (hro : Fe.round = none) (l Bs cap : Nat) (J : List Int → World → Prop) (W : World) (hBs : W.cell? ⟨Bs, 0, none⟩ = some (.slice none 0 cap)) (h0 : J [] W) :
    CallsIn Fe n Tryz.prog 261 #[.func (.yield l) #[] #[], .pointer (some ⟨Bs, 0, none⟩)] W fun e W' => (∃ v, e = .returned v) ∧ J [] W' := by
  refine callsIn_of_wp Tryz.func261 rfl h7 ?_ hro
  simp only [Tryz.ntmps261, List.size_toArray, List.length_cons, List.length_nil, Nat.reduceAdd, Nat.reduceSub, Array.replicate_succ, Array.replicate_zero, List.push_toArray, List.append_toArray, List.nil_append, List.cons_append]
  gi_wp2
  gi_loopw [7] (fun i wr => i = .int .i64 0 ∧ J [] wr) (fun _ _ => 0)
  case atStart => exact ⟨rfl, h0⟩
  case round =>
    obtain ⟨rfl, hJs⟩ := hrel
    gi_wp2
    go_end0
    exact ⟨⟨_, rfl⟩, hJs⟩

theorem values_stops (Fe : Fence) (n : Nat) (h7 : Fe.fn 261) (hro : Fe.round = none) (hn : 1 ≤ n) (Bs n₀ : Nat) (sv : Value) (zs : List Int) (hreach : zs.length * 8 ≤ 140737488351232) (w : World) (hBs : Bs < w.heap.size) (hn₀ : n₀ ≤ w.heap.size)
    (hc : w.cell? ⟨Bs, 0, none⟩ = some sv) (hI : IntsIn n₀ w sv zs) :
    SeqStopsK Fe n Tryz.prog 261 #[.pointer (some ⟨Bs, 0, none⟩)] (fun x : Int => #[Value.int .i64 x]) (Below n₀) (fun ys => ys = zs) (fun pre => pre <+: zs) zs.length w := fun l J Jx W hW _ _ hY h0 => by
  have hc' := (hW.cell (p := ⟨Bs, 0, none⟩) hBs).trans hc
  rcases hI.below (hW.mono hn₀) with ⟨cap, rfl, rfl⟩ | ⟨ad, cap, rfl, hb, hcs⟩
  · exact (values1_nil_in Fe n h7 hro l Bs cap J W hc' h0).mono fun e W' ⟨he, hj⟩ => ⟨he, .inl ⟨_, rfl, hj⟩⟩
  · refine (values1_in Fe n h7 hro hn l Bs n₀ zs.length cap ad zs hreach hb J Jx hY W hc' hcs h0).mono ?_
    rintro e W' ⟨he, ⟨ys, rfl, hj⟩ | ⟨pre, ⟨k, hk, rfl⟩, hj⟩⟩
    · exact ⟨he, .inl ⟨_, upto_all zs, hj⟩⟩
    · exact ⟨he, .inr ⟨_, by rw [upto_take zs hk]; exact List.take_prefix _ _, hj⟩⟩

end Go.Proofs.YtndebacmnpghkaaGreat
end

section
/- What each function's code computes to. Printed by a program. -/
namespace Go.Proofs.YtndebacmnpghkaaGreat
open Go.GX Go.RowKit
set_option linter.unusedVariables false
set_option maxRecDepth 100000

def V_l_FnExactCheckBound (Q : Bool → World → Prop) (aB_0 : Sl) (aB_1 : Sl) (aB_2 : Sl) (w : World) : Prop :=
  NEW T.t_l_Bound #[aB_0.v, aB_1.v, aB_2.v] w fun (p_aB : Addr) w1 =>
  LD [.sl, .sl, .sl] p_aB w1 fun (x9_0 : Sl) (x9_1 : Sl) (x9_2 : Sl) =>
  Calls Tryz.prog F.l_szBound #[.agg #[x9_0.v, x9_1.v, x9_2.v], .int .i64 1048576] w1 (Ret [.at (.int .i64)] fun (x11 : Int) w2 =>
  cond (decide ((x11 : Int) < 0)) (
  Q true w2) (
  LD [.sl, .sl, .sl] p_aB w2 fun (x15_0 : Sl) (x15_1 : Sl) (x15_2 : Sl) =>
  Calls Tryz.prog F.l_toBound #[.agg #[x15_0.v, x15_1.v, x15_2.v]] w2 (Ret [.agg [.sl, .sl, .sl]] fun (x16_0 : Sl) (x16_1 : Sl) (x16_2 : Sl) w3 =>
  Calls Tryz.prog F.s_CheckBound #[.agg #[x16_0.v, x16_1.v, x16_2.v]] w3 (Ret [.at .bool, .at .bool] fun (x17_0 : Bool) (x17_1 : Bool) w4 =>
  LD [.sl, .sl, .sl] p_aB w4 fun (x20_0 : Sl) (x20_1 : Sl) (x20_2 : Sl) =>
  Calls Tryz.prog F.l_toBound #[.agg #[x20_0.v, x20_1.v, x20_2.v]] w4 (Ret [.agg [.sl, .sl, .sl]] fun (x21_0 : Sl) (x21_1 : Sl) (x21_2 : Sl) w5 =>
  NEW T.t_i_Bound #[.slice none 0 0, .slice none 0 0, .slice none 0 0] w5 fun (px0 : Addr) w6 =>
  ST px0 0 [x21_0.v, x21_1.v, x21_2.v] w6 fun w7 =>
  LD [.sl, .sl, .sl] px0 w7 fun (x23_0 : Sl) (x23_1 : Sl) (x23_2 : Sl) =>
  Calls Tryz.prog F.i_CheckBound #[.agg #[x23_0.v, x23_1.v, x23_2.v]] w7 (Ret [.at .bool, .at .bool] fun (x24_0 : Bool) (x24_1 : Bool) w8 =>
  cond (!(x24_0 == x17_0)) (
  Q false w8) (
  cond (!(x24_1 == x17_1)) (
  Q false w8) (
  ∀ w12, Ext w8 w12 → w12.heap = w8.heap →
  LD [.sl, .sl, .sl] px0 w12 fun (x35_0_2 : Sl) (x35_1_2 : Sl) (x35_2_2 : Sl) =>
  LD [.sl, .sl, .sl] p_aB w12 fun (x36_0_2 : Sl) (x36_1_2 : Sl) (x36_2_2 : Sl) =>
  Ext w12 w12 ∧ (
  Calls Tryz.prog F.l_toBound #[.agg #[x36_0_2.v, x36_1_2.v, x36_2_2.v]] w12 (Ret [.agg [.sl, .sl, .sl]] fun (x37_0_2 : Sl) (x37_1_2 : Sl) (x37_2_2 : Sl) w13 =>
  Ext w12 w13 ∧ (
  Calls Tryz.prog F.l_eqBound #[.agg #[x35_0_2.v, x35_1_2.v, x35_2_2.v], .agg #[x37_0_2.v, x37_1_2.v, x37_2_2.v]] w13 (Ret [.at .bool] fun (x38_2 : Bool) w14 =>
  Ext w12 w14 ∧ (
  cond (!x38_2) (
  Q false w14) (
  Q true w14))))))))))))))

theorem C_l_FnExactCheckBound {Q : Bool → World → Prop} {aB_0 : Sl} {aB_1 : Sl} {aB_2 : Sl} {w : World} (h : V_l_FnExactCheckBound Q aB_0 aB_1 aB_2 w) : Calls Tryz.prog F.l_FnExactCheckBound #[.agg #[aB_0.v, aB_1.v, aB_2.v]] w (Ret [.at .bool] Q) :=
  mkC (hint := hint) (ann := annOf []) (args := [.agg #[aB_0.v, aB_1.v, aB_2.v]]) (rs := [.at .bool]) Tryz.func3 (by kernel_rfl) (by kernel_rfl) h

def V_l_FnExactBoundOf (Q : Bool → World → Prop) (aB_0 : Sl) (aB_1 : Sl) (aB_2 : Sl) (w : World) : Prop :=
  NEW T.t_l_Bound #[aB_0.v, aB_1.v, aB_2.v] w fun (p_aB : Addr) w1 =>
  LD [.sl, .sl, .sl] p_aB w1 fun (x9_0 : Sl) (x9_1 : Sl) (x9_2 : Sl) =>
  Calls Tryz.prog F.l_szBound #[.agg #[x9_0.v, x9_1.v, x9_2.v], .int .i64 1048576] w1 (Ret [.at (.int .i64)] fun (x11 : Int) w2 =>
  cond (decide ((x11 : Int) < 0)) (
  Q true w2) (
  LD [.sl, .sl, .sl] p_aB w2 fun (x15_0 : Sl) (x15_1 : Sl) (x15_2 : Sl) =>
  Calls Tryz.prog F.l_toBound #[.agg #[x15_0.v, x15_1.v, x15_2.v]] w2 (Ret [.agg [.sl, .sl, .sl]] fun (x16_0 : Sl) (x16_1 : Sl) (x16_2 : Sl) w3 =>
  Calls Tryz.prog F.s_BoundOf #[.agg #[x16_0.v, x16_1.v, x16_2.v]] w3 (Ret [.at (.int .i64), .at .bool] fun (x17_0 : Int) (x17_1 : Bool) w4 =>
  LD [.sl, .sl, .sl] p_aB w4 fun (x20_0 : Sl) (x20_1 : Sl) (x20_2 : Sl) =>
  Calls Tryz.prog F.l_toBound #[.agg #[x20_0.v, x20_1.v, x20_2.v]] w4 (Ret [.agg [.sl, .sl, .sl]] fun (x21_0 : Sl) (x21_1 : Sl) (x21_2 : Sl) w5 =>
  NEW T.t_i_Bound #[.slice none 0 0, .slice none 0 0, .slice none 0 0] w5 fun (px0 : Addr) w6 =>
  ST px0 0 [x21_0.v, x21_1.v, x21_2.v] w6 fun w7 =>
  LD [.sl, .sl, .sl] px0 w7 fun (x23_0 : Sl) (x23_1 : Sl) (x23_2 : Sl) =>
  Calls Tryz.prog F.i_BoundOf #[.agg #[x23_0.v, x23_1.v, x23_2.v]] w7 (Ret [.at (.int .i64), .at .bool] fun (x24_0 : Int) (x24_1 : Bool) w8 =>
  cond ((x24_0 : Int) != x17_0) (
  Q false w8) (
  cond (!(x24_1 == x17_1)) (
  Q false w8) (
  ∀ w12, Ext w8 w12 → w12.heap = w8.heap →
  LD [.sl, .sl, .sl] px0 w12 fun (x35_0_2 : Sl) (x35_1_2 : Sl) (x35_2_2 : Sl) =>
  LD [.sl, .sl, .sl] p_aB w12 fun (x36_0_2 : Sl) (x36_1_2 : Sl) (x36_2_2 : Sl) =>
  Ext w12 w12 ∧ (
  Calls Tryz.prog F.l_toBound #[.agg #[x36_0_2.v, x36_1_2.v, x36_2_2.v]] w12 (Ret [.agg [.sl, .sl, .sl]] fun (x37_0_2 : Sl) (x37_1_2 : Sl) (x37_2_2 : Sl) w13 =>
  Ext w12 w13 ∧ (
  Calls Tryz.prog F.l_eqBound #[.agg #[x35_0_2.v, x35_1_2.v, x35_2_2.v], .agg #[x37_0_2.v, x37_1_2.v, x37_2_2.v]] w13 (Ret [.at .bool] fun (x38_2 : Bool) w14 =>
  Ext w12 w14 ∧ (
  cond (!x38_2) (
  Q false w14) (
  Q true w14))))))))))))))

theorem C_l_FnExactBoundOf {Q : Bool → World → Prop} {aB_0 : Sl} {aB_1 : Sl} {aB_2 : Sl} {w : World} (h : V_l_FnExactBoundOf Q aB_0 aB_1 aB_2 w) : Calls Tryz.prog F.l_FnExactBoundOf #[.agg #[aB_0.v, aB_1.v, aB_2.v]] w (Ret [.at .bool] Q) :=
  mkC (hint := hint) (ann := annOf []) (args := [.agg #[aB_0.v, aB_1.v, aB_2.v]]) (rs := [.at .bool]) Tryz.func4 (by kernel_rfl) (by kernel_rfl) h

def V_l_szBound (Q : Int → World → Prop) (a_0 : Sl) (a_1 : Sl) (a_2 : Sl) (left : Int) (w : World) : Prop :=
  NEW T.t_l_Bound #[a_0.v, a_1.v, a_2.v] w fun (p_a : Addr) w1 =>
  LD [.sl] (p_a.add 0) w1 fun (x6 : Sl) =>
  Calls Tryz.prog F.l_szProblemS #[x6.v, .int .i64 left] w1 (Ret [.at (.int .i64)] fun (x8 : Int) w2 =>
  cond (decide ((x8 : Int) < 0)) (
  Q (-1) w2) (
  LD [.sl] (p_a.add 1) w2 fun (x12 : Sl) =>
  Calls Tryz.prog F.l_szIntSS #[x12.v, .int .i64 x8] w2 (Ret [.at (.int .i64)] fun (x14 : Int) w3 =>
  cond (decide ((x14 : Int) < 0)) (
  Q (-1) w3) (
  LD [.sl] (p_a.add 2) w3 fun (x18 : Sl) =>
  Calls Tryz.prog F.l_szIntSS #[x18.v, .int .i64 x14] w3 (Ret [.at (.int .i64)] fun (x20 : Int) w4 =>
  cond (decide ((x20 : Int) < 0)) (
  Q (-1) w4) (
  Q x20 w4))))))

theorem C_l_szBound {Q : Int → World → Prop} {a_0 : Sl} {a_1 : Sl} {a_2 : Sl} {left : Int} {w : World} (h : V_l_szBound Q a_0 a_1 a_2 left w) : Calls Tryz.prog F.l_szBound #[.agg #[a_0.v, a_1.v, a_2.v], .int .i64 left] w (Ret [.at (.int .i64)] Q) :=
  mkC (hint := hint) (ann := annOf []) (args := [.agg #[a_0.v, a_1.v, a_2.v], .int .i64 left]) (rs := [.at (.int .i64)]) Tryz.func8 (by kernel_rfl) (by kernel_rfl) h

def V_s_CheckBound (Q : Bool → Bool → World → Prop) (b_0 : Sl) (b_1 : Sl) (b_2 : Sl) (w : World) : Prop :=
  NEW T.t_i_Bound #[b_0.v, b_1.v, b_2.v] w fun (p_b : Addr) w1 =>
  LD [.sl] (p_b.add 0) w1 fun (x5 : Sl) =>
  Calls Tryz.prog F.s_boTwo #[x5.v] w1 (Ret [.at .bool] fun (x6 : Bool) w2 =>
  cond (!x6) (
  Q false false w2) (
  LD [.sl, .sl, .sl] p_b w2 fun (x8_0 : Sl) (x8_1 : Sl) (x8_2 : Sl) =>
  Calls Tryz.prog F.s_boRight #[.agg #[x8_0.v, x8_1.v, x8_2.v]] w2 (Ret [.at .bool] fun (x9 : Bool) w3 =>
  Q x9 true w3)))

theorem C_s_CheckBound {Q : Bool → Bool → World → Prop} {b_0 : Sl} {b_1 : Sl} {b_2 : Sl} {w : World} (h : V_s_CheckBound Q b_0 b_1 b_2 w) : Calls Tryz.prog F.s_CheckBound #[.agg #[b_0.v, b_1.v, b_2.v]] w (Ret [.at .bool, .at .bool] Q) :=
  mkC (hint := hint) (ann := annOf []) (args := [.agg #[b_0.v, b_1.v, b_2.v]]) (rs := [.at .bool, .at .bool]) Tryz.func9 (by kernel_rfl) (by kernel_rfl) h

def V_l_toBound (Q : Sl → Sl → Sl → World → Prop) (a_0 : Sl) (a_1 : Sl) (a_2 : Sl) (w : World) : Prop :=
  NEW T.t_l_Bound #[a_0.v, a_1.v, a_2.v] w fun (p_a : Addr) w1 =>
  NEW T.t_i_Bound #[.slice none 0 0, .slice none 0 0, .slice none 0 0] w1 fun (px2 : Addr) w2 =>
  NEW T.t_i_Bound #[.slice none 0 0, .slice none 0 0, .slice none 0 0] w2 fun (p_out : Addr) w3 =>
  LD [.sl] (p_a.add 0) w3 fun (x5 : Sl) =>
  Calls Tryz.prog F.l_toProblemS #[x5.v] w3 (Ret [.at .sl] fun (x6 : Sl) w4 =>
  ST (p_out.add 0) 0 [x6.v] w4 fun w5 =>
  LD [.sl] (p_a.add 1) w5 fun (x9 : Sl) =>
  Calls Tryz.prog F.l_toIntSS #[x9.v] w5 (Ret [.at .sl] fun (x10 : Sl) w6 =>
  ST (p_out.add 1) 0 [x10.v] w6 fun w7 =>
  LD [.sl] (p_a.add 2) w7 fun (x13 : Sl) =>
  Calls Tryz.prog F.l_toIntSS #[x13.v] w7 (Ret [.at .sl] fun (x14 : Sl) w8 =>
  ST (p_out.add 2) 0 [x14.v] w8 fun w9 =>
  LD [.sl, .sl, .sl] p_out w9 fun (x16_0 : Sl) (x16_1 : Sl) (x16_2 : Sl) =>
  ST px2 0 [x16_0.v, x16_1.v, x16_2.v] w9 fun w10 =>
  LD [.sl, .sl, .sl] px2 w10 fun (r0_0 : Sl) (r0_1 : Sl) (r0_2 : Sl) =>
  Q r0_0 r0_1 r0_2 w10)))

theorem C_l_toBound {Q : Sl → Sl → Sl → World → Prop} {a_0 : Sl} {a_1 : Sl} {a_2 : Sl} {w : World} (h : V_l_toBound Q a_0 a_1 a_2 w) : Calls Tryz.prog F.l_toBound #[.agg #[a_0.v, a_1.v, a_2.v]] w (Ret [.agg [.sl, .sl, .sl]] Q) :=
  mkC (hint := hint) (ann := annOf []) (args := [.agg #[a_0.v, a_1.v, a_2.v]]) (rs := [.agg [.sl, .sl, .sl]]) Tryz.func10 (by kernel_rfl) (by kernel_rfl) h

def V_i_CheckBound (Q : Bool → Bool → World → Prop) (b_0 : Sl) (b_1 : Sl) (b_2 : Sl) (w : World) : Prop :=
  NEW T.t_i_Bound #[b_0.v, b_1.v, b_2.v] w fun (p_b : Addr) w1 =>
  LD [.sl] (p_b.add 0) w1 fun (x5 : Sl) =>
  Calls Tryz.prog F.i_problemsOk #[x5.v] w1 (Ret [.at .bool] fun (x6 : Bool) w2 =>
  cond (!x6) (
  Q false false w2) (
  LD [.sl, .sl, .sl] p_b w2 fun (x8_0 : Sl) (x8_1 : Sl) (x8_2 : Sl) =>
  Calls Tryz.prog F.i_isRightBound #[.agg #[x8_0.v, x8_1.v, x8_2.v]] w2 (Ret [.at .bool] fun (x9 : Bool) w3 =>
  Q x9 true w3)))

theorem C_i_CheckBound {Q : Bool → Bool → World → Prop} {b_0 : Sl} {b_1 : Sl} {b_2 : Sl} {w : World} (h : V_i_CheckBound Q b_0 b_1 b_2 w) : Calls Tryz.prog F.i_CheckBound #[.agg #[b_0.v, b_1.v, b_2.v]] w (Ret [.at .bool, .at .bool] Q) :=
  mkC (hint := hint) (ann := annOf []) (args := [.agg #[b_0.v, b_1.v, b_2.v]]) (rs := [.at .bool, .at .bool]) Tryz.func11 (by kernel_rfl) (by kernel_rfl) h

def V_l_eqBound (Q : Bool → World → Prop) (a_0 : Sl) (a_1 : Sl) (a_2 : Sl) (b_0 : Sl) (b_1 : Sl) (b_2 : Sl) (w : World) : Prop :=
  NEW T.t_i_Bound #[a_0.v, a_1.v, a_2.v] w fun (p_a : Addr) w1 =>
  NEW T.t_i_Bound #[b_0.v, b_1.v, b_2.v] w1 fun (p_b : Addr) w2 =>
  LD [.sl] (p_a.add 0) w2 fun (x6 : Sl) =>
  LD [.sl] (p_b.add 0) w2 fun (x8 : Sl) =>
  Calls Tryz.prog F.l_eqProblemS #[x6.v, x8.v] w2 (Ret [.at .bool] fun (x9 : Bool) w3 =>
  cond (!x9) (
  Q false w3) (
  LD [.sl] (p_a.add 1) w3 fun (x12 : Sl) =>
  LD [.sl] (p_b.add 1) w3 fun (x14 : Sl) =>
  Calls Tryz.prog F.l_eqIntSS #[x12.v, x14.v] w3 (Ret [.at .bool] fun (x15 : Bool) w4 =>
  cond (!x15) (
  Q false w4) (
  LD [.sl] (p_a.add 2) w4 fun (x18 : Sl) =>
  LD [.sl] (p_b.add 2) w4 fun (x20 : Sl) =>
  Calls Tryz.prog F.l_eqIntSS #[x18.v, x20.v] w4 (Ret [.at .bool] fun (x21 : Bool) w5 =>
  cond (!x21) (
  Q false w5) (
  Q true w5))))))

theorem C_l_eqBound {Q : Bool → World → Prop} {a_0 : Sl} {a_1 : Sl} {a_2 : Sl} {b_0 : Sl} {b_1 : Sl} {b_2 : Sl} {w : World} (h : V_l_eqBound Q a_0 a_1 a_2 b_0 b_1 b_2 w) : Calls Tryz.prog F.l_eqBound #[.agg #[a_0.v, a_1.v, a_2.v], .agg #[b_0.v, b_1.v, b_2.v]] w (Ret [.at .bool] Q) :=
  mkC (hint := hint) (ann := annOf []) (args := [.agg #[a_0.v, a_1.v, a_2.v], .agg #[b_0.v, b_1.v, b_2.v]]) (rs := [.at .bool]) Tryz.func12 (by kernel_rfl) (by kernel_rfl) h

def V_s_BoundOf (Q : Int → Bool → World → Prop) (b_0 : Sl) (b_1 : Sl) (b_2 : Sl) (w : World) : Prop :=
  NEW T.t_i_Bound #[b_0.v, b_1.v, b_2.v] w fun (p_b : Addr) w1 =>
  LD [.sl, .sl, .sl] p_b w1 fun (x4_0 : Sl) (x4_1 : Sl) (x4_2 : Sl) =>
  Calls Tryz.prog F.s_boGood #[.agg #[x4_0.v, x4_1.v, x4_2.v]] w1 (Ret [.at .bool] fun (x5 : Bool) w2 =>
  cond (!x5) (
  Q 0 false w2) (
  LD [.sl] (p_b.add 0) w2 fun (x8 : Sl) =>
  Q (IntKind.i64.wrap (x8.len - 1)) true w2))

theorem C_s_BoundOf {Q : Int → Bool → World → Prop} {b_0 : Sl} {b_1 : Sl} {b_2 : Sl} {w : World} (h : V_s_BoundOf Q b_0 b_1 b_2 w) : Calls Tryz.prog F.s_BoundOf #[.agg #[b_0.v, b_1.v, b_2.v]] w (Ret [.at (.int .i64), .at .bool] Q) :=
  mkC (hint := hint) (ann := annOf []) (args := [.agg #[b_0.v, b_1.v, b_2.v]]) (rs := [.at (.int .i64), .at .bool]) Tryz.func13 (by kernel_rfl) (by kernel_rfl) h

def V_i_BoundOf (Q : Int → Bool → World → Prop) (b_0 : Sl) (b_1 : Sl) (b_2 : Sl) (w : World) : Prop :=
  NEW T.t_i_Bound #[b_0.v, b_1.v, b_2.v] w fun (p_b : Addr) w1 =>
  LD [.sl, .sl, .sl] p_b w1 fun (x7_0 : Sl) (x7_1 : Sl) (x7_2 : Sl) =>
  Calls Tryz.prog F.i_CheckBound #[.agg #[x7_0.v, x7_1.v, x7_2.v]] w1 (Ret [.at .bool, .at .bool] fun (x8_0 : Bool) (x8_1 : Bool) w2 =>
  cond (!x8_0) (
  Q 0 false w2) (
  cond (!x8_1) (
  Q 0 false w2) (
  LD [.sl] (p_b.add 1) w2 fun (x18_2 : Sl) =>
  Q x18_2.len true w2)))

theorem C_i_BoundOf {Q : Int → Bool → World → Prop} {b_0 : Sl} {b_1 : Sl} {b_2 : Sl} {w : World} (h : V_i_BoundOf Q b_0 b_1 b_2 w) : Calls Tryz.prog F.i_BoundOf #[.agg #[b_0.v, b_1.v, b_2.v]] w (Ret [.at (.int .i64), .at .bool] Q) :=
  mkC (hint := hint) (ann := annOf []) (args := [.agg #[b_0.v, b_1.v, b_2.v]]) (rs := [.at (.int .i64), .at .bool]) Tryz.func14 (by kernel_rfl) (by kernel_rfl) h

def V_l_szProblem (Q : Int → World → Prop) (a_0 : Int) (a_1 : Int) (a_2 : Sl) (a_3 : Sl) (left : Int) (w : World) : Prop :=
  NEW T.t_l_Problem #[.int .i64 a_0, .int .i64 a_1, a_2.v, a_3.v] w fun (p_a : Addr) w1 =>
  LD [.sl] (p_a.add 2) w1 fun (x6 : Sl) =>
  Calls Tryz.prog F.l_szIntSS #[x6.v, .int .i64 left] w1 (Ret [.at (.int .i64)] fun (x8 : Int) w2 =>
  cond (decide ((x8 : Int) < 0)) (
  Q (-1) w2) (
  LD [.sl] (p_a.add 3) w2 fun (x12 : Sl) =>
  Calls Tryz.prog F.l_szIntSS #[x12.v, .int .i64 x8] w2 (Ret [.at (.int .i64)] fun (x14 : Int) w3 =>
  cond (decide ((x14 : Int) < 0)) (
  Q (-1) w3) (
  Q x14 w3))))

theorem C_l_szProblem {Q : Int → World → Prop} {a_0 : Int} {a_1 : Int} {a_2 : Sl} {a_3 : Sl} {left : Int} {w : World} (h : V_l_szProblem Q a_0 a_1 a_2 a_3 left w) : Calls Tryz.prog F.l_szProblem #[.agg #[.int .i64 a_0, .int .i64 a_1, a_2.v, a_3.v], .int .i64 left] w (Ret [.at (.int .i64)] Q) :=
  mkC (hint := hint) (ann := annOf []) (args := [.agg #[.int .i64 a_0, .int .i64 a_1, a_2.v, a_3.v], .int .i64 left]) (rs := [.at (.int .i64)]) Tryz.func15 (by kernel_rfl) (by kernel_rfl) h

def V_l_toProblem (Q : Int → Int → Sl → Sl → World → Prop) (a_0 : Int) (a_1 : Int) (a_2 : Sl) (a_3 : Sl) (w : World) : Prop :=
  NEW T.t_l_Problem #[.int .i64 a_0, .int .i64 a_1, a_2.v, a_3.v] w fun (p_a : Addr) w1 =>
  NEW T.t_i_Problem #[.int .i64 0, .int .i64 0, .slice none 0 0, .slice none 0 0] w1 fun (px2 : Addr) w2 =>
  NEW T.t_i_Problem #[.int .i64 0, .int .i64 0, .slice none 0 0, .slice none 0 0] w2 fun (p_out : Addr) w3 =>
  LD [.int .i64] (p_a.add 0) w3 fun (x5 : Int) =>
  ST (p_out.add 0) 0 [.int .i64 x5] w3 fun w4 =>
  LD [.int .i64] (p_a.add 1) w4 fun (x8 : Int) =>
  ST (p_out.add 1) 0 [.int .i64 x8] w4 fun w5 =>
  LD [.sl] (p_a.add 2) w5 fun (x11 : Sl) =>
  Calls Tryz.prog F.l_toIntSS #[x11.v] w5 (Ret [.at .sl] fun (x12 : Sl) w6 =>
  ST (p_out.add 2) 0 [x12.v] w6 fun w7 =>
  LD [.sl] (p_a.add 3) w7 fun (x15 : Sl) =>
  Calls Tryz.prog F.l_toIntSS #[x15.v] w7 (Ret [.at .sl] fun (x16 : Sl) w8 =>
  ST (p_out.add 3) 0 [x16.v] w8 fun w9 =>
  LD [.int .i64, .int .i64, .sl, .sl] p_out w9 fun (x18_0 : Int) (x18_1 : Int) (x18_2 : Sl) (x18_3 : Sl) =>
  ST px2 0 [.int .i64 x18_0, .int .i64 x18_1, x18_2.v, x18_3.v] w9 fun w10 =>
  LD [.int .i64, .int .i64, .sl, .sl] px2 w10 fun (r0_0 : Int) (r0_1 : Int) (r0_2 : Sl) (r0_3 : Sl) =>
  Q r0_0 r0_1 r0_2 r0_3 w10))

theorem C_l_toProblem {Q : Int → Int → Sl → Sl → World → Prop} {a_0 : Int} {a_1 : Int} {a_2 : Sl} {a_3 : Sl} {w : World} (h : V_l_toProblem Q a_0 a_1 a_2 a_3 w) : Calls Tryz.prog F.l_toProblem #[.agg #[.int .i64 a_0, .int .i64 a_1, a_2.v, a_3.v]] w (Ret [.agg [.int .i64, .int .i64, .sl, .sl]] Q) :=
  mkC (hint := hint) (ann := annOf []) (args := [.agg #[.int .i64 a_0, .int .i64 a_1, a_2.v, a_3.v]]) (rs := [.agg [.int .i64, .int .i64, .sl, .sl]]) Tryz.func18 (by kernel_rfl) (by kernel_rfl) h

def V_l_eqIntSS (Q : Bool → World → Prop) (a : Sl) (b : Sl) (w : World) : Prop :=
  cond ((a.len : Int) != b.len) (
  Q false w) (
  ∃ (I4 : Int → World → Prop) (m4 : Int → World → Nat), I4 0 w ∧ ∀ (i : Int) w1, I4 i w1 → ∀ _ _ _ _ _ _ _ _ _ _ _ _ _ _ _ _ _ : Value,
  cond (decide ((i : Int) < a.len)) (
  IX a i 1 fun (px19 : Addr) =>
  LD [.sl] px19 w1 fun (x20 : Sl) =>
  IX b i 1 fun (px23 : Addr) =>
  LD [.sl] px23 w1 fun (x24 : Sl) =>
  QCALL Tryz.prog F.l_eqIntS #[x20.v, x24.v] w1 [.at .bool] fun (x25 : Bool) =>
  ∀ w2, Ext w1 w2 →
  cond (!x25) (
  Q false w2) (
  I4 (IntKind.i64.wrap (i + 1)) w2 ∧ m4 (IntKind.i64.wrap (i + 1)) w2 < m4 i w1)) (
  Q true w1))

theorem C_l_eqIntSS {Q : Bool → World → Prop} {a : Sl} {b : Sl} {w : World} (h : V_l_eqIntSS Q a b w) : Calls Tryz.prog F.l_eqIntSS #[a.v, b.v] w (Ret [.at .bool] Q) :=
  mkC (hint := hint) (ann := annOf [(4, ⟨[(5, .int .i64)], [4, 11, 12, 13, 14, 15, 16, 17, 18, 19, 20, 21, 22, 23, 24, 25, 26]⟩)]) (args := [a.v, b.v]) (rs := [.at .bool]) Tryz.func21 (by kernel_rfl) (by kernel_rfl) h

def V_l_eqProblem (Q : Bool → World → Prop) (a_0 : Int) (a_1 : Int) (a_2 : Sl) (a_3 : Sl) (b_0 : Int) (b_1 : Int) (b_2 : Sl) (b_3 : Sl) (w : World) : Prop :=
  NEW T.t_i_Problem #[.int .i64 a_0, .int .i64 a_1, a_2.v, a_3.v] w fun (p_a : Addr) w1 =>
  NEW T.t_i_Problem #[.int .i64 b_0, .int .i64 b_1, b_2.v, b_3.v] w1 fun (p_b : Addr) w2 =>
  LD [.int .i64] (p_a.add 0) w2 fun (x6 : Int) =>
  LD [.int .i64] (p_b.add 0) w2 fun (x8 : Int) =>
  cond ((x6 : Int) != x8) (
  Q false w2) (
  LD [.int .i64] (p_a.add 1) w2 fun (x11 : Int) =>
  LD [.int .i64] (p_b.add 1) w2 fun (x13 : Int) =>
  cond ((x11 : Int) != x13) (
  Q false w2) (
  LD [.sl] (p_a.add 2) w2 fun (x16 : Sl) =>
  LD [.sl] (p_b.add 2) w2 fun (x18 : Sl) =>
  Calls Tryz.prog F.l_eqIntSS #[x16.v, x18.v] w2 (Ret [.at .bool] fun (x19 : Bool) w3 =>
  cond (!x19) (
  Q false w3) (
  LD [.sl] (p_a.add 3) w3 fun (x22 : Sl) =>
  LD [.sl] (p_b.add 3) w3 fun (x24 : Sl) =>
  Calls Tryz.prog F.l_eqIntSS #[x22.v, x24.v] w3 (Ret [.at .bool] fun (x25 : Bool) w4 =>
  cond (!x25) (
  Q false w4) (
  Q true w4))))))

theorem C_l_eqProblem {Q : Bool → World → Prop} {a_0 : Int} {a_1 : Int} {a_2 : Sl} {a_3 : Sl} {b_0 : Int} {b_1 : Int} {b_2 : Sl} {b_3 : Sl} {w : World} (h : V_l_eqProblem Q a_0 a_1 a_2 a_3 b_0 b_1 b_2 b_3 w) : Calls Tryz.prog F.l_eqProblem #[.agg #[.int .i64 a_0, .int .i64 a_1, a_2.v, a_3.v], .agg #[.int .i64 b_0, .int .i64 b_1, b_2.v, b_3.v]] w (Ret [.at .bool] Q) :=
  mkC (hint := hint) (ann := annOf []) (args := [.agg #[.int .i64 a_0, .int .i64 a_1, a_2.v, a_3.v], .agg #[.int .i64 b_0, .int .i64 b_1, b_2.v, b_3.v]]) (rs := [.at .bool]) Tryz.func22 (by kernel_rfl) (by kernel_rfl) h

def V_l_szProblemS (Q : Int → World → Prop) (a : Sl) (left : Int) (w : World) : Prop :=
  cond (decide (((IntKind.i64.wrap (left - a.len)) : Int) < 0)) (
  Q (-1) w) (
  ∃ (I5 : Int → Int → World → Prop) (m5 : Int → Int → World → Nat), I5 (IntKind.i64.wrap (left - a.len)) 0 w ∧ ∀ (left_2 : Int) (i : Int) w1, I5 left_2 i w1 → ∀ _ _ _ _ _ _ _ _ _ _ _ _ _ _ _ : Value,
  cond (decide ((i : Int) < a.len)) (
  IX a i 4 fun (px20 : Addr) =>
  LD [.int .i64, .int .i64, .sl, .sl] px20 w1 fun (x21_0 : Int) (x21_1 : Int) (x21_2 : Sl) (x21_3 : Sl) =>
  Calls Tryz.prog F.l_szProblem #[.agg #[.int .i64 x21_0, .int .i64 x21_1, x21_2.v, x21_3.v], .int .i64 left_2] w1 (Ret [.at (.int .i64)] fun (x23 : Int) w2 =>
  cond (decide ((x23 : Int) < 0)) (
  Q (-1) w2) (
  I5 x23 (IntKind.i64.wrap (i + 1)) w2 ∧ m5 x23 (IntKind.i64.wrap (i + 1)) w2 < m5 left_2 i w1))) (
  Q left_2 w1))

theorem C_l_szProblemS {Q : Int → World → Prop} {a : Sl} {left : Int} {w : World} (h : V_l_szProblemS Q a left w) : Calls Tryz.prog F.l_szProblemS #[a.v, .int .i64 left] w (Ret [.at (.int .i64)] Q) :=
  mkC (hint := hint) (ann := annOf [(5, ⟨[(1, .int .i64), (5, .int .i64)], [4, 12, 13, 14, 15, 16, 17, 18, 19, 20, 21, 22, 23, 24, 25]⟩)]) (args := [a.v, .int .i64 left]) (rs := [.at (.int .i64)]) Tryz.func34 (by kernel_rfl) (by kernel_rfl) h

def V_l_szIntSS (Q : Int → World → Prop) (a : Sl) (left : Int) (w : World) : Prop :=
  cond (decide (((IntKind.i64.wrap (left - a.len)) : Int) < 0)) (
  Q (-1) w) (
  ∃ (I5 : Int → Int → World → Prop) (m5 : Int → Int → World → Nat), I5 (IntKind.i64.wrap (left - a.len)) 0 w ∧ ∀ (left_2 : Int) (i : Int) w1, I5 left_2 i w1 → ∀ _ _ _ _ _ _ _ _ _ _ _ _ _ _ _ : Value,
  cond (decide ((i : Int) < a.len)) (
  IX a i 1 fun (px20 : Addr) =>
  LD [.sl] px20 w1 fun (x21 : Sl) =>
  Calls Tryz.prog F.l_szIntS #[x21.v, .int .i64 left_2] w1 (Ret [.at (.int .i64)] fun (x23 : Int) w2 =>
  cond (decide ((x23 : Int) < 0)) (
  Q (-1) w2) (
  I5 x23 (IntKind.i64.wrap (i + 1)) w2 ∧ m5 x23 (IntKind.i64.wrap (i + 1)) w2 < m5 left_2 i w1))) (
  Q left_2 w1))

theorem C_l_szIntSS {Q : Int → World → Prop} {a : Sl} {left : Int} {w : World} (h : V_l_szIntSS Q a left w) : Calls Tryz.prog F.l_szIntSS #[a.v, .int .i64 left] w (Ret [.at (.int .i64)] Q) :=
  mkC (hint := hint) (ann := annOf [(5, ⟨[(1, .int .i64), (5, .int .i64)], [4, 12, 13, 14, 15, 16, 17, 18, 19, 20, 21, 22, 23, 24, 25]⟩)]) (args := [a.v, .int .i64 left]) (rs := [.at (.int .i64)]) Tryz.func35 (by kernel_rfl) (by kernel_rfl) h

def V_s_boTwo (Q : Bool → World → Prop) (ps : Sl) (w : World) : Prop :=
  ∃ (I2 : Int → World → Prop) (m2 : Int → World → Nat), I2 0 w ∧ ∀ (x7 : Int) w1, I2 x7 w1 → ∀ _ _ _ _ _ _ _ _ _ _ _ _ _ _ _ _ _ _ : Value,
  cond (decide ((x7 : Int) < ps.len)) (
  IX ps x7 4 fun (px9 : Addr) =>
  LD [.int .i64, .int .i64, .sl, .sl] px9 w1 fun (x10_0 : Int) (x10_1 : Int) (x10_2 : Sl) (x10_3 : Sl) =>
  NEW T.t_i_Problem #[.int .i64 0, .int .i64 0, .slice none 0 0, .slice none 0 0] w1 fun (p_p : Addr) w2 =>
  ST p_p 0 [.int .i64 x10_0, .int .i64 x10_1, x10_2.v, x10_3.v] w2 fun w3 =>
  LD [.int .i64, .int .i64, .sl, .sl] p_p w3 fun (x11_0 : Int) (x11_1 : Int) (x11_2 : Sl) (x11_3 : Sl) =>
  QCALL Tryz.prog F.s_prGood #[.agg #[.int .i64 x11_0, .int .i64 x11_1, x11_2.v, x11_3.v]] w3 [.at .bool] fun (x12 : Bool) =>
  cond (!x12) (
  ∀ w4, Ext w3 w4 →
  Q false w4) (
  LD [.int .i64] (p_p.add 1) w3 fun (x16 : Int) =>
  IX ps 0 4 fun (px18 : Addr) =>
  LD [.int .i64] (px18.add 1) w3 fun (x20 : Int) =>
  ∀ w5, Ext w3 w5 →
  cond ((x16 : Int) != x20) (
  Q false w5) (
  I2 (IntKind.i64.wrap (x7 + 1)) w5 ∧ m2 (IntKind.i64.wrap (x7 + 1)) w5 < m2 x7 w1))) (
  Calls Tryz.prog F.s_l1In #[.int .i64 ps.len, .int .i64 1, .int .i64 7] w1 (Ret [.at .bool] fun (x26 : Bool) w6 =>
  Q x26 w6))

theorem C_s_boTwo {Q : Bool → World → Prop} {ps : Sl} {w : World} (h : V_s_boTwo Q ps w) : Calls Tryz.prog F.s_boTwo #[ps.v] w (Ret [.at .bool] Q) :=
  mkC (hint := hint) (ann := annOf [(2, ⟨[(7, .int .i64)], [2, 4, 8, 9, 10, 11, 12, 13, 14, 15, 16, 17, 18, 19, 20, 21, 22, 23]⟩)]) (args := [ps.v]) (rs := [.at .bool]) Tryz.func36 (by kernel_rfl) (by kernel_rfl) h

def V_s_boRight_k1 (Q : Bool → World → Prop) (p_b : Addr) (w4 : World) : Prop :=
  LD [.sl] (p_b.add 1) w4 fun (x27 : Sl) =>
  ∃ (I5 : Int → World → Prop) (m5 : Int → World → Nat), I5 0 w4 ∧ ∀ (x29 : Int) w5, I5 x29 w5 → ∀ _ _ _ _ _ _ _ _ _ _ _ _ _ _ _ _ _ _ _ _ _ _ : Value,
  cond (decide ((x29 : Int) < x27.len)) (
  IX x27 x29 1 fun (px32 : Addr) =>
  LD [.sl] px32 w5 fun (x33 : Sl) =>
  LD [.sl] (p_b.add 0) w5 fun (x35 : Sl) =>
  IX x35 x29 4 fun (px37 : Addr) =>
  LD [.int .i64, .int .i64, .sl, .sl] px37 w5 fun (x38_0 : Int) (x38_1 : Int) (x38_2 : Sl) (x38_3 : Sl) =>
  LD [.sl] (p_b.add 0) w5 fun (x40 : Sl) =>
  IX x40 (IntKind.i64.wrap (x29 + 1)) 4 fun (px43 : Addr) =>
  LD [.int .i64, .int .i64, .sl, .sl] px43 w5 fun (x44_0 : Int) (x44_1 : Int) (x44_2 : Sl) (x44_3 : Sl) =>
  QCALL Tryz.prog F.s_boStep #[.agg #[.int .i64 x38_0, .int .i64 x38_1, x38_2.v, x38_3.v], .agg #[.int .i64 x44_0, .int .i64 x44_1, x44_2.v, x44_3.v], x33.v] w5 [.at .bool] fun (x46 : Bool) =>
  ∀ w6, Ext w5 w6 →
  cond (!x46) (
  Q false w6) (
  I5 (IntKind.i64.wrap (x29 + 1)) w6 ∧ m5 (IntKind.i64.wrap (x29 + 1)) w6 < m5 x29 w5)) (
  Q true w5)

def V_s_boRight (Q : Bool → World → Prop) (b_0 : Sl) (b_1 : Sl) (b_2 : Sl) (w : World) : Prop :=
  NEW T.t_i_Bound #[b_0.v, b_1.v, b_2.v] w fun (p_b : Addr) w1 =>
  LD [.sl] (p_b.add 0) w1 fun (x7 : Sl) =>
  LD [.sl] (p_b.add 1) w1 fun (x11 : Sl) =>
  cond ((x11.len : Int) != (IntKind.i64.wrap (x7.len - 1))) (
  ∀ w2, Ext w1 w2 →
  Q false w2) (
  LD [.sl] (p_b.add 0) w1 fun (x17 : Sl) =>
  IX x17 (IntKind.i64.wrap (x7.len - 1)) 4 fun (px19 : Addr) =>
  LD [.int .i64, .int .i64, .sl, .sl] px19 w1 fun (x20_0 : Int) (x20_1 : Int) (x20_2 : Sl) (x20_3 : Sl) =>
  LD [.sl] (p_b.add 2) w1 fun (x22 : Sl) =>
  QCALL Tryz.prog F.s_boZero #[.agg #[.int .i64 x20_0, .int .i64 x20_1, x20_2.v, x20_3.v], x22.v] w1 [.at .bool] fun (x23 : Bool) =>
  ∀ w3, Ext w1 w3 →
  cond (!x23) (
  Q false w3) (
  V_s_boRight_k1 Q p_b w3))

theorem C_s_boRight {Q : Bool → World → Prop} {b_0 : Sl} {b_1 : Sl} {b_2 : Sl} {w : World} (h : V_s_boRight Q b_0 b_1 b_2 w) : Calls Tryz.prog F.s_boRight #[.agg #[b_0.v, b_1.v, b_2.v]] w (Ret [.at .bool] Q) :=
  mkC (hint := hint) (ann := annOf [(5, ⟨[(29, .int .i64)], [2, 4, 5, 30, 31, 32, 33, 34, 35, 36, 37, 38, 39, 40, 41, 42, 43, 44, 45, 46, 47, 48]⟩)]) (args := [.agg #[b_0.v, b_1.v, b_2.v]]) (rs := [.at .bool]) Tryz.func37 (by kernel_rfl) (by kernel_rfl) h

def V_l_toProblemS (Q : Sl → World → Prop) (a : Sl) (w : World) : Prop :=
  RUN Tryz.prog (.at .sl) (Instr.makeSlice T.t_sl_i_Problem (.int .i64 a.len) (.int .i64 a.len)) w fun (x7 : Sl) w1 =>
  ∃ (I3 : Int → World → Prop) (m3 : Int → World → Nat), I3 0 w1 ∧ ∀ (i : Int) w2, I3 i w2 → ∀ _ _ _ _ _ _ _ _ _ _ _ _ _ _ : Value,
  cond (decide ((i : Int) < a.len)) (
  IX a i 4 fun (px18 : Addr) =>
  LD [.int .i64, .int .i64, .sl, .sl] px18 w2 fun (x19_0 : Int) (x19_1 : Int) (x19_2 : Sl) (x19_3 : Sl) =>
  Calls Tryz.prog F.l_toProblem #[.agg #[.int .i64 x19_0, .int .i64 x19_1, x19_2.v, x19_3.v]] w2 (Ret [.agg [.int .i64, .int .i64, .sl, .sl]] fun (x20_0 : Int) (x20_1 : Int) (x20_2 : Sl) (x20_3 : Sl) w3 =>
  IX x7 i 4 fun (px21 : Addr) =>
  ST px21 0 [.int .i64 x20_0, .int .i64 x20_1, x20_2.v, x20_3.v] w3 fun w4 =>
  I3 (IntKind.i64.wrap (i + 1)) w4 ∧ m3 (IntKind.i64.wrap (i + 1)) w4 < m3 i w2)) (
  Q x7 w2)

theorem C_l_toProblemS {Q : Sl → World → Prop} {a : Sl} {w : World} (h : V_l_toProblemS Q a w) : Calls Tryz.prog F.l_toProblemS #[a.v] w (Ret [.at .sl] Q) :=
  mkC (hint := hint) (ann := annOf [(3, ⟨[(4, .int .i64)], [8, 9, 10, 11, 12, 13, 14, 15, 16, 17, 18, 19, 20, 21]⟩)]) (args := [a.v]) (rs := [.at .sl]) Tryz.func38 (by kernel_rfl) (by kernel_rfl) h

def V_l_toIntSS (Q : Sl → World → Prop) (a : Sl) (w : World) : Prop :=
  RUN Tryz.prog (.at .sl) (Instr.makeSlice T.t_sl_sl_int (.int .i64 a.len) (.int .i64 a.len)) w fun (x7 : Sl) w1 =>
  ∃ (I3 : Int → World → Prop) (m3 : Int → World → Nat), I3 0 w1 ∧ ∀ (i : Int) w2, I3 i w2 → ∀ _ _ _ _ _ _ _ _ _ _ _ _ _ _ : Value,
  cond (decide ((i : Int) < a.len)) (
  IX a i 1 fun (px18 : Addr) =>
  LD [.sl] px18 w2 fun (x19 : Sl) =>
  Calls Tryz.prog F.l_toIntS #[x19.v] w2 (Ret [.at .sl] fun (x20 : Sl) w3 =>
  IX x7 i 1 fun (px21 : Addr) =>
  ST px21 0 [x20.v] w3 fun w4 =>
  I3 (IntKind.i64.wrap (i + 1)) w4 ∧ m3 (IntKind.i64.wrap (i + 1)) w4 < m3 i w2)) (
  Q x7 w2)

theorem C_l_toIntSS {Q : Sl → World → Prop} {a : Sl} {w : World} (h : V_l_toIntSS Q a w) : Calls Tryz.prog F.l_toIntSS #[a.v] w (Ret [.at .sl] Q) :=
  mkC (hint := hint) (ann := annOf [(3, ⟨[(4, .int .i64)], [8, 9, 10, 11, 12, 13, 14, 15, 16, 17, 18, 19, 20, 21]⟩)]) (args := [a.v]) (rs := [.at .sl]) Tryz.func39 (by kernel_rfl) (by kernel_rfl) h

def V_i_problemsOk (Q : Bool → World → Prop) (ps : Sl) (w : World) : Prop :=
  NEW T.t_sl_i_Problem #[ps.v] w fun (p_ps : Addr) w1 =>
  LD [.sl] p_ps w1 fun (x3 : Sl) =>
  Calls Tryz.prog F.i_within #[.int .i64 x3.len, .int .i64 1, .int .i64 7] w1 (Ret [.at .bool] fun (x5 : Bool) w2 =>
  cond (!x5) (
  Q false w2) (
  LD [.sl] p_ps w2 fun (x7 : Sl) =>
  Calls Tryz.prog F.slices_ContainsFunc_sl_i_Problem_i_Problem #[x7.v, .func (.func F.i_problemsOk_1) #[] #[.pointer (some p_ps)]] w2 (Ret [.at .bool] fun (x9 : Bool) w3 =>
  Q (!x9) w3)))

theorem C_i_problemsOk {Q : Bool → World → Prop} {ps : Sl} {w : World} (h : V_i_problemsOk Q ps w) : Calls Tryz.prog F.i_problemsOk #[ps.v] w (Ret [.at .bool] Q) :=
  mkC (hint := hint) (ann := annOf []) (args := [ps.v]) (rs := [.at .bool]) Tryz.func40 (by kernel_rfl) (by kernel_rfl) h

def V_i_isRightBound (Q : Bool → World → Prop) (b_0 : Sl) (b_1 : Sl) (b_2 : Sl) (w : World) : Prop :=
  NEW T.t_i_Bound #[b_0.v, b_1.v, b_2.v] w fun (p_b : Addr) w1 =>
  LD [.sl] (p_b.add 0) w1 fun (x11 : Sl) =>
  LD [.sl] (p_b.add 1) w1 fun (x15 : Sl) =>
  cond ((x15.len : Int) != (IntKind.i64.wrap (x11.len - 1))) (
  Q false w1) (
  LD [.sl] (p_b.add 1) w1 fun (x20 : Sl) =>
  ∃ (I5 : Int → World → Prop) (m5 : Int → World → Nat), I5 0 w1 ∧ ∀ (x22 : Int) w2, I5 x22 w2 → ∀ _ _ _ _ _ _ _ _ _ _ _ _ _ _ _ _ _ _ _ _ _ _ _ _ _ _ _ _ _ _ _ _ _ _ _ _ _ : Value,
  cond (decide ((x22 : Int) < x20.len)) (
  IX x20 x22 1 fun (px25 : Addr) =>
  LD [.sl] px25 w2 fun (x26 : Sl) =>
  LD [.sl] (p_b.add 0) w2 fun (x29 : Sl) =>
  IX x29 x22 4 fun (px31 : Addr) =>
  LD [.int .i64, .int .i64, .sl, .sl] px31 w2 fun (x32_0 : Int) (x32_1 : Int) (x32_2 : Sl) (x32_3 : Sl) =>
  Calls Tryz.prog F.i_eliminate #[.agg #[.int .i64 x32_0, .int .i64 x32_1, x32_2.v, x32_3.v]] w2 (Ret [.agg [.int .i64, .int .i64, .sl, .sl], .at .sl, .at .sl, .at .bool] fun (x33_0_0 : Int) (x33_0_1 : Int) (x33_0_2 : Sl) (x33_0_3 : Sl) (x33_1 : Sl) (x33_2 : Sl) (x33_3 : Bool) w3 =>
  NEW T.t_i_Problem #[.int .i64 0, .int .i64 0, .slice none 0 0, .slice none 0 0] w3 fun (p_q : Addr) w4 =>
  ST p_q 0 [.int .i64 x33_0_0, .int .i64 x33_0_1, x33_0_2.v, x33_0_3.v] w4 fun w5 =>
  cond (!x33_3) (
  ∀ w6, Ext w5 w6 →
  Q false w6) (
  LD [.int .i64, .int .i64, .sl, .sl] p_q w5 fun (x41_0 : Int) (x41_1 : Int) (x41_2 : Sl) (x41_3 : Sl) =>
  LD [.sl] (p_b.add 0) w5 fun (x43 : Sl) =>
  IX x43 (IntKind.i64.wrap (x22 + 1)) 4 fun (px46 : Addr) =>
  LD [.int .i64, .int .i64, .sl, .sl] px46 w5 fun (x47_0 : Int) (x47_1 : Int) (x47_2 : Sl) (x47_3 : Sl) =>
  QCALL Tryz.prog F.i_isLabelMap #[.agg #[.int .i64 x41_0, .int .i64 x41_1, x41_2.v, x41_3.v], .agg #[.int .i64 x47_0, .int .i64 x47_1, x47_2.v, x47_3.v], x26.v] w5 [.at .bool] fun (x49 : Bool) =>
  ∀ w7, Ext w5 w7 →
  cond (!x49) (
  Q false w7) (
  I5 (IntKind.i64.wrap (x22 + 1)) w7 ∧ m5 (IntKind.i64.wrap (x22 + 1)) w7 < m5 x22 w2)))) (
  LD [.sl] (p_b.add 0) w2 fun (x54 : Sl) =>
  IX x54 (IntKind.i64.wrap (x11.len - 1)) 4 fun (px56 : Addr) =>
  LD [.int .i64, .int .i64, .sl, .sl] px56 w2 fun (x57_0 : Int) (x57_1 : Int) (x57_2 : Sl) (x57_3 : Sl) =>
  LD [.sl] (p_b.add 2) w2 fun (x59 : Sl) =>
  QCALL Tryz.prog F.i_isZeroRefusal #[.agg #[.int .i64 x57_0, .int .i64 x57_1, x57_2.v, x57_3.v], x59.v] w2 [.at .bool] fun (x60 : Bool) =>
  ∀ w8, Ext w2 w8 →
  Q x60 w8))

theorem C_i_isRightBound {Q : Bool → World → Prop} {b_0 : Sl} {b_1 : Sl} {b_2 : Sl} {w : World} (h : V_i_isRightBound Q b_0 b_1 b_2 w) : Calls Tryz.prog F.i_isRightBound #[.agg #[b_0.v, b_1.v, b_2.v]] w (Ret [.at .bool] Q) :=
  mkC (hint := hint) (ann := annOf [(5, ⟨[(22, .int .i64)], [2, 4, 5, 6, 7, 8, 9, 23, 24, 25, 26, 27, 28, 29, 30, 31, 32, 33, 34, 35, 36, 37, 38, 39, 40, 41, 42, 43, 44, 45, 46, 47, 48, 49, 50, 51, 52]⟩)]) (args := [.agg #[b_0.v, b_1.v, b_2.v]]) (rs := [.at .bool]) Tryz.func41 (by kernel_rfl) (by kernel_rfl) h

def V_l_eqProblemS (Q : Bool → World → Prop) (a : Sl) (b : Sl) (w : World) : Prop :=
  cond ((a.len : Int) != b.len) (
  Q false w) (
  ∃ (I4 : Int → World → Prop) (m4 : Int → World → Nat), I4 0 w ∧ ∀ (i : Int) w1, I4 i w1 → ∀ _ _ _ _ _ _ _ _ _ _ _ _ _ _ _ _ _ : Value,
  cond (decide ((i : Int) < a.len)) (
  IX a i 4 fun (px19 : Addr) =>
  LD [.int .i64, .int .i64, .sl, .sl] px19 w1 fun (x20_0 : Int) (x20_1 : Int) (x20_2 : Sl) (x20_3 : Sl) =>
  IX b i 4 fun (px23 : Addr) =>
  LD [.int .i64, .int .i64, .sl, .sl] px23 w1 fun (x24_0 : Int) (x24_1 : Int) (x24_2 : Sl) (x24_3 : Sl) =>
  QCALL Tryz.prog F.l_eqProblem #[.agg #[.int .i64 x20_0, .int .i64 x20_1, x20_2.v, x20_3.v], .agg #[.int .i64 x24_0, .int .i64 x24_1, x24_2.v, x24_3.v]] w1 [.at .bool] fun (x25 : Bool) =>
  ∀ w2, Ext w1 w2 →
  cond (!x25) (
  Q false w2) (
  I4 (IntKind.i64.wrap (i + 1)) w2 ∧ m4 (IntKind.i64.wrap (i + 1)) w2 < m4 i w1)) (
  Q true w1))

theorem C_l_eqProblemS {Q : Bool → World → Prop} {a : Sl} {b : Sl} {w : World} (h : V_l_eqProblemS Q a b w) : Calls Tryz.prog F.l_eqProblemS #[a.v, b.v] w (Ret [.at .bool] Q) :=
  mkC (hint := hint) (ann := annOf [(4, ⟨[(5, .int .i64)], [4, 11, 12, 13, 14, 15, 16, 17, 18, 19, 20, 21, 22, 23, 24, 25, 26]⟩)]) (args := [a.v, b.v]) (rs := [.at .bool]) Tryz.func42 (by kernel_rfl) (by kernel_rfl) h

def V_s_boGood (Q : Bool → World → Prop) (b_0 : Sl) (b_1 : Sl) (b_2 : Sl) (w : World) : Prop :=
  NEW T.t_i_Bound #[b_0.v, b_1.v, b_2.v] w fun (p_b : Addr) w1 =>
  LD [.sl] (p_b.add 0) w1 fun (x4 : Sl) =>
  Calls Tryz.prog F.s_boTwo #[x4.v] w1 (Ret [.at .bool] fun (x5 : Bool) w2 =>
  cond x5 (
  LD [.sl, .sl, .sl] p_b w2 fun (x7_0 : Sl) (x7_1 : Sl) (x7_2 : Sl) =>
  Calls Tryz.prog F.s_boRight #[.agg #[x7_0.v, x7_1.v, x7_2.v]] w2 (Ret [.at .bool] fun (x8 : Bool) w3 =>
  Q x8 w3)) (
  Q false w2))

theorem C_s_boGood {Q : Bool → World → Prop} {b_0 : Sl} {b_1 : Sl} {b_2 : Sl} {w : World} (h : V_s_boGood Q b_0 b_1 b_2 w) : Calls Tryz.prog F.s_boGood #[.agg #[b_0.v, b_1.v, b_2.v]] w (Ret [.at .bool] Q) :=
  mkC (hint := hint) (ann := annOf []) (args := [.agg #[b_0.v, b_1.v, b_2.v]]) (rs := [.at .bool]) Tryz.func43 (by kernel_rfl) (by kernel_rfl) h

def V_l_szIntS (Q : Int → World → Prop) (a : Sl) (left : Int) (w : World) : Prop :=
  cond (decide (((IntKind.i64.wrap (left - a.len)) : Int) < 0)) (
  Q (-1) w) (
  Q (IntKind.i64.wrap (left - a.len)) w)

theorem C_l_szIntS {Q : Int → World → Prop} {a : Sl} {left : Int} {w : World} (h : V_l_szIntS Q a left w) : Calls Tryz.prog F.l_szIntS #[a.v, .int .i64 left] w (Ret [.at (.int .i64)] Q) :=
  mkC (hint := hint) (ann := annOf []) (args := [a.v, .int .i64 left]) (rs := [.at (.int .i64)]) Tryz.func45 (by kernel_rfl) (by kernel_rfl) h

def V_l_toIntS (Q : Sl → World → Prop) (a : Sl) (w : World) : Prop :=
  RUN Tryz.prog (.at .sl) (Instr.makeSlice T.t_sl_int (.int .i64 a.len) (.int .i64 a.len)) w fun (x7 : Sl) w1 =>
  ∃ (I3 : Int → World → Prop) (m3 : Int → World → Nat), I3 0 w1 ∧ ∀ (i : Int) w2, I3 i w2 → ∀ _ _ _ _ _ _ _ _ _ _ _ _ _ : Value,
  cond (decide ((i : Int) < a.len)) (
  IX a i 1 fun (px18 : Addr) =>
  LD [.int .i64] px18 w2 fun (x19 : Int) =>
  IX x7 i 1 fun (px20 : Addr) =>
  ST px20 0 [.int .i64 x19] w2 fun w3 =>
  I3 (IntKind.i64.wrap (i + 1)) w3 ∧ m3 (IntKind.i64.wrap (i + 1)) w3 < m3 i w2) (
  Q x7 w2)

theorem C_l_toIntS {Q : Sl → World → Prop} {a : Sl} {w : World} (h : V_l_toIntS Q a w) : Calls Tryz.prog F.l_toIntS #[a.v] w (Ret [.at .sl] Q) :=
  mkC (hint := hint) (ann := annOf [(3, ⟨[(4, .int .i64)], [8, 9, 10, 11, 12, 13, 14, 15, 16, 17, 18, 19, 20]⟩)]) (args := [a.v]) (rs := [.at .sl]) Tryz.func52 (by kernel_rfl) (by kernel_rfl) h

def V_l_eqIntS (Q : Bool → World → Prop) (a : Sl) (b : Sl) (w : World) : Prop :=
  cond ((a.len : Int) != b.len) (
  Q false w) (
  ∃ (I4 : Int → World → Prop) (m4 : Int → World → Nat), I4 0 w ∧ ∀ (i : Int) w1, I4 i w1 → ∀ _ _ _ _ _ _ _ _ _ _ _ _ _ _ _ _ : Value,
  cond (decide ((i : Int) < a.len)) (
  IX a i 1 fun (px19 : Addr) =>
  LD [.int .i64] px19 w1 fun (x20 : Int) =>
  IX b i 1 fun (px23 : Addr) =>
  LD [.int .i64] px23 w1 fun (x24 : Int) =>
  ∀ w2, Ext w1 w2 →
  cond ((x20 : Int) != x24) (
  Q false w2) (
  I4 (IntKind.i64.wrap (i + 1)) w2 ∧ m4 (IntKind.i64.wrap (i + 1)) w2 < m4 i w1)) (
  Q true w1))

theorem C_l_eqIntS {Q : Bool → World → Prop} {a : Sl} {b : Sl} {w : World} (h : V_l_eqIntS Q a b w) : Calls Tryz.prog F.l_eqIntS #[a.v, b.v] w (Ret [.at .bool] Q) :=
  mkC (hint := hint) (ann := annOf [(4, ⟨[(5, .int .i64)], [4, 11, 12, 13, 14, 15, 16, 17, 18, 19, 20, 21, 22, 23, 24, 25]⟩)]) (args := [a.v, b.v]) (rs := [.at .bool]) Tryz.func60 (by kernel_rfl) (by kernel_rfl) h

def V_s_l1In (Q : Bool → World → Prop) (n : Int) (lo : Int) (hi : Int) (w : World) : Prop :=
  cond (decide ((n : Int) ≥ lo)) (
  Q (decide ((n : Int) ≤ hi)) w) (
  Q false w)

theorem C_s_l1In {Q : Bool → World → Prop} {n : Int} {lo : Int} {hi : Int} {w : World} (h : V_s_l1In Q n lo hi w) : Calls Tryz.prog F.s_l1In #[.int .i64 n, .int .i64 lo, .int .i64 hi] w (Ret [.at .bool] Q) :=
  mkC (hint := hint) (ann := annOf []) (args := [.int .i64 n, .int .i64 lo, .int .i64 hi]) (rs := [.at .bool]) Tryz.func65 (by kernel_rfl) (by kernel_rfl) h

def V_i_within (Q : Bool → World → Prop) (n : Int) (low : Int) (high : Int) (w : World) : Prop :=
  cond (decide ((low : Int) ≤ n)) (
  Q (decide ((n : Int) ≤ high)) w) (
  Q false w)

theorem C_i_within {Q : Bool → World → Prop} {n : Int} {low : Int} {high : Int} {w : World} (h : V_i_within Q n low high w) : Calls Tryz.prog F.i_within #[.int .i64 n, .int .i64 low, .int .i64 high] w (Ret [.at .bool] Q) :=
  mkC (hint := hint) (ann := annOf []) (args := [.int .i64 n, .int .i64 low, .int .i64 high]) (rs := [.at .bool]) Tryz.func67 (by kernel_rfl) (by kernel_rfl) h

end Go.Proofs.YtndebacmnpghkaaGreat
end

section
/- What each function's code computes to. Printed by a program. -/
namespace Go.Proofs.YtndebacmnpghkaaGreat
open Go.GX Go.RowKit
set_option linter.unusedVariables false
set_option maxRecDepth 100000

def V_s_prGood (Q : Bool → World → Prop) (p_0 : Int) (p_1 : Int) (p_2 : Sl) (p_3 : Sl) (w : World) : Prop :=
  NEW T.t_i_Problem #[.int .i64 p_0, .int .i64 p_1, p_2.v, p_3.v] w fun (p_p : Addr) w1 =>
  LD [.int .i64] (p_p.add 0) w1 fun (x4 : Int) =>
  Calls Tryz.prog F.s_l1In #[.int .i64 x4, .int .i64 1, .int .i64 8] w1 (Ret [.at .bool] fun (x5 : Bool) w2 =>
  cond x5 (
  LD [.int .i64] (p_p.add 1) w2 fun (x8 : Int) =>
  Calls Tryz.prog F.s_l1In #[.int .i64 x8, .int .i64 1, .int .i64 4] w2 (Ret [.at .bool] fun (x9 : Bool) w3 =>
  cond x9 (
  LD [.sl] (p_p.add 2) w3 fun (x13 : Sl) =>
  LD [.int .i64] (p_p.add 1) w3 fun (x15 : Int) =>
  LD [.int .i64] (p_p.add 0) w3 fun (x17 : Int) =>
  Calls Tryz.prog F.s_prLists #[x13.v, .int .i64 x15, .int .i64 x17] w3 (Ret [.at .bool] fun (x18 : Bool) w4 =>
  cond x18 (
  LD [.sl] (p_p.add 3) w4 fun (x22 : Sl) =>
  LD [.int .i64] (p_p.add 0) w4 fun (x24 : Int) =>
  Calls Tryz.prog F.s_prLists #[x22.v, .int .i64 2, .int .i64 x24] w4 (Ret [.at .bool] fun (x25 : Bool) w5 =>
  Q x25 w5)) (
  Q false w4))) (
  Q false w3))) (
  Q false w2))

theorem C_s_prGood {Q : Bool → World → Prop} {p_0 : Int} {p_1 : Int} {p_2 : Sl} {p_3 : Sl} {w : World} (h : V_s_prGood Q p_0 p_1 p_2 p_3 w) : Calls Tryz.prog F.s_prGood #[.agg #[.int .i64 p_0, .int .i64 p_1, p_2.v, p_3.v]] w (Ret [.at .bool] Q) :=
  mkC (hint := hint) (ann := annOf []) (args := [.agg #[.int .i64 p_0, .int .i64 p_1, p_2.v, p_3.v]]) (rs := [.at .bool]) Tryz.func74 (by kernel_rfl) (by kernel_rfl) h

def V_s_boZero (Q : Bool → World → Prop) (p_0 : Int) (p_1 : Int) (p_2 : Sl) (p_3 : Sl) (pairs : Sl) (w : World) : Prop :=
  NEW T.t_i_Problem #[.int .i64 p_0, .int .i64 p_1, p_2.v, p_3.v] w fun (p_p : Addr) w1 =>
  LD [.int .i64, .int .i64, .sl, .sl] p_p w1 fun (x8_0 : Int) (x8_1 : Int) (x8_2 : Sl) (x8_3 : Sl) =>
  Calls Tryz.prog F.s_CheckZeroRefusal #[.agg #[.int .i64 x8_0, .int .i64 x8_1, x8_2.v, x8_3.v], pairs.v] w1 (Ret [.at .bool, .at .bool] fun (x10_0 : Bool) (x10_1 : Bool) w2 =>
  Q x10_0 w2)

theorem C_s_boZero {Q : Bool → World → Prop} {p_0 : Int} {p_1 : Int} {p_2 : Sl} {p_3 : Sl} {pairs : Sl} {w : World} (h : V_s_boZero Q p_0 p_1 p_2 p_3 pairs w) : Calls Tryz.prog F.s_boZero #[.agg #[.int .i64 p_0, .int .i64 p_1, p_2.v, p_3.v], pairs.v] w (Ret [.at .bool] Q) :=
  mkC (hint := hint) (ann := annOf []) (args := [.agg #[.int .i64 p_0, .int .i64 p_1, p_2.v, p_3.v], pairs.v]) (rs := [.at .bool]) Tryz.func75 (by kernel_rfl) (by kernel_rfl) h

def V_s_boStep (Q : Bool → World → Prop) (p_0 : Int) (p_1 : Int) (p_2 : Sl) (p_3 : Sl) (q_0 : Int) (q_1 : Int) (q_2 : Sl) (q_3 : Sl) (f : Sl) (w : World) : Prop :=
  NEW T.t_i_Problem #[.int .i64 p_0, .int .i64 p_1, p_2.v, p_3.v] w fun (p_p : Addr) w1 =>
  NEW T.t_i_Problem #[.int .i64 q_0, .int .i64 q_1, q_2.v, q_3.v] w1 fun (p_q : Addr) w2 =>
  LD [.int .i64, .int .i64, .sl, .sl] p_p w2 fun (x12_0 : Int) (x12_1 : Int) (x12_2 : Sl) (x12_3 : Sl) =>
  Calls Tryz.prog F.s_EliminateRound #[.agg #[.int .i64 x12_0, .int .i64 x12_1, x12_2.v, x12_3.v]] w2 (Ret [.agg [.int .i64, .int .i64, .sl, .sl], .at .sl, .at .sl, .at .bool] fun (x13_0_0 : Int) (x13_0_1 : Int) (x13_0_2 : Sl) (x13_0_3 : Sl) (x13_1 : Sl) (x13_2 : Sl) (x13_3 : Bool) w3 =>
  NEW T.t_i_Problem #[.int .i64 0, .int .i64 0, .slice none 0 0, .slice none 0 0] w3 fun (p_r : Addr) w4 =>
  ST p_r 0 [.int .i64 x13_0_0, .int .i64 x13_0_1, x13_0_2.v, x13_0_3.v] w4 fun w5 =>
  cond x13_3 (
  LD [.int .i64, .int .i64, .sl, .sl] p_r w5 fun (x20_0 : Int) (x20_1 : Int) (x20_2 : Sl) (x20_3 : Sl) =>
  LD [.int .i64, .int .i64, .sl, .sl] p_q w5 fun (x21_0 : Int) (x21_1 : Int) (x21_2 : Sl) (x21_3 : Sl) =>
  Calls Tryz.prog F.s_reMap #[.agg #[.int .i64 x20_0, .int .i64 x20_1, x20_2.v, x20_3.v], .agg #[.int .i64 x21_0, .int .i64 x21_1, x21_2.v, x21_3.v], f.v] w5 (Ret [.at .bool] fun (x23 : Bool) w6 =>
  Q x23 w6)) (
  Q false w5))

theorem C_s_boStep {Q : Bool → World → Prop} {p_0 : Int} {p_1 : Int} {p_2 : Sl} {p_3 : Sl} {q_0 : Int} {q_1 : Int} {q_2 : Sl} {q_3 : Sl} {f : Sl} {w : World} (h : V_s_boStep Q p_0 p_1 p_2 p_3 q_0 q_1 q_2 q_3 f w) : Calls Tryz.prog F.s_boStep #[.agg #[.int .i64 p_0, .int .i64 p_1, p_2.v, p_3.v], .agg #[.int .i64 q_0, .int .i64 q_1, q_2.v, q_3.v], f.v] w (Ret [.at .bool] Q) :=
  mkC (hint := hint) (ann := annOf []) (args := [.agg #[.int .i64 p_0, .int .i64 p_1, p_2.v, p_3.v], .agg #[.int .i64 q_0, .int .i64 q_1, q_2.v, q_3.v], f.v]) (rs := [.at .bool]) Tryz.func76 (by kernel_rfl) (by kernel_rfl) h

def V_slices_ContainsFunc_sl_i_Problem_i_Problem (Q : Bool → World → Prop) (s : Sl) (f : Value) (w : World) : Prop :=
  Calls Tryz.prog F.slices_IndexFunc_sl_i_Problem_i_Problem #[s.v, f] w (Ret [.at (.int .i64)] fun (x7 : Int) w1 =>
  Q (decide ((x7 : Int) ≥ 0)) w1)

theorem C_slices_ContainsFunc_sl_i_Problem_i_Problem {Q : Bool → World → Prop} {s : Sl} {f : Value} {w : World} (h : V_slices_ContainsFunc_sl_i_Problem_i_Problem Q s f w) : Calls Tryz.prog F.slices_ContainsFunc_sl_i_Problem_i_Problem #[s.v, f] w (Ret [.at .bool] Q) :=
  mkC (hint := hint) (ann := annOf []) (args := [s.v, f]) (rs := [.at .bool]) Tryz.func77 (by kernel_rfl) (by kernel_rfl) h

def V_i_problemsOk_1 (Q : Bool → World → Prop) (p_0 : Int) (p_1 : Int) (p_2 : Sl) (p_3 : Sl) (cap0 : Addr) (w : World) : Prop :=
  NEW T.t_i_Problem #[.int .i64 p_0, .int .i64 p_1, p_2.v, p_3.v] w fun (p_p : Addr) w1 =>
  LD [.int .i64, .int .i64, .sl, .sl] p_p w1 fun (x4_0 : Int) (x4_1 : Int) (x4_2 : Sl) (x4_3 : Sl) =>
  QCALL Tryz.prog F.i_IsProblem #[.agg #[.int .i64 x4_0, .int .i64 x4_1, x4_2.v, x4_3.v]] w1 [.at .bool] fun (x5 : Bool) =>
  cond (!x5) (
  ∀ w2, Ext w1 w2 →
  Q true w2) (
  LD [.int .i64] (p_p.add 1) w1 fun (x9 : Int) =>
  LD [.sl] cap0 w1 fun (x10 : Sl) =>
  IX x10 0 4 fun (px11 : Addr) =>
  LD [.int .i64] (px11.add 1) w1 fun (x13 : Int) =>
  ∀ w3, Ext w1 w3 →
  Q ((x9 : Int) != x13) w3)

theorem C_i_problemsOk_1 {Q : Bool → World → Prop} {p_0 : Int} {p_1 : Int} {p_2 : Sl} {p_3 : Sl} {cap0 : Addr} {w : World} (h : V_i_problemsOk_1 Q p_0 p_1 p_2 p_3 cap0 w) : Calls Tryz.prog F.i_problemsOk_1 #[.agg #[.int .i64 p_0, .int .i64 p_1, p_2.v, p_3.v], .pointer (some cap0)] w (Ret [.at .bool] Q) :=
  mkC (hint := hint) (ann := annOf []) (args := [.agg #[.int .i64 p_0, .int .i64 p_1, p_2.v, p_3.v], .pointer (some cap0)]) (rs := [.at .bool]) Tryz.func78 (by kernel_rfl) (by kernel_rfl) h

def V_i_IsProblem (Q : Bool → World → Prop) (p_0 : Int) (p_1 : Int) (p_2 : Sl) (p_3 : Sl) (w : World) : Prop :=
  NEW T.t_i_Problem #[.int .i64 p_0, .int .i64 p_1, p_2.v, p_3.v] w fun (p_p : Addr) w1 =>
  LD [.int .i64] (p_p.add 0) w1 fun (x4 : Int) =>
  Calls Tryz.prog F.i_within #[.int .i64 x4, .int .i64 1, .int .i64 8] w1 (Ret [.at .bool] fun (x5 : Bool) w2 =>
  cond x5 (
  LD [.int .i64] (p_p.add 1) w2 fun (x8 : Int) =>
  Calls Tryz.prog F.i_within #[.int .i64 x8, .int .i64 1, .int .i64 4] w2 (Ret [.at .bool] fun (x9 : Bool) w3 =>
  cond x9 (
  LD [.sl] (p_p.add 2) w3 fun (x13 : Sl) =>
  LD [.int .i64] (p_p.add 1) w3 fun (x15 : Int) =>
  LD [.int .i64] (p_p.add 0) w3 fun (x17 : Int) =>
  Calls Tryz.prog F.i_configurationsOk #[x13.v, .int .i64 x15, .int .i64 x17] w3 (Ret [.at .bool] fun (x18 : Bool) w4 =>
  cond x18 (
  LD [.sl] (p_p.add 3) w4 fun (x22 : Sl) =>
  LD [.int .i64] (p_p.add 0) w4 fun (x24 : Int) =>
  Calls Tryz.prog F.i_configurationsOk #[x22.v, .int .i64 2, .int .i64 x24] w4 (Ret [.at .bool] fun (x25 : Bool) w5 =>
  Q x25 w5)) (
  Q false w4))) (
  Q false w3))) (
  Q false w2))

theorem C_i_IsProblem {Q : Bool → World → Prop} {p_0 : Int} {p_1 : Int} {p_2 : Sl} {p_3 : Sl} {w : World} (h : V_i_IsProblem Q p_0 p_1 p_2 p_3 w) : Calls Tryz.prog F.i_IsProblem #[.agg #[.int .i64 p_0, .int .i64 p_1, p_2.v, p_3.v]] w (Ret [.at .bool] Q) :=
  mkC (hint := hint) (ann := annOf []) (args := [.agg #[.int .i64 p_0, .int .i64 p_1, p_2.v, p_3.v]]) (rs := [.at .bool]) Tryz.func79 (by kernel_rfl) (by kernel_rfl) h

def V_i_eliminate (Q : Int → Int → Sl → Sl → Sl → Sl → Bool → World → Prop) (p_0 : Int) (p_1 : Int) (p_2 : Sl) (p_3 : Sl) (w : World) : Prop :=
  NEW T.t_i_Problem #[.int .i64 p_0, .int .i64 p_1, p_2.v, p_3.v] w fun (p_p : Addr) w1 =>
  NEW T.t_i_Problem #[.int .i64 0, .int .i64 0, .slice none 0 0, .slice none 0 0] w1 fun (px2 : Addr) w2 =>
  LD [.int .i64, .int .i64, .sl, .sl] p_p w2 fun (x12_0 : Int) (x12_1 : Int) (x12_2 : Sl) (x12_3 : Sl) =>
  Calls Tryz.prog F.i_edgeStep #[.agg #[.int .i64 x12_0, .int .i64 x12_1, x12_2.v, x12_3.v]] w2 (Ret [.agg [.int .i64, .int .i64, .sl, .sl], .at .sl, .at .bool] fun (x13_0_0 : Int) (x13_0_1 : Int) (x13_0_2 : Sl) (x13_0_3 : Sl) (x13_1 : Sl) (x13_2 : Bool) w3 =>
  NEW T.t_i_Problem #[.int .i64 0, .int .i64 0, .slice none 0 0, .slice none 0 0] w3 fun (p_q : Addr) w4 =>
  ST p_q 0 [.int .i64 x13_0_0, .int .i64 x13_0_1, x13_0_2.v, x13_0_3.v] w4 fun w5 =>
  cond (!x13_2) (
  ST px2 0 [.int .i64 0, .int .i64 0, .slice none 0 0, .slice none 0 0] w5 fun w6 =>
  LD [.int .i64, .int .i64, .sl, .sl] px2 w6 fun (r0_0 : Int) (r0_1 : Int) (r0_2 : Sl) (r0_3 : Sl) =>
  Q r0_0 r0_1 r0_2 r0_3 (⟨none, 0, 0⟩) (⟨none, 0, 0⟩) false w6) (
  LD [.int .i64, .int .i64, .sl, .sl] p_q w5 fun (x21_0 : Int) (x21_1 : Int) (x21_2 : Sl) (x21_3 : Sl) =>
  Calls Tryz.prog F.i_nodeStep #[.agg #[.int .i64 x21_0, .int .i64 x21_1, x21_2.v, x21_3.v]] w5 (Ret [.agg [.int .i64, .int .i64, .sl, .sl], .at .sl, .at .bool] fun (x22_0_0 : Int) (x22_0_1 : Int) (x22_0_2 : Sl) (x22_0_3 : Sl) (x22_1 : Sl) (x22_2 : Bool) w7 =>
  NEW T.t_i_Problem #[.int .i64 0, .int .i64 0, .slice none 0 0, .slice none 0 0] w7 fun (p_r : Addr) w8 =>
  ST p_r 0 [.int .i64 x22_0_0, .int .i64 x22_0_1, x22_0_2.v, x22_0_3.v] w8 fun w9 =>
  cond (!x22_2) (
  ST px2 0 [.int .i64 0, .int .i64 0, .slice none 0 0, .slice none 0 0] w9 fun w10 =>
  LD [.int .i64, .int .i64, .sl, .sl] px2 w10 fun (r0_0_2 : Int) (r0_1_2 : Int) (r0_2_2 : Sl) (r0_3_2 : Sl) =>
  Q r0_0_2 r0_1_2 r0_2_2 r0_3_2 (⟨none, 0, 0⟩) (⟨none, 0, 0⟩) false w10) (
  LD [.int .i64, .int .i64, .sl, .sl] p_r w9 fun (x29_0 : Int) (x29_1 : Int) (x29_2 : Sl) (x29_3 : Sl) =>
  ST px2 0 [.int .i64 x29_0, .int .i64 x29_1, x29_2.v, x29_3.v] w9 fun w11 =>
  LD [.int .i64, .int .i64, .sl, .sl] px2 w11 fun (r0_0_3 : Int) (r0_1_3 : Int) (r0_2_3 : Sl) (r0_3_3 : Sl) =>
  Q r0_0_3 r0_1_3 r0_2_3 r0_3_3 x13_1 x22_1 true w11))))

theorem C_i_eliminate {Q : Int → Int → Sl → Sl → Sl → Sl → Bool → World → Prop} {p_0 : Int} {p_1 : Int} {p_2 : Sl} {p_3 : Sl} {w : World} (h : V_i_eliminate Q p_0 p_1 p_2 p_3 w) : Calls Tryz.prog F.i_eliminate #[.agg #[.int .i64 p_0, .int .i64 p_1, p_2.v, p_3.v]] w (Ret [.agg [.int .i64, .int .i64, .sl, .sl], .at .sl, .at .sl, .at .bool] Q) :=
  mkC (hint := hint) (ann := annOf []) (args := [.agg #[.int .i64 p_0, .int .i64 p_1, p_2.v, p_3.v]]) (rs := [.agg [.int .i64, .int .i64, .sl, .sl], .at .sl, .at .sl, .at .bool]) Tryz.func80 (by kernel_rfl) (by kernel_rfl) h

def V_i_isLabelMap_k1 (Q : Bool → World → Prop) (p_p : Addr) (p_q : Addr) (p_f : Addr) (w5 : World) : Prop :=
  LD [.sl] (p_p.add 2) w5 fun (x21 : Sl) =>
  ∃ (I4 : Int → World → Prop) (m4 : Int → World → Nat), I4 0 w5 ∧ ∀ (x23 : Int) w6, I4 x23 w6 → ∀ _ _ _ _ _ _ _ _ _ _ _ _ : Value,
  cond (decide ((x23 : Int) < x21.len)) (
  IX x21 x23 1 fun (px25 : Addr) =>
  LD [.sl] px25 w6 fun (x26 : Sl) =>
  ∀ w7, Ext w6 w7 → w7.heap = w6.heap →
  LD [.int .i64, .int .i64, .sl, .sl] p_q w7 fun (x27_0 : Int) (x27_1 : Int) (x27_2 : Sl) (x27_3 : Sl) =>
  LD [.sl] p_f w7 fun (x29 : Sl) =>
  Ext w7 w7 ∧ (
  Calls Tryz.prog F.i_images #[x26.v, x29.v] w7 (Ret [.at .sl] fun (x30 : Sl) w8 =>
  Ext w7 w8 ∧ (
  Calls Tryz.prog F.i_Problem_node #[.agg #[.int .i64 x27_0, .int .i64 x27_1, x27_2.v, x27_3.v], x30.v] w8 (Ret [.at .bool] fun (x31 : Bool) w9 =>
  Ext w7 w9 ∧ (
  Ext w7 w9 ∧ (
  cond (!x31) (
  Q false w9) (
  I4 (IntKind.i64.wrap (x23 + 1)) w9 ∧ m4 (IntKind.i64.wrap (x23 + 1)) w9 < m4 x23 w6)))))))) (
  LD [.sl] (p_p.add 3) w6 fun (x35 : Sl) =>
  Calls Tryz.prog F.slices_ContainsFunc_sl_sl_int_sl_int #[x35.v, .func (.func F.i_isLabelMap_1) #[] #[.pointer (some p_q), .pointer (some p_f)]] w6 (Ret [.at .bool] fun (x37 : Bool) w10 =>
  Q (!x37) w10))

def V_i_isLabelMap (Q : Bool → World → Prop) (p_0 : Int) (p_1 : Int) (p_2 : Sl) (p_3 : Sl) (q_0 : Int) (q_1 : Int) (q_2 : Sl) (q_3 : Sl) (f : Sl) (w : World) : Prop :=
  NEW T.t_i_Problem #[.int .i64 p_0, .int .i64 p_1, p_2.v, p_3.v] w fun (p_p : Addr) w1 =>
  NEW T.t_i_Problem #[.int .i64 q_0, .int .i64 q_1, q_2.v, q_3.v] w1 fun (p_q : Addr) w2 =>
  NEW T.t_sl_int #[f.v] w2 fun (p_f : Addr) w3 =>
  LD [.sl] p_f w3 fun (x9 : Sl) =>
  LD [.int .i64] (p_p.add 0) w3 fun (x12 : Int) =>
  cond ((x9.len : Int) != x12) (
  Q false w3) (
  LD [.int .i64, .int .i64, .sl, .sl] p_q w3 fun (x15_0 : Int) (x15_1 : Int) (x15_2 : Sl) (x15_3 : Sl) =>
  LD [.sl] p_f w3 fun (x16 : Sl) =>
  Calls Tryz.prog F.i_Problem_hasLabels #[.agg #[.int .i64 x15_0, .int .i64 x15_1, x15_2.v, x15_3.v], x16.v] w3 (Ret [.at .bool] fun (x17 : Bool) w4 =>
  cond (!x17) (
  Q false w4) (
  V_i_isLabelMap_k1 Q p_p p_q p_f w4)))

theorem C_i_isLabelMap {Q : Bool → World → Prop} {p_0 : Int} {p_1 : Int} {p_2 : Sl} {p_3 : Sl} {q_0 : Int} {q_1 : Int} {q_2 : Sl} {q_3 : Sl} {f : Sl} {w : World} (h : V_i_isLabelMap Q p_0 p_1 p_2 p_3 q_0 q_1 q_2 q_3 f w) : Calls Tryz.prog F.i_isLabelMap #[.agg #[.int .i64 p_0, .int .i64 p_1, p_2.v, p_3.v], .agg #[.int .i64 q_0, .int .i64 q_1, q_2.v, q_3.v], f.v] w (Ret [.at .bool] Q) :=
  mkC (hint := hint) (ann := annOf [(4, ⟨[(23, .int .i64)], [6, 8, 24, 25, 26, 27, 28, 29, 30, 31, 32, 33]⟩)]) (args := [.agg #[.int .i64 p_0, .int .i64 p_1, p_2.v, p_3.v], .agg #[.int .i64 q_0, .int .i64 q_1, q_2.v, q_3.v], f.v]) (rs := [.at .bool]) Tryz.func81 (by kernel_rfl) (by kernel_rfl) h

def V_i_isZeroRefusal (Q : Bool → World → Prop) (p_0 : Int) (p_1 : Int) (p_2 : Sl) (p_3 : Sl) (pairs : Sl) (w : World) : Prop :=
  NEW T.t_i_Problem #[.int .i64 p_0, .int .i64 p_1, p_2.v, p_3.v] w fun (p_p : Addr) w1 =>
  LD [.sl] (p_p.add 2) w1 fun (x10 : Sl) =>
  cond ((pairs.len : Int) != x10.len) (
  Q false w1) (
  ∃ (I4 : Int → World → Prop) (m4 : Int → World → Nat), I4 0 w1 ∧ ∀ (x15 : Int) w2, I4 x15 w2 → ∀ _ _ _ _ _ _ _ _ _ _ _ _ _ _ _ _ _ _ _ _ _ _ _ _ _ _ _ _ _ _ _ _ _ _ _ _ _ _ _ _ _ _ _ _ _ : Value,
  cond (decide ((x15 : Int) < pairs.len)) (
  IX pairs x15 1 fun (px18 : Addr) =>
  LD [.sl] px18 w2 fun (x19 : Sl) =>
  cond ((x19.len : Int) != 2) (
  ∀ w3, Ext w2 w3 →
  Q false w3) (
  LD [.sl] (p_p.add 2) w2 fun (x25 : Sl) =>
  IX x25 x15 1 fun (px27 : Addr) =>
  LD [.sl] px27 w2 fun (x28 : Sl) =>
  IX x19 0 1 fun (px30 : Addr) =>
  LD [.int .i64] px30 w2 fun (x31 : Int) =>
  QCALL Tryz.prog F.slices_Contains_sl_int_int #[x28.v, .int .i64 x31] w2 [.at .bool] fun (x32 : Bool) =>
  cond (!x32) (
  ∀ w4, Ext w2 w4 →
  Q false w4) (
  LD [.sl] (p_p.add 2) w2 fun (x37 : Sl) =>
  IX x37 x15 1 fun (px39 : Addr) =>
  LD [.sl] px39 w2 fun (x40 : Sl) =>
  IX x19 1 1 fun (px42 : Addr) =>
  LD [.int .i64] px42 w2 fun (x43 : Int) =>
  QCALL Tryz.prog F.slices_Contains_sl_int_int #[x40.v, .int .i64 x43] w2 [.at .bool] fun (x44 : Bool) =>
  cond (!x44) (
  ∀ w5, Ext w2 w5 →
  Q false w5) (
  LD [.int .i64, .int .i64, .sl, .sl] p_p w2 fun (x48_0 : Int) (x48_1 : Int) (x48_2 : Sl) (x48_3 : Sl) =>
  IX x19 0 1 fun (px50 : Addr) =>
  LD [.int .i64] px50 w2 fun (x51 : Int) =>
  IX x19 1 1 fun (px53 : Addr) =>
  LD [.int .i64] px53 w2 fun (x54 : Int) =>
  QCALL Tryz.prog F.i_Problem_edge #[.agg #[.int .i64 x48_0, .int .i64 x48_1, x48_2.v, x48_3.v], .int .i64 x51, .int .i64 x54] w2 [.at .bool] fun (x55 : Bool) =>
  ∀ w6, Ext w2 w6 →
  cond x55 (
  Q false w6) (
  I4 (IntKind.i64.wrap (x15 + 1)) w6 ∧ m4 (IntKind.i64.wrap (x15 + 1)) w6 < m4 x15 w2))))) (
  Q true w2))

theorem C_i_isZeroRefusal {Q : Bool → World → Prop} {p_0 : Int} {p_1 : Int} {p_2 : Sl} {p_3 : Sl} {pairs : Sl} {w : World} (h : V_i_isZeroRefusal Q p_0 p_1 p_2 p_3 pairs w) : Calls Tryz.prog F.i_isZeroRefusal #[.agg #[.int .i64 p_0, .int .i64 p_1, p_2.v, p_3.v], pairs.v] w (Ret [.at .bool] Q) :=
  mkC (hint := hint) (ann := annOf [(4, ⟨[(15, .int .i64)], [4, 5, 6, 16, 17, 18, 19, 20, 21, 22, 23, 24, 25, 26, 27, 28, 29, 30, 31, 32, 33, 34, 35, 36, 37, 38, 39, 40, 41, 42, 43, 44, 45, 46, 47, 48, 49, 50, 51, 52, 53, 54, 55, 56, 57]⟩)]) (args := [.agg #[.int .i64 p_0, .int .i64 p_1, p_2.v, p_3.v], pairs.v]) (rs := [.at .bool]) Tryz.func82 (by kernel_rfl) (by kernel_rfl) h

def V_s_EliminateRound (Q : Int → Int → Sl → Sl → Sl → Sl → Bool → World → Prop) (p_0 : Int) (p_1 : Int) (p_2 : Sl) (p_3 : Sl) (w : World) : Prop :=
  NEW T.t_i_Problem #[.int .i64 p_0, .int .i64 p_1, p_2.v, p_3.v] w fun (p_p : Addr) w1 =>
  NEW T.t_i_Problem #[.int .i64 0, .int .i64 0, .slice none 0 0, .slice none 0 0] w1 fun (px2 : Addr) w2 =>
  LD [.int .i64, .int .i64, .sl, .sl] p_p w2 fun (x13_0 : Int) (x13_1 : Int) (x13_2 : Sl) (x13_3 : Sl) =>
  Calls Tryz.prog F.s_EdgeStep #[.agg #[.int .i64 x13_0, .int .i64 x13_1, x13_2.v, x13_3.v]] w2 (Ret [.agg [.int .i64, .int .i64, .sl, .sl], .at .sl, .at .bool] fun (x14_0_0 : Int) (x14_0_1 : Int) (x14_0_2 : Sl) (x14_0_3 : Sl) (x14_1 : Sl) (x14_2 : Bool) w3 =>
  NEW T.t_i_Problem #[.int .i64 0, .int .i64 0, .slice none 0 0, .slice none 0 0] w3 fun (p_q : Addr) w4 =>
  ST p_q 0 [.int .i64 x14_0_0, .int .i64 x14_0_1, x14_0_2.v, x14_0_3.v] w4 fun w5 =>
  cond (!x14_2) (
  ST px2 0 [.int .i64 0, .int .i64 0, .slice none 0 0, .slice none 0 0] w5 fun w6 =>
  LD [.int .i64, .int .i64, .sl, .sl] px2 w6 fun (r0_0 : Int) (r0_1 : Int) (r0_2 : Sl) (r0_3 : Sl) =>
  Q r0_0 r0_1 r0_2 r0_3 (⟨none, 0, 0⟩) (⟨none, 0, 0⟩) false w6) (
  LD [.int .i64, .int .i64, .sl, .sl] p_q w5 fun (x22_0 : Int) (x22_1 : Int) (x22_2 : Sl) (x22_3 : Sl) =>
  Calls Tryz.prog F.s_elNode #[.agg #[.int .i64 x22_0, .int .i64 x22_1, x22_2.v, x22_3.v]] w5 (Ret [.agg [.int .i64, .int .i64, .sl, .sl], .at .sl, .at .bool] fun (x23_0_0 : Int) (x23_0_1 : Int) (x23_0_2 : Sl) (x23_0_3 : Sl) (x23_1 : Sl) (x23_2 : Bool) w7 =>
  NEW T.t_i_Problem #[.int .i64 0, .int .i64 0, .slice none 0 0, .slice none 0 0] w7 fun (p_r : Addr) w8 =>
  ST p_r 0 [.int .i64 x23_0_0, .int .i64 x23_0_1, x23_0_2.v, x23_0_3.v] w8 fun w9 =>
  cond (!x23_2) (
  ST px2 0 [.int .i64 0, .int .i64 0, .slice none 0 0, .slice none 0 0] w9 fun w10 =>
  LD [.int .i64, .int .i64, .sl, .sl] px2 w10 fun (r0_0_2 : Int) (r0_1_2 : Int) (r0_2_2 : Sl) (r0_3_2 : Sl) =>
  Q r0_0_2 r0_1_2 r0_2_2 r0_3_2 (⟨none, 0, 0⟩) (⟨none, 0, 0⟩) false w10) (
  LD [.int .i64, .int .i64, .sl, .sl] p_r w9 fun (x30_0 : Int) (x30_1 : Int) (x30_2 : Sl) (x30_3 : Sl) =>
  ST px2 0 [.int .i64 x30_0, .int .i64 x30_1, x30_2.v, x30_3.v] w9 fun w11 =>
  LD [.int .i64, .int .i64, .sl, .sl] px2 w11 fun (r0_0_3 : Int) (r0_1_3 : Int) (r0_2_3 : Sl) (r0_3_3 : Sl) =>
  Q r0_0_3 r0_1_3 r0_2_3 r0_3_3 x14_1 x23_1 true w11))))

theorem C_s_EliminateRound {Q : Int → Int → Sl → Sl → Sl → Sl → Bool → World → Prop} {p_0 : Int} {p_1 : Int} {p_2 : Sl} {p_3 : Sl} {w : World} (h : V_s_EliminateRound Q p_0 p_1 p_2 p_3 w) : Calls Tryz.prog F.s_EliminateRound #[.agg #[.int .i64 p_0, .int .i64 p_1, p_2.v, p_3.v]] w (Ret [.agg [.int .i64, .int .i64, .sl, .sl], .at .sl, .at .sl, .at .bool] Q) :=
  mkC (hint := hint) (ann := annOf []) (args := [.agg #[.int .i64 p_0, .int .i64 p_1, p_2.v, p_3.v]]) (rs := [.agg [.int .i64, .int .i64, .sl, .sl], .at .sl, .at .sl, .at .bool]) Tryz.func85 (by kernel_rfl) (by kernel_rfl) h

def V_s_l1All (Q : Bool → World → Prop) (l : Sl) (lo : Int) (hi : Int) (w : World) : Prop :=
  ∃ (I2 : Int → World → Prop) (m2 : Int → World → Nat), I2 0 w ∧ ∀ (x11 : Int) w1, I2 x11 w1 → ∀ _ _ _ _ _ _ _ _ _ _ _ : Value,
  cond (decide ((x11 : Int) < l.len)) (
  IX l x11 1 fun (px13 : Addr) =>
  LD [.int .i64] px13 w1 fun (x14 : Int) =>
  Calls Tryz.prog F.s_l1In #[.int .i64 x14, .int .i64 lo, .int .i64 hi] w1 (Ret [.at .bool] fun (x18 : Bool) w2 =>
  cond (!x18) (
  Q false w2) (
  I2 (IntKind.i64.wrap (x11 + 1)) w2 ∧ m2 (IntKind.i64.wrap (x11 + 1)) w2 < m2 x11 w1))) (
  Q true w1)

theorem C_s_l1All {Q : Bool → World → Prop} {l : Sl} {lo : Int} {hi : Int} {w : World} (h : V_s_l1All Q l lo hi w) : Calls Tryz.prog F.s_l1All #[l.v, .int .i64 lo, .int .i64 hi] w (Ret [.at .bool] Q) :=
  mkC (hint := hint) (ann := annOf [(2, ⟨[(11, .int .i64)], [6, 8, 12, 13, 14, 15, 16, 17, 18, 19, 20]⟩)]) (args := [l.v, .int .i64 lo, .int .i64 hi]) (rs := [.at .bool]) Tryz.func87 (by kernel_rfl) (by kernel_rfl) h

def V_s_EdgeStep (Q : Int → Int → Sl → Sl → Sl → Bool → World → Prop) (p_0 : Int) (p_1 : Int) (p_2 : Sl) (p_3 : Sl) (w : World) : Prop :=
  NEW T.t_i_Problem #[.int .i64 p_0, .int .i64 p_1, p_2.v, p_3.v] w fun (p_p : Addr) w1 =>
  NEW T.t_i_Problem #[.int .i64 0, .int .i64 0, .slice none 0 0, .slice none 0 0] w1 fun (px2 : Addr) w2 =>
  LD [.int .i64, .int .i64, .sl, .sl] p_p w2 fun (x5_0 : Int) (x5_1 : Int) (x5_2 : Sl) (x5_3 : Sl) =>
  Calls Tryz.prog F.s_prGood #[.agg #[.int .i64 x5_0, .int .i64 x5_1, x5_2.v, x5_3.v]] w2 (Ret [.at .bool] fun (x6 : Bool) w3 =>
  cond (!x6) (
  ST px2 0 [.int .i64 0, .int .i64 0, .slice none 0 0, .slice none 0 0] w3 fun w4 =>
  LD [.int .i64, .int .i64, .sl, .sl] px2 w4 fun (r0_0 : Int) (r0_1 : Int) (r0_2 : Sl) (r0_3 : Sl) =>
  Q r0_0 r0_1 r0_2 r0_3 (⟨none, 0, 0⟩) false w4) (
  LD [.int .i64, .int .i64, .sl, .sl] p_p w3 fun (x9_0 : Int) (x9_1 : Int) (x9_2 : Sl) (x9_3 : Sl) =>
  Calls Tryz.prog F.s_elEdge #[.agg #[.int .i64 x9_0, .int .i64 x9_1, x9_2.v, x9_3.v]] w3 (Ret [.agg [.int .i64, .int .i64, .sl, .sl], .at .sl, .at .bool] fun (x10_0_0 : Int) (x10_0_1 : Int) (x10_0_2 : Sl) (x10_0_3 : Sl) (x10_1 : Sl) (x10_2 : Bool) w5 =>
  ST px2 0 [.int .i64 x10_0_0, .int .i64 x10_0_1, x10_0_2.v, x10_0_3.v] w5 fun w6 =>
  LD [.int .i64, .int .i64, .sl, .sl] px2 w6 fun (r0_0_2 : Int) (r0_1_2 : Int) (r0_2_2 : Sl) (r0_3_2 : Sl) =>
  Q r0_0_2 r0_1_2 r0_2_2 r0_3_2 x10_1 x10_2 w6)))

theorem C_s_EdgeStep {Q : Int → Int → Sl → Sl → Sl → Bool → World → Prop} {p_0 : Int} {p_1 : Int} {p_2 : Sl} {p_3 : Sl} {w : World} (h : V_s_EdgeStep Q p_0 p_1 p_2 p_3 w) : Calls Tryz.prog F.s_EdgeStep #[.agg #[.int .i64 p_0, .int .i64 p_1, p_2.v, p_3.v]] w (Ret [.agg [.int .i64, .int .i64, .sl, .sl], .at .sl, .at .bool] Q) :=
  mkC (hint := hint) (ann := annOf []) (args := [.agg #[.int .i64 p_0, .int .i64 p_1, p_2.v, p_3.v]]) (rs := [.agg [.int .i64, .int .i64, .sl, .sl], .at .sl, .at .bool]) Tryz.func90 (by kernel_rfl) (by kernel_rfl) h

def V_slices_Equal_sl_int_int (Q : Bool → World → Prop) (s1 : Sl) (s2 : Sl) (w : World) : Prop :=
  cond ((s1.len : Int) != s2.len) (
  Q false w) (
  ∃ (I4 : Int → World → Prop) (m4 : Int → World → Nat), I4 0 w ∧ ∀ (x13 : Int) w1, I4 x13 w1 → ∀ _ _ _ _ _ _ _ _ _ _ _ _ _ _ : Value,
  cond (decide ((x13 : Int) < s1.len)) (
  IX s1 x13 1 fun (px18 : Addr) =>
  LD [.int .i64] px18 w1 fun (x19 : Int) =>
  IX s2 x13 1 fun (px22 : Addr) =>
  LD [.int .i64] px22 w1 fun (x23 : Int) =>
  ∀ w2, Ext w1 w2 →
  cond ((x19 : Int) != x23) (
  Q false w2) (
  I4 (IntKind.i64.wrap (x13 + 1)) w2 ∧ m4 (IntKind.i64.wrap (x13 + 1)) w2 < m4 x13 w1)) (
  Q true w1))

theorem C_slices_Equal_sl_int_int {Q : Bool → World → Prop} {s1 : Sl} {s2 : Sl} {w : World} (h : V_slices_Equal_sl_int_int Q s1 s2 w) : Calls Tryz.prog F.slices_Equal_sl_int_int #[s1.v, s2.v] w (Ret [.at .bool] Q) :=
  mkC (hint := hint) (ann := annOf [(4, ⟨[(13, .int .i64)], [4, 5, 14, 15, 16, 17, 18, 19, 20, 21, 22, 23, 24, 25]⟩)]) (args := [s1.v, s2.v]) (rs := [.at .bool]) Tryz.func115 (by kernel_rfl) (by kernel_rfl) h

def V_s_prLists_k4 (I2 : Int → World → Prop) (m2 : Int → World → Nat) (x12 : Int) (w1 : World) (size1 : Int) (Q : Bool → World → Prop) (x16 : Sl) (w4 : World) : Prop :=
  ∃ (I7 : Int → World → Prop) (m7 : Int → World → Nat), I7 1 w4 ∧ ∀ (k : Int) w5, I7 k w5 → ∀ _ _ _ _ _ _ _ _ _ _ _ _ _ _ _ _ : Value,
  cond (decide ((k : Int) < size1)) (
  IX x16 (IntKind.i64.wrap (k - 1)) 1 fun (px50 : Addr) =>
  LD [.int .i64] px50 w5 fun (x51 : Int) =>
  IX x16 k 1 fun (px54 : Addr) =>
  LD [.int .i64] px54 w5 fun (x55 : Int) =>
  ∀ w6, Ext w5 w6 →
  cond (decide ((x51 : Int) > x55)) (
  Q false w6) (
  I7 (IntKind.i64.wrap (k + 1)) w6 ∧ m7 (IntKind.i64.wrap (k + 1)) w6 < m7 k w5)) (
  I2 (IntKind.i64.wrap (x12 + 1)) w5 ∧ m2 (IntKind.i64.wrap (x12 + 1)) w5 < m2 x12 w1)

def V_s_prLists (Q : Bool → World → Prop) (l : Sl) (size1 : Int) (labels : Int) (w : World) : Prop :=
  ∃ (I2 : Int → World → Prop) (m2 : Int → World → Nat), I2 0 w ∧ ∀ (x12 : Int) w1, I2 x12 w1 → ∀ _ _ _ _ _ _ _ _ _ _ _ _ _ _ _ _ _ _ _ _ _ _ _ _ _ _ _ _ _ _ _ _ _ _ _ _ _ _ _ _ _ _ _ _ _ _ _ _ _ : Value,
  cond (decide ((x12 : Int) < l.len)) (
  IX l x12 1 fun (px15 : Addr) =>
  LD [.sl] px15 w1 fun (x16 : Sl) =>
  cond ((x16.len : Int) != size1) (
  Q false w1) (
  Calls Tryz.prog F.s_l1All #[x16.v, .int .i64 0, .int .i64 (IntKind.i64.wrap (labels - 1))] w1 (Ret [.at .bool] fun (x25 : Bool) w2 =>
  cond (!x25) (
  Q false w2) (
  cond (decide ((x12 : Int) > 0)) (
  IX l (IntKind.i64.wrap (x12 - 1)) 1 fun (px35 : Addr) =>
  LD [.sl] px35 w2 fun (x36 : Sl) =>
  Calls Tryz.prog F.s_prOrder #[x36.v, x16.v] w2 (Ret [.at (.int .i64)] fun (x38 : Int) w3 =>
  cond (decide ((x38 : Int) ≥ 0)) (
  Q false w3) (
  V_s_prLists_k4 I2 m2 x12 w1 size1 Q x16 w3))) (
  V_s_prLists_k4 I2 m2 x12 w1 size1 Q x16 w2))))) (
  Q true w1)

theorem C_s_prLists {Q : Bool → World → Prop} {l : Sl} {size1 : Int} {labels : Int} {w : World} (h : V_s_prLists Q l size1 labels w) : Calls Tryz.prog F.s_prLists #[l.v, .int .i64 size1, .int .i64 labels] w (Ret [.at .bool] Q) :=
  mkC (hint := hint) (ann := annOf [(2, ⟨[(12, .int .i64)], [6, 7, 8, 9, 13, 14, 15, 16, 17, 18, 19, 20, 21, 22, 23, 24, 25, 26, 27, 28, 29, 30, 31, 32, 33, 34, 35, 36, 37, 38, 39, 40, 41, 42, 43, 44, 45, 46, 47, 48, 49, 50, 51, 52, 53, 54, 55, 56, 57]⟩), (7, ⟨[(9, .int .i64)], [6, 42, 43, 44, 45, 46, 47, 48, 49, 50, 51, 52, 53, 54, 55, 56]⟩)]) (args := [l.v, .int .i64 size1, .int .i64 labels]) (rs := [.at .bool]) Tryz.func117 (by kernel_rfl) (by kernel_rfl) h

def V_s_CheckZeroRefusal (Q : Bool → Bool → World → Prop) (p_0 : Int) (p_1 : Int) (p_2 : Sl) (p_3 : Sl) (pairs : Sl) (w : World) : Prop :=
  NEW T.t_i_Problem #[.int .i64 p_0, .int .i64 p_1, p_2.v, p_3.v] w fun (p_p : Addr) w1 =>
  LD [.int .i64, .int .i64, .sl, .sl] p_p w1 fun (x8_0 : Int) (x8_1 : Int) (x8_2 : Sl) (x8_3 : Sl) =>
  Calls Tryz.prog F.s_prGood #[.agg #[.int .i64 x8_0, .int .i64 x8_1, x8_2.v, x8_3.v]] w1 (Ret [.at .bool] fun (x9 : Bool) w2 =>
  cond (!x9) (
  Q false false w2) (
  LD [.sl] (p_p.add 2) w2 fun (x14 : Sl) =>
  cond ((pairs.len : Int) != x14.len) (
  Q false true w2) (
  LD [.sl] (p_p.add 2) w2 fun (x18 : Sl) =>
  ∃ (I6 : Int → World → Prop) (m6 : Int → World → Nat), I6 0 w2 ∧ ∀ (x20 : Int) w3, I6 x20 w3 → ∀ _ _ _ _ _ _ _ _ _ _ _ _ _ _ _ _ _ _ : Value,
  cond (decide ((x20 : Int) < x18.len)) (
  IX x18 x20 1 fun (px23 : Addr) =>
  LD [.sl] px23 w3 fun (x24 : Sl) =>
  LD [.int .i64, .int .i64, .sl, .sl] p_p w3 fun (x25_0 : Int) (x25_1 : Int) (x25_2 : Sl) (x25_3 : Sl) =>
  IX pairs x20 1 fun (px28 : Addr) =>
  LD [.sl] px28 w3 fun (x29 : Sl) =>
  QCALL Tryz.prog F.s_zeTwo #[.agg #[.int .i64 x25_0, .int .i64 x25_1, x25_2.v, x25_3.v], x29.v, x24.v, x24.v] w3 [.at .bool] fun (x32 : Bool) =>
  ∀ w4, Ext w3 w4 →
  cond (!x32) (
  Q false true w4) (
  I6 (IntKind.i64.wrap (x20 + 1)) w4 ∧ m6 (IntKind.i64.wrap (x20 + 1)) w4 < m6 x20 w3)) (
  Q true true w3))))

theorem C_s_CheckZeroRefusal {Q : Bool → Bool → World → Prop} {p_0 : Int} {p_1 : Int} {p_2 : Sl} {p_3 : Sl} {pairs : Sl} {w : World} (h : V_s_CheckZeroRefusal Q p_0 p_1 p_2 p_3 pairs w) : Calls Tryz.prog F.s_CheckZeroRefusal #[.agg #[.int .i64 p_0, .int .i64 p_1, p_2.v, p_3.v], pairs.v] w (Ret [.at .bool, .at .bool] Q) :=
  mkC (hint := hint) (ann := annOf [(6, ⟨[(20, .int .i64)], [4, 5, 6, 7, 21, 22, 23, 24, 25, 26, 27, 28, 29, 30, 31, 32, 33, 34]⟩)]) (args := [.agg #[.int .i64 p_0, .int .i64 p_1, p_2.v, p_3.v], pairs.v]) (rs := [.at .bool, .at .bool]) Tryz.func118 (by kernel_rfl) (by kernel_rfl) h

def V_s_reMap (Q : Bool → World → Prop) (p_0 : Int) (p_1 : Int) (p_2 : Sl) (p_3 : Sl) (q_0 : Int) (q_1 : Int) (q_2 : Sl) (q_3 : Sl) (f : Sl) (w : World) : Prop :=
  NEW T.t_i_Problem #[.int .i64 p_0, .int .i64 p_1, p_2.v, p_3.v] w fun (p_p : Addr) w1 =>
  NEW T.t_i_Problem #[.int .i64 q_0, .int .i64 q_1, q_2.v, q_3.v] w1 fun (p_q : Addr) w2 =>
  LD [.int .i64] (p_p.add 0) w2 fun (x10 : Int) =>
  cond ((f.len : Int) == x10) (
  LD [.int .i64] (p_q.add 0) w2 fun (x15 : Int) =>
  Calls Tryz.prog F.s_l1All #[f.v, .int .i64 0, .int .i64 (IntKind.i64.wrap (x15 - 1))] w2 (Ret [.at .bool] fun (x17 : Bool) w3 =>
  cond x17 (
  LD [.sl] (p_p.add 2) w3 fun (x21 : Sl) =>
  LD [.sl] (p_q.add 2) w3 fun (x23 : Sl) =>
  Calls Tryz.prog F.s_reInto #[x21.v, x23.v, f.v] w3 (Ret [.at .bool] fun (x25 : Bool) w4 =>
  cond x25 (
  LD [.sl] (p_p.add 3) w4 fun (x29 : Sl) =>
  LD [.sl] (p_q.add 3) w4 fun (x31 : Sl) =>
  Calls Tryz.prog F.s_reInto #[x29.v, x31.v, f.v] w4 (Ret [.at .bool] fun (x33 : Bool) w5 =>
  Q x33 w5)) (
  Q false w4))) (
  Q false w3))) (
  Q false w2)

theorem C_s_reMap {Q : Bool → World → Prop} {p_0 : Int} {p_1 : Int} {p_2 : Sl} {p_3 : Sl} {q_0 : Int} {q_1 : Int} {q_2 : Sl} {q_3 : Sl} {f : Sl} {w : World} (h : V_s_reMap Q p_0 p_1 p_2 p_3 q_0 q_1 q_2 q_3 f w) : Calls Tryz.prog F.s_reMap #[.agg #[.int .i64 p_0, .int .i64 p_1, p_2.v, p_3.v], .agg #[.int .i64 q_0, .int .i64 q_1, q_2.v, q_3.v], f.v] w (Ret [.at .bool] Q) :=
  mkC (hint := hint) (ann := annOf []) (args := [.agg #[.int .i64 p_0, .int .i64 p_1, p_2.v, p_3.v], .agg #[.int .i64 q_0, .int .i64 q_1, q_2.v, q_3.v], f.v]) (rs := [.at .bool]) Tryz.func119 (by kernel_rfl) (by kernel_rfl) h

def V_slices_IndexFunc_sl_i_Problem_i_Problem (Q : Int → World → Prop) (s : Sl) (f : Value) (w : World) : Prop :=
  ∃ (I2 : Int → World → Prop) (m2 : Int → World → Nat), I2 0 w ∧ ∀ (x8 : Int) w1, I2 x8 w1 → ∀ _ _ _ _ _ _ _ _ _ _ _ _ : Value,
  cond (decide ((x8 : Int) < s.len)) (
  IX s x8 4 fun (px14 : Addr) =>
  LD [.int .i64, .int .i64, .sl, .sl] px14 w1 fun (x15_0 : Int) (x15_1 : Int) (x15_2 : Sl) (x15_3 : Sl) =>
  CALLV Tryz.prog f #[.agg #[.int .i64 x15_0, .int .i64 x15_1, x15_2.v, x15_3.v]] w1 (Ret [.at .bool] fun (x16 : Bool) w2 =>
  cond x16 (
  Q x8 w2) (
  I2 (IntKind.i64.wrap (x8 + 1)) w2 ∧ m2 (IntKind.i64.wrap (x8 + 1)) w2 < m2 x8 w1))) (
  Q (-1) w1)

theorem C_slices_IndexFunc_sl_i_Problem_i_Problem {Q : Int → World → Prop} {s : Sl} {f : Value} {w : World} (h : V_slices_IndexFunc_sl_i_Problem_i_Problem Q s f w) : Calls Tryz.prog F.slices_IndexFunc_sl_i_Problem_i_Problem #[s.v, f] w (Ret [.at (.int .i64)] Q) :=
  mkC (hint := hint) (ann := annOf [(2, ⟨[(8, .int .i64)], [4, 5, 9, 10, 11, 12, 13, 14, 15, 16, 17, 18]⟩)]) (args := [s.v, f]) (rs := [.at (.int .i64)]) Tryz.func120 (by kernel_rfl) (by kernel_rfl) h

def V_i_configurationsOk (Q : Bool → World → Prop) (list : Sl) (size1 : Int) (labels : Int) (w : World) : Prop :=
  ∃ (I2 : Int → World → Prop) (m2 : Int → World → Nat), I2 0 w ∧ ∀ (x11 : Int) w1, I2 x11 w1 → ∀ _ _ _ _ _ _ _ _ _ _ _ _ _ _ _ _ _ _ _ _ _ _ _ _ _ _ _ _ _ _ _ _ _ _ _ _ _ _ : Value,
  cond (decide ((x11 : Int) < list.len)) (
  IX list x11 1 fun (px14 : Addr) =>
  LD [.sl] px14 w1 fun (x15 : Sl) =>
  cond ((x15.len : Int) != size1) (
  Q false w1) (
  Calls Tryz.prog F.slices_IsSorted_sl_int_int #[x15.v] w1 (Ret [.at .bool] fun (x22 : Bool) w2 =>
  cond (!x22) (
  Q false w2) (
  Calls Tryz.prog F.i_allWithin #[x15.v, .int .i64 0, .int .i64 (IntKind.i64.wrap (labels - 1))] w2 (Ret [.at .bool] fun (x29 : Bool) w3 =>
  cond (!x29) (
  Q false w3) (
  cond (decide ((x11 : Int) > 0)) (
  IX list (IntKind.i64.wrap (x11 - 1)) 1 fun (px39 : Addr) =>
  LD [.sl] px39 w3 fun (x40 : Sl) =>
  Calls Tryz.prog F.slices_Compare_sl_int_int #[x40.v, x15.v] w3 (Ret [.at (.int .i64)] fun (x42 : Int) w4 =>
  cond (decide ((x42 : Int) ≥ 0)) (
  Q false w4) (
  I2 (IntKind.i64.wrap (x11 + 1)) w4 ∧ m2 (IntKind.i64.wrap (x11 + 1)) w4 < m2 x11 w1))) (
  I2 (IntKind.i64.wrap (x11 + 1)) w3 ∧ m2 (IntKind.i64.wrap (x11 + 1)) w3 < m2 x11 w1))))))) (
  Q true w1)

theorem C_i_configurationsOk {Q : Bool → World → Prop} {list : Sl} {size1 : Int} {labels : Int} {w : World} (h : V_i_configurationsOk Q list size1 labels w) : Calls Tryz.prog F.i_configurationsOk #[list.v, .int .i64 size1, .int .i64 labels] w (Ret [.at .bool] Q) :=
  mkC (hint := hint) (ann := annOf [(2, ⟨[(11, .int .i64)], [6, 7, 8, 12, 13, 14, 15, 16, 17, 18, 19, 20, 21, 22, 23, 24, 25, 26, 27, 28, 29, 30, 31, 32, 33, 34, 35, 36, 37, 38, 39, 40, 41, 42, 43, 44, 45, 46]⟩)]) (args := [list.v, .int .i64 size1, .int .i64 labels]) (rs := [.at .bool]) Tryz.func121 (by kernel_rfl) (by kernel_rfl) h

def V_i_edgeStep (Q : Int → Int → Sl → Sl → Sl → Bool → World → Prop) (p_0 : Int) (p_1 : Int) (p_2 : Sl) (p_3 : Sl) (w : World) : Prop :=
  NEW T.t_i_Problem #[.int .i64 p_0, .int .i64 p_1, p_2.v, p_3.v] w fun (p_p : Addr) w1 =>
  NEW T.t_i_Problem #[.int .i64 0, .int .i64 0, .slice none 0 0, .slice none 0 0] w1 fun (px2 : Addr) w2 =>
  ∃ (I3 : Sl → Int → World → Prop) (m3 : Sl → Int → World → Nat), I3 (⟨none, 0, 0⟩) 1 w2 ∧ ∀ (full : Sl) (set1 : Int) w3, I3 full set1 w3 → ∀ _ _ _ _ _ _ _ _ _ _ _ _ _ _ _ _ _ _ _ _ _ _ _ _ _ _ : Value,
  LD [.int .i64] (p_p.add 0) w3 fun (x13 : Int) =>
  (0 : Int) ≤ x13 ∧ (
  cond (decide ((set1 : Int) < (shlI .i64 1 x13))) (
  LD [.int .i64, .int .i64, .sl, .sl] p_p w3 fun (x18_0 : Int) (x18_1 : Int) (x18_2 : Sl) (x18_3 : Sl) =>
  Calls Tryz.prog F.i_beside #[.agg #[.int .i64 x18_0, .int .i64 x18_1, x18_2.v, x18_3.v], .int .i64 set1] w3 (Ret [.at (.int .i64)] fun (x20 : Int) w4 =>
  cond ((x20 : Int) != 0) (
  LD [.int .i64, .int .i64, .sl, .sl] p_p w4 fun (x24_0 : Int) (x24_1 : Int) (x24_2 : Sl) (x24_3 : Sl) =>
  Calls Tryz.prog F.i_beside #[.agg #[.int .i64 x24_0, .int .i64 x24_1, x24_2.v, x24_3.v], .int .i64 x20] w4 (Ret [.at (.int .i64)] fun (x26 : Int) w5 =>
  cond ((x26 : Int) == set1) (
  RUN Tryz.prog (.at .sl) (Instr.buildSlice T.t_sl_int 2 #[(0, .int .i64 set1), (1, .int .i64 x20)]) w5 fun (x33 : Sl) w6 =>
  RUN Tryz.prog (.at .sl) (Instr.buildSlice T.t_sl_sl_int 1 #[(0, x33.v)]) w6 fun (x34 : Sl) w7 =>
  RUN Tryz.prog (.at .sl) (bsem .append #[T.t_sl_sl_int, T.t_sl_sl_int] T.t_sl_sl_int #[full.v, x34.v]) w7 fun (x35 : Sl) w8 =>
  I3 x35 (IntKind.i64.wrap (set1 + 1)) w8 ∧ m3 x35 (IntKind.i64.wrap (set1 + 1)) w8 < m3 full set1 w3) (
  I3 full (IntKind.i64.wrap (set1 + 1)) w5 ∧ m3 full (IntKind.i64.wrap (set1 + 1)) w5 < m3 full set1 w3))) (
  I3 full (IntKind.i64.wrap (set1 + 1)) w4 ∧ m3 full (IntKind.i64.wrap (set1 + 1)) w4 < m3 full set1 w3))) (
  Calls Tryz.prog F.i_newLabels #[full.v] w3 (Ret [.at .sl, .at .sl] fun (x38_0 : Sl) (x38_1 : Sl) w9 =>
  NEW T.t_sl_int #[.slice none 0 0] w9 fun (p_sets : Addr) w10 =>
  ST p_sets 0 [x38_0.v] w10 fun w11 =>
  LD [.sl] p_sets w11 fun (x41 : Sl) =>
  Calls Tryz.prog F.i_within #[.int .i64 x41.len, .int .i64 1, .int .i64 8] w11 (Ret [.at .bool] fun (x43 : Bool) w12 =>
  cond (!x43) (
  ST px2 0 [.int .i64 0, .int .i64 0, .slice none 0 0, .slice none 0 0] w12 fun w13 =>
  LD [.int .i64, .int .i64, .sl, .sl] px2 w13 fun (r0_0 : Int) (r0_1 : Int) (r0_2 : Sl) (r0_3 : Sl) =>
  Q r0_0 r0_1 r0_2 r0_3 (⟨none, 0, 0⟩) false w13) (
  LD [.sl] p_sets w12 fun (x46 : Sl) =>
  LD [.int .i64] (p_p.add 1) w12 fun (x49 : Int) =>
  Calls Tryz.prog F.i_allowedBy #[.int .i64 x46.len, .int .i64 x49, .func (.func F.i_edgeStep_1) #[] #[.pointer (some p_p), .pointer (some p_sets)]] w12 (Ret [.at .sl] fun (x51 : Sl) w14 =>
  ∀ w15, Ext w14 w15 → w15.heap = w14.heap → ∃ (D15 : Nat → Prop),
  ¬ D15 p_sets.block ∧ (
  LD [.sl] p_sets w15 fun (x52 : Sl) =>
  ¬ D15 (p_p.add 1).block ∧ (
  LD [.int .i64] (p_p.add 1) w15 fun (x55 : Int) =>
  ¬ D15 p_sets.block ∧ (
  LD [.sl] p_sets w15 fun (x59 : Sl) =>
  ST px2 0 [.int .i64 x52.len, .int .i64 x55, x51.v, x38_1.v] w15 fun w16 =>
  Chg w15 w16 D15 ∧ (
  LD [.int .i64, .int .i64, .sl, .sl] px2 w16 fun (r0_0_2 : Int) (r0_1_2 : Int) (r0_2_2 : Sl) (r0_3_2 : Sl) =>
  Q r0_0_2 r0_1_2 r0_2_2 r0_3_2 x59 true w16))))))))))

theorem C_i_edgeStep {Q : Int → Int → Sl → Sl → Sl → Bool → World → Prop} {p_0 : Int} {p_1 : Int} {p_2 : Sl} {p_3 : Sl} {w : World} (h : V_i_edgeStep Q p_0 p_1 p_2 p_3 w) : Calls Tryz.prog F.i_edgeStep #[.agg #[.int .i64 p_0, .int .i64 p_1, p_2.v, p_3.v]] w (Ret [.agg [.int .i64, .int .i64, .sl, .sl], .at .sl, .at .bool] Q) :=
  mkC (hint := hint) (ann := annOf [(3, ⟨[(5, .sl), (6, .int .i64)], [7, 11, 12, 13, 14, 15, 16, 17, 18, 19, 20, 21, 22, 23, 24, 25, 26, 27, 28, 29, 30, 31, 32, 33, 34, 35]⟩)]) (args := [.agg #[.int .i64 p_0, .int .i64 p_1, p_2.v, p_3.v]]) (rs := [.agg [.int .i64, .int .i64, .sl, .sl], .at .sl, .at .bool]) Tryz.func122 (by kernel_rfl) (by kernel_rfl) h

def V_i_nodeStep_k1 (Q : Int → Int → Sl → Sl → Sl → Bool → World → Prop) (p_p : Addr) (px2 : Addr) (w4 : World) : Prop :=
  LD [.int .i64, .int .i64, .sl, .sl] p_p w4 fun (x18_0 : Int) (x18_1 : Int) (x18_2 : Sl) (x18_3 : Sl) =>
  Calls Tryz.prog F.i_newNodeSets #[.agg #[.int .i64 x18_0, .int .i64 x18_1, x18_2.v, x18_3.v]] w4 (Ret [.at .ptr] fun (x19 : Addr) w5 =>
  Calls Tryz.prog F.ptr_i_nodeSets_fullLists #[.pointer (some x19)] w5 (Ret [.at .sl] fun (x20 : Sl) w6 =>
  Calls Tryz.prog F.i_newLabels #[x20.v] w6 (Ret [.at .sl, .at .sl] fun (x21_0 : Sl) (x21_1 : Sl) w7 =>
  NEW T.t_sl_int #[.slice none 0 0] w7 fun (p_sets : Addr) w8 =>
  ST p_sets 0 [x21_0.v] w8 fun w9 =>
  LD [.sl] p_sets w9 fun (x24 : Sl) =>
  Calls Tryz.prog F.i_within #[.int .i64 x24.len, .int .i64 1, .int .i64 8] w9 (Ret [.at .bool] fun (x26 : Bool) w10 =>
  cond (!x26) (
  ST px2 0 [.int .i64 0, .int .i64 0, .slice none 0 0, .slice none 0 0] w10 fun w11 =>
  LD [.int .i64, .int .i64, .sl, .sl] px2 w11 fun (r0_0_2 : Int) (r0_1_2 : Int) (r0_2_2 : Sl) (r0_3_2 : Sl) =>
  Q r0_0_2 r0_1_2 r0_2_2 r0_3_2 (⟨none, 0, 0⟩) false w11) (
  LD [.sl] p_sets w10 fun (x29 : Sl) =>
  Calls Tryz.prog F.i_allowedBy #[.int .i64 x29.len, .int .i64 2, .func (.func F.i_nodeStep_1) #[] #[.pointer (some p_p), .pointer (some p_sets)]] w10 (Ret [.at .sl] fun (x32 : Sl) w12 =>
  ∀ w13, Ext w12 w13 → w13.heap = w12.heap → ∃ (D13 : Nat → Prop),
  ¬ D13 p_sets.block ∧ (
  LD [.sl] p_sets w13 fun (x33 : Sl) =>
  ¬ D13 (p_p.add 1).block ∧ (
  LD [.int .i64] (p_p.add 1) w13 fun (x36 : Int) =>
  ¬ D13 p_sets.block ∧ (
  LD [.sl] p_sets w13 fun (x40 : Sl) =>
  ST px2 0 [.int .i64 x33.len, .int .i64 x36, x21_1.v, x32.v] w13 fun w14 =>
  Chg w13 w14 D13 ∧ (
  LD [.int .i64, .int .i64, .sl, .sl] px2 w14 fun (r0_0_3 : Int) (r0_1_3 : Int) (r0_2_3 : Sl) (r0_3_3 : Sl) =>
  Q r0_0_3 r0_1_3 r0_2_3 r0_3_3 x40 true w14))))))))))

def V_i_nodeStep (Q : Int → Int → Sl → Sl → Sl → Bool → World → Prop) (p_0 : Int) (p_1 : Int) (p_2 : Sl) (p_3 : Sl) (w : World) : Prop :=
  NEW T.t_i_Problem #[.int .i64 p_0, .int .i64 p_1, p_2.v, p_3.v] w fun (p_p : Addr) w1 =>
  NEW T.t_i_Problem #[.int .i64 0, .int .i64 0, .slice none 0 0, .slice none 0 0] w1 fun (px2 : Addr) w2 =>
  LD [.int .i64] (p_p.add 1) w2 fun (x9 : Int) =>
  cond ((x9 : Int) == 4) (
  LD [.int .i64] (p_p.add 0) w2 fun (x13 : Int) =>
  cond (decide ((x13 : Int) > 6)) (
  ST px2 0 [.int .i64 0, .int .i64 0, .slice none 0 0, .slice none 0 0] w2 fun w3 =>
  LD [.int .i64, .int .i64, .sl, .sl] px2 w3 fun (r0_0 : Int) (r0_1 : Int) (r0_2 : Sl) (r0_3 : Sl) =>
  Q r0_0 r0_1 r0_2 r0_3 (⟨none, 0, 0⟩) false w3) (
  V_i_nodeStep_k1 Q p_p px2 w2)) (
  V_i_nodeStep_k1 Q p_p px2 w2)

theorem C_i_nodeStep {Q : Int → Int → Sl → Sl → Sl → Bool → World → Prop} {p_0 : Int} {p_1 : Int} {p_2 : Sl} {p_3 : Sl} {w : World} (h : V_i_nodeStep Q p_0 p_1 p_2 p_3 w) : Calls Tryz.prog F.i_nodeStep #[.agg #[.int .i64 p_0, .int .i64 p_1, p_2.v, p_3.v]] w (Ret [.agg [.int .i64, .int .i64, .sl, .sl], .at .sl, .at .bool] Q) :=
  mkC (hint := hint) (ann := annOf []) (args := [.agg #[.int .i64 p_0, .int .i64 p_1, p_2.v, p_3.v]]) (rs := [.agg [.int .i64, .int .i64, .sl, .sl], .at .sl, .at .bool]) Tryz.func123 (by kernel_rfl) (by kernel_rfl) h

def V_i_Problem_hasLabels (Q : Bool → World → Prop) (p_0 : Int) (p_1 : Int) (p_2 : Sl) (p_3 : Sl) (labels : Sl) (w : World) : Prop :=
  NEW T.t_i_Problem #[.int .i64 p_0, .int .i64 p_1, p_2.v, p_3.v] w fun (p_p : Addr) w1 =>
  LD [.int .i64] (p_p.add 0) w1 fun (x7 : Int) =>
  Calls Tryz.prog F.i_allWithin #[labels.v, .int .i64 0, .int .i64 (IntKind.i64.wrap (x7 - 1))] w1 (Ret [.at .bool] fun (x9 : Bool) w2 =>
  Q x9 w2)

theorem C_i_Problem_hasLabels {Q : Bool → World → Prop} {p_0 : Int} {p_1 : Int} {p_2 : Sl} {p_3 : Sl} {labels : Sl} {w : World} (h : V_i_Problem_hasLabels Q p_0 p_1 p_2 p_3 labels w) : Calls Tryz.prog F.i_Problem_hasLabels #[.agg #[.int .i64 p_0, .int .i64 p_1, p_2.v, p_3.v], labels.v] w (Ret [.at .bool] Q) :=
  mkC (hint := hint) (ann := annOf []) (args := [.agg #[.int .i64 p_0, .int .i64 p_1, p_2.v, p_3.v], labels.v]) (rs := [.at .bool]) Tryz.func124 (by kernel_rfl) (by kernel_rfl) h

def V_i_Problem_node (Q : Bool → World → Prop) (p_0 : Int) (p_1 : Int) (p_2 : Sl) (p_3 : Sl) (labels : Sl) (w : World) : Prop :=
  NEW T.t_i_Problem #[.int .i64 p_0, .int .i64 p_1, p_2.v, p_3.v] w fun (p_p : Addr) w1 =>
  LD [.sl] (p_p.add 2) w1 fun (x6 : Sl) =>
  Calls Tryz.prog F.i_hasConfiguration #[x6.v, labels.v] w1 (Ret [.at .bool] fun (x8 : Bool) w2 =>
  Q x8 w2)

theorem C_i_Problem_node {Q : Bool → World → Prop} {p_0 : Int} {p_1 : Int} {p_2 : Sl} {p_3 : Sl} {labels : Sl} {w : World} (h : V_i_Problem_node Q p_0 p_1 p_2 p_3 labels w) : Calls Tryz.prog F.i_Problem_node #[.agg #[.int .i64 p_0, .int .i64 p_1, p_2.v, p_3.v], labels.v] w (Ret [.at .bool] Q) :=
  mkC (hint := hint) (ann := annOf []) (args := [.agg #[.int .i64 p_0, .int .i64 p_1, p_2.v, p_3.v], labels.v]) (rs := [.at .bool]) Tryz.func125 (by kernel_rfl) (by kernel_rfl) h

def V_i_images (Q : Sl → World → Prop) (labels : Sl) (f : Sl) (w : World) : Prop :=
  ∃ (I3 : Sl → Int → World → Prop) (m3 : Sl → Int → World → Nat), I3 (⟨none, 0, 0⟩) 0 w ∧ ∀ (out : Sl) (x10 : Int) w1, I3 out x10 w1 → ∀ _ _ _ _ _ _ _ _ _ _ _ _ : Value,
  cond (decide ((x10 : Int) < labels.len)) (
  IX labels x10 1 fun (px12 : Addr) =>
  LD [.int .i64] px12 w1 fun (x13 : Int) =>
  IX f x13 1 fun (px17 : Addr) =>
  LD [.int .i64] px17 w1 fun (x18 : Int) =>
  RUN Tryz.prog (.at .sl) (Instr.buildSlice T.t_sl_int 1 #[(0, .int .i64 x18)]) w1 fun (x19 : Sl) w2 =>
  RUN Tryz.prog (.at .sl) (bsem .append #[T.t_sl_int, T.t_sl_int] T.t_sl_int #[out.v, x19.v]) w2 fun (x20 : Sl) w3 =>
  I3 x20 (IntKind.i64.wrap (x10 + 1)) w3 ∧ m3 x20 (IntKind.i64.wrap (x10 + 1)) w3 < m3 out x10 w1) (
  Q out w1)

theorem C_i_images {Q : Sl → World → Prop} {labels : Sl} {f : Sl} {w : World} (h : V_i_images Q labels f w) : Calls Tryz.prog F.i_images #[labels.v, f.v] w (Ret [.at .sl] Q) :=
  mkC (hint := hint) (ann := annOf [(3, ⟨[(5, .sl), (10, .int .i64)], [7, 11, 12, 13, 14, 15, 16, 17, 18, 19, 20, 21]⟩)]) (args := [labels.v, f.v]) (rs := [.at .sl]) Tryz.func126 (by kernel_rfl) (by kernel_rfl) h

def V_slices_ContainsFunc_sl_sl_int_sl_int (Q : Bool → World → Prop) (s : Sl) (f : Value) (w : World) : Prop :=
  Calls Tryz.prog F.slices_IndexFunc_sl_sl_int_sl_int #[s.v, f] w (Ret [.at (.int .i64)] fun (x7 : Int) w1 =>
  Q (decide ((x7 : Int) ≥ 0)) w1)

theorem C_slices_ContainsFunc_sl_sl_int_sl_int {Q : Bool → World → Prop} {s : Sl} {f : Value} {w : World} (h : V_slices_ContainsFunc_sl_sl_int_sl_int Q s f w) : Calls Tryz.prog F.slices_ContainsFunc_sl_sl_int_sl_int #[s.v, f] w (Ret [.at .bool] Q) :=
  mkC (hint := hint) (ann := annOf []) (args := [s.v, f]) (rs := [.at .bool]) Tryz.func127 (by kernel_rfl) (by kernel_rfl) h

def V_i_isLabelMap_1 (Q : Bool → World → Prop) (c : Sl) (cap0 : Addr) (cap1 : Addr) (w : World) : Prop :=
  LD [.int .i64, .int .i64, .sl, .sl] cap0 w fun (x5_0 : Int) (x5_1 : Int) (x5_2 : Sl) (x5_3 : Sl) =>
  LD [.sl] cap1 w fun (x6 : Sl) =>
  IX c 0 1 fun (px8 : Addr) =>
  LD [.int .i64] px8 w fun (x9 : Int) =>
  IX x6 x9 1 fun (px10 : Addr) =>
  LD [.int .i64] px10 w fun (x11 : Int) =>
  LD [.sl] cap1 w fun (x12 : Sl) =>
  IX c 1 1 fun (px14 : Addr) =>
  LD [.int .i64] px14 w fun (x15 : Int) =>
  IX x12 x15 1 fun (px16 : Addr) =>
  LD [.int .i64] px16 w fun (x17 : Int) =>
  QCALL Tryz.prog F.i_Problem_edge #[.agg #[.int .i64 x5_0, .int .i64 x5_1, x5_2.v, x5_3.v], .int .i64 x11, .int .i64 x17] w [.at .bool] fun (x18 : Bool) =>
  ∀ w1, Ext w w1 →
  Q (!x18) w1

theorem C_i_isLabelMap_1 {Q : Bool → World → Prop} {c : Sl} {cap0 : Addr} {cap1 : Addr} {w : World} (h : V_i_isLabelMap_1 Q c cap0 cap1 w) : Calls Tryz.prog F.i_isLabelMap_1 #[c.v, .pointer (some cap0), .pointer (some cap1)] w (Ret [.at .bool] Q) :=
  mkC (hint := hint) (ann := annOf []) (args := [c.v, .pointer (some cap0), .pointer (some cap1)]) (rs := [.at .bool]) Tryz.func128 (by kernel_rfl) (by kernel_rfl) h

def V_i_Problem_edge (Q : Bool → World → Prop) (p_0 : Int) (p_1 : Int) (p_2 : Sl) (p_3 : Sl) (a : Int) (b : Int) (w : World) : Prop :=
  NEW T.t_i_Problem #[.int .i64 p_0, .int .i64 p_1, p_2.v, p_3.v] w fun (p_p : Addr) w1 =>
  LD [.sl] (p_p.add 3) w1 fun (x8 : Sl) =>
  RUN Tryz.prog (.at .sl) (Instr.buildSlice T.t_sl_int 2 #[(0, .int .i64 a), (1, .int .i64 b)]) w1 fun (x11 : Sl) w2 =>
  Calls Tryz.prog F.i_hasConfiguration #[x8.v, x11.v] w2 (Ret [.at .bool] fun (x12 : Bool) w3 =>
  Q x12 w3)

theorem C_i_Problem_edge {Q : Bool → World → Prop} {p_0 : Int} {p_1 : Int} {p_2 : Sl} {p_3 : Sl} {a : Int} {b : Int} {w : World} (h : V_i_Problem_edge Q p_0 p_1 p_2 p_3 a b w) : Calls Tryz.prog F.i_Problem_edge #[.agg #[.int .i64 p_0, .int .i64 p_1, p_2.v, p_3.v], .int .i64 a, .int .i64 b] w (Ret [.at .bool] Q) :=
  mkC (hint := hint) (ann := annOf []) (args := [.agg #[.int .i64 p_0, .int .i64 p_1, p_2.v, p_3.v], .int .i64 a, .int .i64 b]) (rs := [.at .bool]) Tryz.func129 (by kernel_rfl) (by kernel_rfl) h

def V_slices_Contains_sl_int_int (Q : Bool → World → Prop) (s : Sl) (v : Int) (w : World) : Prop :=
  Calls Tryz.prog F.slices_Index_sl_int_int #[s.v, .int .i64 v] w (Ret [.at (.int .i64)] fun (x7 : Int) w1 =>
  Q (decide ((x7 : Int) ≥ 0)) w1)

theorem C_slices_Contains_sl_int_int {Q : Bool → World → Prop} {s : Sl} {v : Int} {w : World} (h : V_slices_Contains_sl_int_int Q s v w) : Calls Tryz.prog F.slices_Contains_sl_int_int #[s.v, .int .i64 v] w (Ret [.at .bool] Q) :=
  mkC (hint := hint) (ann := annOf []) (args := [s.v, .int .i64 v]) (rs := [.at .bool]) Tryz.func130 (by kernel_rfl) (by kernel_rfl) h

def V_s_elNode_k5 (I6 : Sl → Int → World → Prop) (m6 : Sl → Int → World → Nat) (x6 : Sl) (x33 : Int) (w10 : World) (x6_2 : Sl) (w21 : World) : Prop :=
  I6 x6_2 (IntKind.i64.wrap (x33 + 1)) w21 ∧ m6 x6_2 (IntKind.i64.wrap (x33 + 1)) w21 < m6 x6 x33 w10

def V_s_elNode_k9 (I6 : Sl → Int → World → Prop) (m6 : Sl → Int → World → Nat) (x33 : Int) (w10 : World) (px5 : Addr) (x6 : Sl) (x9 : Sl) (x51 : Int) (w15 : World) : Prop :=
  RUN Tryz.prog (.at .sl) (Instr.buildSlice T.t_sl_int 1 #[(0, .int .i64 x51)]) w15 fun (x71 : Sl) w16 =>
  RUN Tryz.prog (.at .sl) (bsem .append #[T.t_sl_int, T.t_sl_int] T.t_sl_int #[x9.v, x71.v]) w16 fun (x72 : Sl) w17 =>
  LD [.int .i64, .int .i64, .sl, .sl, .sl] px5 w17 fun (x73_0 : Int) (x73_1 : Int) (x73_2 : Sl) (x73_3 : Sl) (x73_4 : Sl) =>
  Calls Tryz.prog F.s_elTable_full #[.agg #[.int .i64 x73_0, .int .i64 x73_1, x73_2.v, x73_3.v, x73_4.v], x72.v] w17 (Ret [.at .bool] fun (x75 : Bool) w18 =>
  cond x75 (
  RUN Tryz.prog (.at .sl) (Instr.buildSlice T.t_sl_sl_int 1 #[(0, x72.v)]) w18 fun (x78 : Sl) w19 =>
  RUN Tryz.prog (.at .sl) (bsem .append #[T.t_sl_sl_int, T.t_sl_sl_int] T.t_sl_sl_int #[x6.v, x78.v]) w19 fun (x79 : Sl) w20 =>
  V_s_elNode_k5 I6 m6 x6 x33 w10 x79 w20) (
  V_s_elNode_k5 I6 m6 x6 x33 w10 x6 w18))

def V_s_elNode_k1 (Q : Int → Int → Sl → Sl → Sl → Bool → World → Prop) (px1 : Addr) (px2 : Addr) (w4 : World) : Prop :=
  LD [.int .i64, .int .i64, .sl, .sl] px1 w4 fun (x22_0 : Int) (x22_1 : Int) (x22_2 : Sl) (x22_3 : Sl) =>
  Calls Tryz.prog F.s_elTabled #[.agg #[.int .i64 x22_0, .int .i64 x22_1, x22_2.v, x22_3.v]] w4 (Ret [.agg [.int .i64, .int .i64, .sl, .sl, .sl]] fun (x23_0 : Int) (x23_1 : Int) (x23_2 : Sl) (x23_3 : Sl) (x23_4 : Sl) w5 =>
  NEW T.t_s_elTable #[.int .i64 0, .int .i64 0, .slice none 0 0, .slice none 0 0, .slice none 0 0] w5 fun (px5 : Addr) w6 =>
  ST px5 0 [.int .i64 x23_0, .int .i64 x23_1, x23_2.v, x23_3.v, x23_4.v] w6 fun w7 =>
  ∀ w8, Ext w7 w8 → w8.heap = w7.heap →
  LD [.int .i64] (px1.add 0) w8 fun (x25 : Int) =>
  (0 : Int) ≤ x25 ∧ (
  LD [.int .i64] (px1.add 1) w8 fun (x29 : Int) =>
  Calls Tryz.prog F.s_reChoices #[.int .i64 (IntKind.i64.wrap ((shlI .i64 1 x25) - 1)), .int .i64 (IntKind.i64.wrap (x29 - 1))] w8 (Ret [.at .sl] fun (x31 : Sl) w9 =>
  Ext w8 w9 ∧ (
  Ext w8 w9 ∧ (
  ∃ (I6 : Sl → Int → World → Prop) (m6 : Sl → Int → World → Nat), I6 (⟨none, 0, 0⟩) 0 w9 ∧ ∀ (x6 : Sl) (x33 : Int) w10, I6 x6 x33 w10 → ∀ _ _ _ _ _ _ _ _ _ _ _ _ _ _ _ _ _ _ _ _ _ _ _ _ _ _ _ _ _ _ _ _ _ _ _ _ _ _ _ _ _ _ _ _ _ _ _ _ _ _ _ : Value,
  cond (decide ((x33 : Int) < x31.len)) (
  IX x31 x33 1 fun (px35 : Addr) =>
  LD [.sl] px35 w10 fun (x36 : Sl) =>
  ∃ (I10 : Sl → Int → World → Prop) (m10 : Sl → Int → World → Nat), I10 (⟨none, 0, 0⟩) 0 w10 ∧ ∀ (x9 : Sl) (x39 : Int) w11, I10 x9 x39 w11 → ∀ _ _ _ _ _ _ _ _ _ _ : Value,
  cond (decide ((x39 : Int) < x36.len)) (
  IX x36 x39 1 fun (px41 : Addr) =>
  LD [.int .i64] px41 w11 fun (x42 : Int) =>
  RUN Tryz.prog (.at .sl) (Instr.buildSlice T.t_sl_int 1 #[(0, .int .i64 (IntKind.i64.wrap (x42 + 1)))]) w11 fun (x46 : Sl) w12 =>
  RUN Tryz.prog (.at .sl) (bsem .append #[T.t_sl_int, T.t_sl_int] T.t_sl_int #[x9.v, x46.v]) w12 fun (x47 : Sl) w13 =>
  I10 x47 (IntKind.i64.wrap (x39 + 1)) w13 ∧ m10 x47 (IntKind.i64.wrap (x39 + 1)) w13 < m10 x9 x39 w11) (
  LD [.int .i64, .int .i64, .sl, .sl, .sl] px5 w11 fun (x49_0 : Int) (x49_1 : Int) (x49_2 : Sl) (x49_3 : Sl) (x49_4 : Sl) =>
  Calls Tryz.prog F.s_elTable_rest #[.agg #[.int .i64 x49_0, .int .i64 x49_1, x49_2.v, x49_3.v, x49_4.v], x9.v, .int .i64 0] w11 (Ret [.at (.int .i64)] fun (x51 : Int) w14 =>
  cond ((x51 : Int) == 0) (
  V_s_elNode_k5 I6 m6 x6 x33 w10 x6 w14) (
  cond (decide ((x9.len : Int) > 0)) (
  IX x9 (IntKind.i64.wrap (x9.len - 1)) 1 fun (px64 : Addr) =>
  LD [.int .i64] px64 w14 fun (x65 : Int) =>
  cond (decide ((x51 : Int) < x65)) (
  V_s_elNode_k5 I6 m6 x6 x33 w10 x6 w14) (
  V_s_elNode_k9 I6 m6 x33 w10 px5 x6 x9 x51 w14)) (
  V_s_elNode_k9 I6 m6 x33 w10 px5 x6 x9 x51 w14))))) (
  LD [.int .i64, .int .i64, .sl, .sl] px1 w10 fun (x81_0 : Int) (x81_1 : Int) (x81_2 : Sl) (x81_3 : Sl) =>
  Calls Tryz.prog F.s_elMade #[.agg #[.int .i64 x81_0, .int .i64 x81_1, x81_2.v, x81_3.v], x6.v, .bool false] w10 (Ret [.agg [.int .i64, .int .i64, .sl, .sl], .at .sl, .at .bool] fun (x83_0_0 : Int) (x83_0_1 : Int) (x83_0_2 : Sl) (x83_0_3 : Sl) (x83_1 : Sl) (x83_2 : Bool) w22 =>
  ST px2 0 [.int .i64 x83_0_0, .int .i64 x83_0_1, x83_0_2.v, x83_0_3.v] w22 fun w23 =>
  LD [.int .i64, .int .i64, .sl, .sl] px2 w23 fun (r0_0_2 : Int) (r0_1_2 : Int) (r0_2_2 : Sl) (r0_3_2 : Sl) =>
  Q r0_0_2 r0_1_2 r0_2_2 r0_3_2 x83_1 x83_2 w23)))))))

def V_s_elNode (Q : Int → Int → Sl → Sl → Sl → Bool → World → Prop) (x0_0 : Int) (x0_1 : Int) (x0_2 : Sl) (x0_3 : Sl) (w : World) : Prop :=
  NEW T.t_i_Problem #[.int .i64 x0_0, .int .i64 x0_1, x0_2.v, x0_3.v] w fun (px1 : Addr) w1 =>
  NEW T.t_i_Problem #[.int .i64 0, .int .i64 0, .slice none 0 0, .slice none 0 0] w1 fun (px2 : Addr) w2 =>
  LD [.int .i64] (px1.add 1) w2 fun (x14 : Int) =>
  cond ((x14 : Int) == 4) (
  LD [.int .i64] (px1.add 0) w2 fun (x18 : Int) =>
  cond (decide ((x18 : Int) > 6)) (
  ST px2 0 [.int .i64 0, .int .i64 0, .slice none 0 0, .slice none 0 0] w2 fun w3 =>
  LD [.int .i64, .int .i64, .sl, .sl] px2 w3 fun (r0_0 : Int) (r0_1 : Int) (r0_2 : Sl) (r0_3 : Sl) =>
  Q r0_0 r0_1 r0_2 r0_3 (⟨none, 0, 0⟩) false w3) (
  V_s_elNode_k1 Q px1 px2 w2)) (
  V_s_elNode_k1 Q px1 px2 w2)

theorem C_s_elNode {Q : Int → Int → Sl → Sl → Sl → Bool → World → Prop} {x0_0 : Int} {x0_1 : Int} {x0_2 : Sl} {x0_3 : Sl} {w : World} (h : V_s_elNode Q x0_0 x0_1 x0_2 x0_3 w) : Calls Tryz.prog F.s_elNode #[.agg #[.int .i64 x0_0, .int .i64 x0_1, x0_2.v, x0_3.v]] w (Ret [.agg [.int .i64, .int .i64, .sl, .sl], .at .sl, .at .bool] Q) :=
  mkC (hint := hint) (ann := annOf [(6, ⟨[(6, .sl), (33, .int .i64)], [8, 9, 11, 12, 34, 35, 36, 37, 38, 39, 40, 41, 42, 43, 44, 45, 46, 47, 48, 49, 50, 51, 52, 53, 54, 55, 56, 57, 58, 59, 60, 61, 62, 63, 64, 65, 66, 67, 68, 69, 70, 71, 72, 73, 74, 75, 76, 77, 78, 79, 80]⟩), (10, ⟨[(9, .sl), (39, .int .i64)], [11, 40, 41, 42, 43, 44, 45, 46, 47, 48]⟩)]) (args := [.agg #[.int .i64 x0_0, .int .i64 x0_1, x0_2.v, x0_3.v]]) (rs := [.agg [.int .i64, .int .i64, .sl, .sl], .at .sl, .at .bool]) Tryz.func132 (by kernel_rfl) (by kernel_rfl) h

def V_s_l1Has (Q : Bool → World → Prop) (l : Sl) (n : Int) (w : World) : Prop :=
  ∃ (I2 : Int → World → Prop) (m2 : Int → World → Nat), I2 0 w ∧ ∀ (x9 : Int) w1, I2 x9 w1 → ∀ _ _ _ _ _ _ _ _ _ : Value,
  cond (decide ((x9 : Int) < l.len)) (
  IX l x9 1 fun (px11 : Addr) =>
  LD [.int .i64] px11 w1 fun (x12 : Int) =>
  cond ((x12 : Int) == n) (
  Q true w1) (
  I2 (IntKind.i64.wrap (x9 + 1)) w1 ∧ m2 (IntKind.i64.wrap (x9 + 1)) w1 < m2 x9 w1)) (
  Q false w1)

theorem C_s_l1Has {Q : Bool → World → Prop} {l : Sl} {n : Int} {w : World} (h : V_s_l1Has Q l n w) : Calls Tryz.prog F.s_l1Has #[l.v, .int .i64 n] w (Ret [.at .bool] Q) :=
  mkC (hint := hint) (ann := annOf [(2, ⟨[(9, .int .i64)], [4, 6, 10, 11, 12, 13, 14, 15, 16]⟩)]) (args := [l.v, .int .i64 n]) (rs := [.at .bool]) Tryz.func133 (by kernel_rfl) (by kernel_rfl) h

def V_s_l1Own (Q : Sl → World → Prop) (l : Sl) (w : World) : Prop :=
  RUN Tryz.prog (.at .sl) (Instr.buildSlice T.t_sl_int 0 #[]) w fun (x3 : Sl) w1 =>
  RUN Tryz.prog (.at .sl) (bsem .append #[T.t_sl_int, T.t_sl_int] T.t_sl_int #[x3.v, l.v]) w1 fun (x5 : Sl) w2 =>
  Q x5 w2

theorem C_s_l1Own {Q : Sl → World → Prop} {l : Sl} {w : World} (h : V_s_l1Own Q l w) : Calls Tryz.prog F.s_l1Own #[l.v] w (Ret [.at .sl] Q) :=
  mkC (hint := hint) (ann := annOf []) (args := [l.v]) (rs := [.at .sl]) Tryz.func135 (by kernel_rfl) (by kernel_rfl) h

def V_s_elEdge (Q : Int → Int → Sl → Sl → Sl → Bool → World → Prop) (p_0 : Int) (p_1 : Int) (p_2 : Sl) (p_3 : Sl) (w : World) : Prop :=
  NEW T.t_i_Problem #[.int .i64 p_0, .int .i64 p_1, p_2.v, p_3.v] w fun (p_p : Addr) w1 =>
  NEW T.t_i_Problem #[.int .i64 0, .int .i64 0, .slice none 0 0, .slice none 0 0] w1 fun (px2 : Addr) w2 =>
  ∃ (I3 : Sl → Int → World → Prop) (m3 : Sl → Int → World → Nat), I3 (⟨none, 0, 0⟩) 1 w2 ∧ ∀ (full : Sl) (set1 : Int) w3, I3 full set1 w3 → ∀ _ _ _ _ _ _ _ _ _ _ _ _ _ _ _ _ _ _ _ _ _ _ _ _ _ _ : Value,
  LD [.int .i64] (p_p.add 0) w3 fun (x10 : Int) =>
  (0 : Int) ≤ x10 ∧ (
  cond (decide ((set1 : Int) < (shlI .i64 1 x10))) (
  LD [.int .i64, .int .i64, .sl, .sl] p_p w3 fun (x15_0 : Int) (x15_1 : Int) (x15_2 : Sl) (x15_3 : Sl) =>
  Calls Tryz.prog F.s_elNear #[.agg #[.int .i64 x15_0, .int .i64 x15_1, x15_2.v, x15_3.v], .int .i64 set1] w3 (Ret [.at (.int .i64)] fun (x17 : Int) w4 =>
  cond (decide ((x17 : Int) > 0)) (
  LD [.int .i64, .int .i64, .sl, .sl] p_p w4 fun (x21_0 : Int) (x21_1 : Int) (x21_2 : Sl) (x21_3 : Sl) =>
  Calls Tryz.prog F.s_elNear #[.agg #[.int .i64 x21_0, .int .i64 x21_1, x21_2.v, x21_3.v], .int .i64 x17] w4 (Ret [.at (.int .i64)] fun (x23 : Int) w5 =>
  cond ((x23 : Int) == set1) (
  RUN Tryz.prog (.at .sl) (Instr.buildSlice T.t_sl_int 2 #[(0, .int .i64 set1), (1, .int .i64 x17)]) w5 fun (x30 : Sl) w6 =>
  RUN Tryz.prog (.at .sl) (Instr.buildSlice T.t_sl_sl_int 1 #[(0, x30.v)]) w6 fun (x31 : Sl) w7 =>
  RUN Tryz.prog (.at .sl) (bsem .append #[T.t_sl_sl_int, T.t_sl_sl_int] T.t_sl_sl_int #[full.v, x31.v]) w7 fun (x32 : Sl) w8 =>
  I3 x32 (IntKind.i64.wrap (set1 + 1)) w8 ∧ m3 x32 (IntKind.i64.wrap (set1 + 1)) w8 < m3 full set1 w3) (
  I3 full (IntKind.i64.wrap (set1 + 1)) w5 ∧ m3 full (IntKind.i64.wrap (set1 + 1)) w5 < m3 full set1 w3))) (
  I3 full (IntKind.i64.wrap (set1 + 1)) w4 ∧ m3 full (IntKind.i64.wrap (set1 + 1)) w4 < m3 full set1 w3))) (
  LD [.int .i64, .int .i64, .sl, .sl] p_p w3 fun (x33_0 : Int) (x33_1 : Int) (x33_2 : Sl) (x33_3 : Sl) =>
  Calls Tryz.prog F.s_elMade #[.agg #[.int .i64 x33_0, .int .i64 x33_1, x33_2.v, x33_3.v], full.v, .bool true] w3 (Ret [.agg [.int .i64, .int .i64, .sl, .sl], .at .sl, .at .bool] fun (x35_0_0 : Int) (x35_0_1 : Int) (x35_0_2 : Sl) (x35_0_3 : Sl) (x35_1 : Sl) (x35_2 : Bool) w9 =>
  ST px2 0 [.int .i64 x35_0_0, .int .i64 x35_0_1, x35_0_2.v, x35_0_3.v] w9 fun w10 =>
  LD [.int .i64, .int .i64, .sl, .sl] px2 w10 fun (r0_0 : Int) (r0_1 : Int) (r0_2 : Sl) (r0_3 : Sl) =>
  Q r0_0 r0_1 r0_2 r0_3 x35_1 x35_2 w10)))

theorem C_s_elEdge {Q : Int → Int → Sl → Sl → Sl → Bool → World → Prop} {p_0 : Int} {p_1 : Int} {p_2 : Sl} {p_3 : Sl} {w : World} (h : V_s_elEdge Q p_0 p_1 p_2 p_3 w) : Calls Tryz.prog F.s_elEdge #[.agg #[.int .i64 p_0, .int .i64 p_1, p_2.v, p_3.v]] w (Ret [.agg [.int .i64, .int .i64, .sl, .sl], .at .sl, .at .bool] Q) :=
  mkC (hint := hint) (ann := annOf [(3, ⟨[(5, .sl), (6, .int .i64)], [7, 8, 9, 10, 11, 12, 13, 14, 15, 16, 17, 18, 19, 20, 21, 22, 23, 24, 25, 26, 27, 28, 29, 30, 31, 32]⟩)]) (args := [.agg #[.int .i64 p_0, .int .i64 p_1, p_2.v, p_3.v]]) (rs := [.agg [.int .i64, .int .i64, .sl, .sl], .at .sl, .at .bool]) Tryz.func136 (by kernel_rfl) (by kernel_rfl) h

end Go.Proofs.YtndebacmnpghkaaGreat
end

section
/- What each function's code computes to. Printed by a program. -/
namespace Go.Proofs.YtndebacmnpghkaaGreat
open Go.GX Go.RowKit
set_option linter.unusedVariables false
set_option maxRecDepth 100000

def V_s_coThrough (Q : Sl → World → Prop) (l : Sl) (at1 : Sl) (w : World) : Prop :=
  ∃ (I3 : Sl → Int → World → Prop) (m3 : Sl → Int → World → Nat), I3 (⟨none, 0, 0⟩) 0 w ∧ ∀ (out : Sl) (x10 : Int) w1, I3 out x10 w1 → ∀ _ _ _ _ _ _ _ _ _ _ _ _ : Value,
  cond (decide ((x10 : Int) < at1.len)) (
  IX at1 x10 1 fun (px12 : Addr) =>
  LD [.int .i64] px12 w1 fun (x13 : Int) =>
  IX l x13 1 fun (px17 : Addr) =>
  LD [.int .i64] px17 w1 fun (x18 : Int) =>
  RUN Tryz.prog (.at .sl) (Instr.buildSlice T.t_sl_int 1 #[(0, .int .i64 x18)]) w1 fun (x19 : Sl) w2 =>
  RUN Tryz.prog (.at .sl) (bsem .append #[T.t_sl_int, T.t_sl_int] T.t_sl_int #[out.v, x19.v]) w2 fun (x20 : Sl) w3 =>
  I3 x20 (IntKind.i64.wrap (x10 + 1)) w3 ∧ m3 x20 (IntKind.i64.wrap (x10 + 1)) w3 < m3 out x10 w1) (
  Q out w1)

theorem C_s_coThrough {Q : Sl → World → Prop} {l : Sl} {at1 : Sl} {w : World} (h : V_s_coThrough Q l at1 w) : Calls Tryz.prog F.s_coThrough #[l.v, at1.v] w (Ret [.at .sl] Q) :=
  mkC (hint := hint) (ann := annOf [(3, ⟨[(5, .sl), (10, .int .i64)], [7, 11, 12, 13, 14, 15, 16, 17, 18, 19, 20, 21]⟩)]) (args := [l.v, at1.v]) (rs := [.at .sl]) Tryz.func142 (by kernel_rfl) (by kernel_rfl) h

def V_s_elChoice (Q : Sl → Bool → World → Prop) (good : Sl) (sets : Sl) (chosen : Sl) (w : World) : Prop :=
  cond ((chosen.len : Int) == sets.len) (
  Calls Tryz.prog F.s_prSorted #[chosen.v] w (Ret [.at .sl] fun (x22 : Sl) w1 =>
  Calls Tryz.prog F.s_prHas #[good.v, x22.v] w1 (Ret [.at .bool] fun (x23 : Bool) w2 =>
  Q chosen x23 w2))) (
  IX sets chosen.len 1 fun (px26 : Addr) =>
  LD [.int .i64] px26 w fun (x27 : Int) =>
  Calls Tryz.prog F.s_elLabels #[.int .i64 x27] w (Ret [.at .sl] fun (x28 : Sl) w3 =>
  ∃ (I5 : Int → World → Prop) (m5 : Int → World → Nat), I5 0 w3 ∧ ∀ (x30 : Int) w4, I5 x30 w4 → ∀ _ _ _ _ _ _ _ _ _ _ _ _ _ _ _ _ _ _ _ _ _ _ : Value,
  cond (decide ((x30 : Int) < x28.len)) (
  IX x28 x30 1 fun (px32 : Addr) =>
  LD [.int .i64] px32 w4 fun (x33 : Int) =>
  Calls Tryz.prog F.s_l1Own #[chosen.v] w4 (Ret [.at .sl] fun (x38 : Sl) w5 =>
  RUN Tryz.prog (.at .sl) (Instr.buildSlice T.t_sl_int 1 #[(0, .int .i64 x33)]) w5 fun (x40 : Sl) w6 =>
  RUN Tryz.prog (.at .sl) (bsem .append #[T.t_sl_int, T.t_sl_int] T.t_sl_int #[x38.v, x40.v]) w6 fun (x41 : Sl) w7 =>
  Calls Tryz.prog F.s_elChoice #[good.v, sets.v, x41.v] w7 (Ret [.at .sl, .at .bool] fun (x42_0 : Sl) (x42_1 : Bool) w8 =>
  cond x42_1 (
  Q x42_0 true w8) (
  I5 (IntKind.i64.wrap (x30 + 1)) w8 ∧ m5 (IntKind.i64.wrap (x30 + 1)) w8 < m5 x30 w4)))) (
  Q (⟨none, 0, 0⟩) false w4)))

theorem C_s_elChoice {Q : Sl → Bool → World → Prop} {good : Sl} {sets : Sl} {chosen : Sl} {w : World} (h : V_s_elChoice Q good sets chosen w) : Calls Tryz.prog F.s_elChoice #[good.v, sets.v, chosen.v] w (Ret [.at .sl, .at .bool] Q) :=
  mkC (hint := hint) (ann := annOf [(5, ⟨[(30, .int .i64)], [6, 7, 10, 11, 12, 31, 32, 33, 34, 35, 36, 37, 38, 39, 40, 41, 42, 43, 44, 45, 46, 47]⟩)]) (args := [good.v, sets.v, chosen.v]) (rs := [.at .sl, .at .bool]) Tryz.func143 (by kernel_rfl) (by kernel_rfl) h

def V_s_elLabels (Q : Sl → World → Prop) (set1 : Int) (w : World) : Prop :=
  ∃ (I3 : Sl → Int → World → Prop) (m3 : Sl → Int → World → Nat), I3 (⟨none, 0, 0⟩) 0 w ∧ ∀ (out : Sl) (a : Int) w1, I3 out a w1 → ∀ _ _ _ _ _ _ _ _ _ _ _ : Value,
  cond (decide ((a : Int) < 8)) (
  Calls Tryz.prog F.s_elHas #[.int .i64 set1, .int .i64 a] w1 (Ret [.at .bool] fun (x11 : Bool) w2 =>
  cond x11 (
  RUN Tryz.prog (.at .sl) (Instr.buildSlice T.t_sl_int 1 #[(0, .int .i64 a)]) w2 fun (x14 : Sl) w3 =>
  RUN Tryz.prog (.at .sl) (bsem .append #[T.t_sl_int, T.t_sl_int] T.t_sl_int #[out.v, x14.v]) w3 fun (x15 : Sl) w4 =>
  I3 x15 (IntKind.i64.wrap (a + 1)) w4 ∧ m3 x15 (IntKind.i64.wrap (a + 1)) w4 < m3 out a w1) (
  I3 out (IntKind.i64.wrap (a + 1)) w2 ∧ m3 out (IntKind.i64.wrap (a + 1)) w2 < m3 out a w1))) (
  Q out w1)

theorem C_s_elLabels {Q : Sl → World → Prop} {set1 : Int} {w : World} (h : V_s_elLabels Q set1 w) : Calls Tryz.prog F.s_elLabels #[.int .i64 set1] w (Ret [.at .sl] Q) :=
  mkC (hint := hint) (ann := annOf [(3, ⟨[(3, .sl), (4, .int .i64)], [5, 6, 7, 8, 9, 10, 11, 12, 13, 14, 15]⟩)]) (args := [.int .i64 set1]) (rs := [.at .sl]) Tryz.func144 (by kernel_rfl) (by kernel_rfl) h

def V_slices_Clone_sl_int_int (Q : Sl → World → Prop) (s : Sl) (w : World) : Prop :=
  cond s.a.isNone (
  Q (⟨none, 0, 0⟩) w) (
  RUN Tryz.prog (.at .sl) (Instr.buildSlice T.t_sl_int 0 #[]) w fun (x5 : Sl) w1 =>
  RUN Tryz.prog (.at .sl) (bsem .append #[T.t_sl_int, T.t_sl_int] T.t_sl_int #[x5.v, s.v]) w1 fun (x7 : Sl) w2 =>
  Q x7 w2)

theorem C_slices_Clone_sl_int_int {Q : Sl → World → Prop} {s : Sl} {w : World} (h : V_slices_Clone_sl_int_int Q s w) : Calls Tryz.prog F.slices_Clone_sl_int_int #[s.v] w (Ret [.at .sl] Q) :=
  mkC (hint := hint) (ann := annOf []) (args := [s.v]) (rs := [.at .sl]) Tryz.func147 (by kernel_rfl) (by kernel_rfl) h

def V_i_allWithin (Q : Bool → World → Prop) (list : Sl) (low : Int) (high : Int) (w : World) : Prop :=
  NEW T.t_int #[.int .i64 low] w fun (p_low : Addr) w1 =>
  NEW T.t_int #[.int .i64 high] w1 fun (p_high : Addr) w2 =>
  Calls Tryz.prog F.slices_ContainsFunc_sl_int_int #[list.v, .func (.func F.i_allWithin_1) #[] #[.pointer (some p_low), .pointer (some p_high)]] w2 (Ret [.at .bool] fun (x9 : Bool) w3 =>
  Q (!x9) w3)

theorem C_i_allWithin {Q : Bool → World → Prop} {list : Sl} {low : Int} {high : Int} {w : World} (h : V_i_allWithin Q list low high w) : Calls Tryz.prog F.i_allWithin #[list.v, .int .i64 low, .int .i64 high] w (Ret [.at .bool] Q) :=
  mkC (hint := hint) (ann := annOf []) (args := [list.v, .int .i64 low, .int .i64 high]) (rs := [.at .bool]) Tryz.func150 (by kernel_rfl) (by kernel_rfl) h

def V_i_isGoodPair (Q : Bool → World → Prop) (p_0 : Int) (p_1 : Int) (p_2 : Sl) (p_3 : Sl) (x : Sl) (y : Sl) (w : World) : Prop :=
  NEW T.t_i_Problem #[.int .i64 p_0, .int .i64 p_1, p_2.v, p_3.v] w fun (p_p : Addr) w1 =>
  LD [.int .i64, .int .i64, .sl, .sl] p_p w1 fun (x10_0 : Int) (x10_1 : Int) (x10_2 : Sl) (x10_3 : Sl) =>
  Calls Tryz.prog F.i_badPair #[.agg #[.int .i64 x10_0, .int .i64 x10_1, x10_2.v, x10_3.v], x.v, y.v] w1 (Ret [.at .sl, .at .bool] fun (x13_0 : Sl) (x13_1 : Bool) w2 =>
  Q (!x13_1) w2)

theorem C_i_isGoodPair {Q : Bool → World → Prop} {p_0 : Int} {p_1 : Int} {p_2 : Sl} {p_3 : Sl} {x : Sl} {y : Sl} {w : World} (h : V_i_isGoodPair Q p_0 p_1 p_2 p_3 x y w) : Calls Tryz.prog F.i_isGoodPair #[.agg #[.int .i64 p_0, .int .i64 p_1, p_2.v, p_3.v], x.v, y.v] w (Ret [.at .bool] Q) :=
  mkC (hint := hint) (ann := annOf []) (args := [.agg #[.int .i64 p_0, .int .i64 p_1, p_2.v, p_3.v], x.v, y.v]) (rs := [.at .bool]) Tryz.func152 (by kernel_rfl) (by kernel_rfl) h

def V_i_Problem_edgeChoice (Q : Sl → Bool → World → Prop) (p_0 : Int) (p_1 : Int) (p_2 : Sl) (p_3 : Sl) (lists : Sl) (w : World) : Prop :=
  NEW T.t_i_Problem #[.int .i64 p_0, .int .i64 p_1, p_2.v, p_3.v] w fun (p_p : Addr) w1 =>
  Calls Tryz.prog F.i_firstChoice #[lists.v, .func (.func F.i_Problem_edgeChoice_1) #[] #[.pointer (some p_p)]] w1 (Ret [.at .sl, .at .bool] fun (x8_0 : Sl) (x8_1 : Bool) w2 =>
  Q x8_0 x8_1 w2)

theorem C_i_Problem_edgeChoice {Q : Sl → Bool → World → Prop} {p_0 : Int} {p_1 : Int} {p_2 : Sl} {p_3 : Sl} {lists : Sl} {w : World} (h : V_i_Problem_edgeChoice Q p_0 p_1 p_2 p_3 lists w) : Calls Tryz.prog F.i_Problem_edgeChoice #[.agg #[.int .i64 p_0, .int .i64 p_1, p_2.v, p_3.v], lists.v] w (Ret [.at .sl, .at .bool] Q) :=
  mkC (hint := hint) (ann := annOf []) (args := [.agg #[.int .i64 p_0, .int .i64 p_1, p_2.v, p_3.v], lists.v]) (rs := [.at .sl, .at .bool]) Tryz.func156 (by kernel_rfl) (by kernel_rfl) h

def V_i_listsOf (Q : Sl → World → Prop) (sets : Sl) (numbers : Sl) (w : World) : Prop :=
  ∃ (I3 : Sl → Int → World → Prop) (m3 : Sl → Int → World → Nat), I3 (⟨none, 0, 0⟩) 0 w ∧ ∀ (out : Sl) (x10 : Int) w1, I3 out x10 w1 → ∀ _ _ _ _ _ _ _ _ _ _ _ _ _ : Value,
  cond (decide ((x10 : Int) < numbers.len)) (
  IX numbers x10 1 fun (px12 : Addr) =>
  LD [.int .i64] px12 w1 fun (x13 : Int) =>
  IX sets x13 1 fun (px17 : Addr) =>
  LD [.int .i64] px17 w1 fun (x18 : Int) =>
  Calls Tryz.prog F.i_labelsIn #[.int .i64 x18] w1 (Ret [.at .sl] fun (x19 : Sl) w2 =>
  RUN Tryz.prog (.at .sl) (Instr.buildSlice T.t_sl_sl_int 1 #[(0, x19.v)]) w2 fun (x20 : Sl) w3 =>
  RUN Tryz.prog (.at .sl) (bsem .append #[T.t_sl_sl_int, T.t_sl_sl_int] T.t_sl_sl_int #[out.v, x20.v]) w3 fun (x21 : Sl) w4 =>
  I3 x21 (IntKind.i64.wrap (x10 + 1)) w4 ∧ m3 x21 (IntKind.i64.wrap (x10 + 1)) w4 < m3 out x10 w1)) (
  Q out w1)

theorem C_i_listsOf {Q : Sl → World → Prop} {sets : Sl} {numbers : Sl} {w : World} (h : V_i_listsOf Q sets numbers w) : Calls Tryz.prog F.i_listsOf #[sets.v, numbers.v] w (Ret [.at .sl] Q) :=
  mkC (hint := hint) (ann := annOf [(3, ⟨[(5, .sl), (10, .int .i64)], [7, 11, 12, 13, 14, 15, 16, 17, 18, 19, 20, 21, 22]⟩)]) (args := [sets.v, numbers.v]) (rs := [.at .sl]) Tryz.func157 (by kernel_rfl) (by kernel_rfl) h

def V_i_badPair (Q : Sl → Bool → World → Prop) (p_0 : Int) (p_1 : Int) (p_2 : Sl) (p_3 : Sl) (x : Sl) (y : Sl) (w : World) : Prop :=
  NEW T.t_i_Problem #[.int .i64 p_0, .int .i64 p_1, p_2.v, p_3.v] w fun (p_p : Addr) w1 =>
  ∃ (I2 : Int → World → Prop) (m2 : Int → World → Nat), I2 0 w1 ∧ ∀ (x14 : Int) w2, I2 x14 w2 → ∀ _ _ _ _ _ _ _ _ _ _ _ _ _ _ _ _ _ _ _ _ _ _ _ : Value,
  cond (decide ((x14 : Int) < x.len)) (
  IX x x14 1 fun (px16 : Addr) =>
  LD [.int .i64] px16 w2 fun (x17 : Int) =>
  ∃ (I5 : Int → World → Prop) (m5 : Int → World → Nat), I5 0 w2 ∧ ∀ (x20 : Int) w3, I5 x20 w3 → ∀ _ _ _ _ _ _ _ _ _ _ _ _ _ _ _ : Value,
  cond (decide ((x20 : Int) < y.len)) (
  IX y x20 1 fun (px22 : Addr) =>
  LD [.int .i64] px22 w3 fun (x23 : Int) =>
  LD [.int .i64, .int .i64, .sl, .sl] p_p w3 fun (x24_0 : Int) (x24_1 : Int) (x24_2 : Sl) (x24_3 : Sl) =>
  Calls Tryz.prog F.i_Problem_edge #[.agg #[.int .i64 x24_0, .int .i64 x24_1, x24_2.v, x24_3.v], .int .i64 x17, .int .i64 x23] w3 (Ret [.at .bool] fun (x27 : Bool) w4 =>
  cond (!x27) (
  RUN Tryz.prog (.at .sl) (Instr.buildSlice T.t_sl_int 2 #[(0, .int .i64 x17), (1, .int .i64 x23)]) w4 fun (x31 : Sl) w5 =>
  Q x31 true w5) (
  I5 (IntKind.i64.wrap (x20 + 1)) w4 ∧ m5 (IntKind.i64.wrap (x20 + 1)) w4 < m5 x20 w3))) (
  I2 (IntKind.i64.wrap (x14 + 1)) w3 ∧ m2 (IntKind.i64.wrap (x14 + 1)) w3 < m2 x14 w2)) (
  Q (⟨none, 0, 0⟩) false w2)

theorem C_i_badPair {Q : Sl → Bool → World → Prop} {p_0 : Int} {p_1 : Int} {p_2 : Sl} {p_3 : Sl} {x : Sl} {y : Sl} {w : World} (h : V_i_badPair Q p_0 p_1 p_2 p_3 x y w) : Calls Tryz.prog F.i_badPair #[.agg #[.int .i64 p_0, .int .i64 p_1, p_2.v, p_3.v], x.v, y.v] w (Ret [.at .sl, .at .bool] Q) :=
  mkC (hint := hint) (ann := annOf [(2, ⟨[(14, .int .i64)], [6, 7, 9, 11, 15, 16, 17, 18, 19, 20, 21, 22, 23, 24, 25, 26, 27, 28, 29, 30, 31, 32, 33]⟩), (5, ⟨[(20, .int .i64)], [6, 7, 11, 21, 22, 23, 24, 25, 26, 27, 28, 29, 30, 31, 32]⟩)]) (args := [.agg #[.int .i64 p_0, .int .i64 p_1, p_2.v, p_3.v], x.v, y.v]) (rs := [.at .sl, .at .bool]) Tryz.func168 (by kernel_rfl) (by kernel_rfl) h

def V_s_l1Same (Q : Bool → World → Prop) (a : Sl) (b : Sl) (w : World) : Prop :=
  cond ((a.len : Int) != b.len) (
  Q false w) (
  ∃ (I4 : Int → World → Prop) (m4 : Int → World → Nat), I4 0 w ∧ ∀ (x13 : Int) w1, I4 x13 w1 → ∀ _ _ _ _ _ _ _ _ _ _ _ _ _ _ : Value,
  cond (decide ((x13 : Int) < a.len)) (
  IX a x13 1 fun (px18 : Addr) =>
  LD [.int .i64] px18 w1 fun (x19 : Int) =>
  IX b x13 1 fun (px22 : Addr) =>
  LD [.int .i64] px22 w1 fun (x23 : Int) =>
  ∀ w2, Ext w1 w2 →
  cond ((x19 : Int) != x23) (
  Q false w2) (
  I4 (IntKind.i64.wrap (x13 + 1)) w2 ∧ m4 (IntKind.i64.wrap (x13 + 1)) w2 < m4 x13 w1)) (
  Q true w1))

theorem C_s_l1Same {Q : Bool → World → Prop} {a : Sl} {b : Sl} {w : World} (h : V_s_l1Same Q a b w) : Calls Tryz.prog F.s_l1Same #[a.v, b.v] w (Ret [.at .bool] Q) :=
  mkC (hint := hint) (ann := annOf [(4, ⟨[(13, .int .i64)], [4, 5, 14, 15, 16, 17, 18, 19, 20, 21, 22, 23, 24, 25]⟩)]) (args := [a.v, b.v]) (rs := [.at .bool]) Tryz.func169 (by kernel_rfl) (by kernel_rfl) h

def V_s_prOrder (Q : Int → World → Prop) (a : Sl) (b : Sl) (w : World) : Prop :=
  ∃ (I2 : Int → World → Prop) (m2 : Int → World → Nat), I2 0 w ∧ ∀ (x9 : Int) w1, I2 x9 w1 → ∀ _ _ _ _ _ _ _ _ _ _ _ _ _ _ _ _ _ _ _ _ _ : Value,
  cond (decide ((x9 : Int) < a.len)) (
  IX a x9 1 fun (px12 : Addr) =>
  LD [.int .i64] px12 w1 fun (x13 : Int) =>
  IX b x9 1 fun (px17 : Addr) =>
  LD [.int .i64] px17 w1 fun (x18 : Int) =>
  cond ((x13 : Int) != x18) (
  IX b x9 1 fun (px23 : Addr) =>
  LD [.int .i64] px23 w1 fun (x24 : Int) =>
  Calls Tryz.prog F.s_l1Sign #[.int .i64 (IntKind.i64.wrap (x13 - x24))] w1 (Ret [.at (.int .i64)] fun (x26 : Int) w2 =>
  Q x26 w2)) (
  I2 (IntKind.i64.wrap (x9 + 1)) w1 ∧ m2 (IntKind.i64.wrap (x9 + 1)) w1 < m2 x9 w1)) (
  Q 0 w1)

theorem C_s_prOrder {Q : Int → World → Prop} {a : Sl} {b : Sl} {w : World} (h : V_s_prOrder Q a b w) : Calls Tryz.prog F.s_prOrder #[a.v, b.v] w (Ret [.at (.int .i64)] Q) :=
  mkC (hint := hint) (ann := annOf [(2, ⟨[(9, .int .i64)], [4, 5, 6, 10, 11, 12, 13, 14, 15, 16, 17, 18, 19, 20, 21, 22, 23, 24, 25, 26, 27]⟩)]) (args := [a.v, b.v]) (rs := [.at (.int .i64)]) Tryz.func170 (by kernel_rfl) (by kernel_rfl) h

def V_s_zeTwo (Q : Bool → World → Prop) (p_0 : Int) (p_1 : Int) (p_2 : Sl) (p_3 : Sl) (l : Sl) (x : Sl) (y : Sl) (w : World) : Prop :=
  NEW T.t_i_Problem #[.int .i64 p_0, .int .i64 p_1, p_2.v, p_3.v] w fun (p_p : Addr) w1 =>
  cond ((l.len : Int) == 2) (
  IX l 0 1 fun (px15 : Addr) =>
  LD [.int .i64] px15 w1 fun (x16 : Int) =>
  QCALL Tryz.prog F.s_l1Has #[x.v, .int .i64 x16] w1 [.at .bool] fun (x17 : Bool) =>
  cond x17 (
  IX l 1 1 fun (px22 : Addr) =>
  LD [.int .i64] px22 w1 fun (x23 : Int) =>
  QCALL Tryz.prog F.s_l1Has #[y.v, .int .i64 x23] w1 [.at .bool] fun (x24 : Bool) =>
  cond x24 (
  LD [.int .i64, .int .i64, .sl, .sl] p_p w1 fun (x27_0 : Int) (x27_1 : Int) (x27_2 : Sl) (x27_3 : Sl) =>
  IX l 0 1 fun (px29 : Addr) =>
  LD [.int .i64] px29 w1 fun (x30 : Int) =>
  IX l 1 1 fun (px32 : Addr) =>
  LD [.int .i64] px32 w1 fun (x33 : Int) =>
  QCALL Tryz.prog F.s_prEdge #[.agg #[.int .i64 x27_0, .int .i64 x27_1, x27_2.v, x27_3.v], .int .i64 x30, .int .i64 x33] w1 [.at .bool] fun (x34 : Bool) =>
  ∀ w2, Ext w1 w2 →
  Q (!x34) w2) (
  ∀ w3, Ext w1 w3 →
  Q false w3)) (
  ∀ w4, Ext w1 w4 →
  Q false w4)) (
  ∀ w5, Ext w1 w5 →
  Q false w5)

theorem C_s_zeTwo {Q : Bool → World → Prop} {p_0 : Int} {p_1 : Int} {p_2 : Sl} {p_3 : Sl} {l : Sl} {x : Sl} {y : Sl} {w : World} (h : V_s_zeTwo Q p_0 p_1 p_2 p_3 l x y w) : Calls Tryz.prog F.s_zeTwo #[.agg #[.int .i64 p_0, .int .i64 p_1, p_2.v, p_3.v], l.v, x.v, y.v] w (Ret [.at .bool] Q) :=
  mkC (hint := hint) (ann := annOf []) (args := [.agg #[.int .i64 p_0, .int .i64 p_1, p_2.v, p_3.v], l.v, x.v, y.v]) (rs := [.at .bool]) Tryz.func171 (by kernel_rfl) (by kernel_rfl) h

def V_s_reInto (Q : Bool → World → Prop) (l : Sl) (m : Sl) (f : Sl) (w : World) : Prop :=
  ∃ (I2 : Int → World → Prop) (m2 : Int → World → Nat), I2 0 w ∧ ∀ (x11 : Int) w1, I2 x11 w1 → ∀ _ _ _ _ _ _ _ _ _ _ _ _ _ : Value,
  cond (decide ((x11 : Int) < l.len)) (
  IX l x11 1 fun (px13 : Addr) =>
  LD [.sl] px13 w1 fun (x14 : Sl) =>
  Calls Tryz.prog F.s_coThrough #[f.v, x14.v] w1 (Ret [.at .sl] fun (x18 : Sl) w2 =>
  Calls Tryz.prog F.s_prSorted #[x18.v] w2 (Ret [.at .sl] fun (x19 : Sl) w3 =>
  Calls Tryz.prog F.s_prHas #[m.v, x19.v] w3 (Ret [.at .bool] fun (x20 : Bool) w4 =>
  cond (!x20) (
  Q false w4) (
  I2 (IntKind.i64.wrap (x11 + 1)) w4 ∧ m2 (IntKind.i64.wrap (x11 + 1)) w4 < m2 x11 w1))))) (
  Q true w1)

theorem C_s_reInto {Q : Bool → World → Prop} {l : Sl} {m : Sl} {f : Sl} {w : World} (h : V_s_reInto Q l m f w) : Calls Tryz.prog F.s_reInto #[l.v, m.v, f.v] w (Ret [.at .bool] Q) :=
  mkC (hint := hint) (ann := annOf [(2, ⟨[(11, .int .i64)], [6, 8, 12, 13, 14, 15, 16, 17, 18, 19, 20, 21, 22]⟩)]) (args := [l.v, m.v, f.v]) (rs := [.at .bool]) Tryz.func172 (by kernel_rfl) (by kernel_rfl) h

def V_slices_IsSorted_sl_int_int (Q : Bool → World → Prop) (x : Sl) (w : World) : Prop :=
  ∃ (I2 : Int → World → Prop) (m2 : Int → World → Nat), I2 (IntKind.i64.wrap (x.len - 1)) w ∧ ∀ (i : Int) w1, I2 i w1 → ∀ _ _ _ _ _ _ _ _ _ _ _ _ _ _ _ : Value,
  cond (decide ((i : Int) > 0)) (
  IX x i 1 fun (px13 : Addr) =>
  LD [.int .i64] px13 w1 fun (x14 : Int) =>
  IX x (IntKind.i64.wrap (i - 1)) 1 fun (px18 : Addr) =>
  LD [.int .i64] px18 w1 fun (x19 : Int) =>
  QCALL Tryz.prog F.cmp_Less_int #[.int .i64 x14, .int .i64 x19] w1 [.at .bool] fun (x20 : Bool) =>
  ∀ w2, Ext w1 w2 →
  cond x20 (
  Q false w2) (
  I2 (IntKind.i64.wrap (i - 1)) w2 ∧ m2 (IntKind.i64.wrap (i - 1)) w2 < m2 i w1)) (
  Q true w1)

theorem C_slices_IsSorted_sl_int_int {Q : Bool → World → Prop} {x : Sl} {w : World} (h : V_slices_IsSorted_sl_int_int Q x w) : Calls Tryz.prog F.slices_IsSorted_sl_int_int #[x.v] w (Ret [.at .bool] Q) :=
  mkC (hint := hint) (ann := annOf [(2, ⟨[(3, .int .i64)], [2, 7, 8, 9, 10, 11, 12, 13, 14, 15, 16, 17, 18, 19, 20]⟩)]) (args := [x.v]) (rs := [.at .bool]) Tryz.func173 (by kernel_rfl) (by kernel_rfl) h

def V_slices_Compare_sl_int_int (Q : Int → World → Prop) (s1 : Sl) (s2 : Sl) (w : World) : Prop :=
  ∃ (I2 : Int → World → Prop) (m2 : Int → World → Nat), I2 0 w ∧ ∀ (x11 : Int) w1, I2 x11 w1 → ∀ _ _ _ _ _ _ _ _ _ _ _ _ _ _ _ _ _ _ _ _ _ _ _ _ : Value,
  cond (decide ((x11 : Int) < s1.len)) (
  IX s1 x11 1 fun (px14 : Addr) =>
  LD [.int .i64] px14 w1 fun (x15 : Int) =>
  cond (decide ((x11 : Int) ≥ s2.len)) (
  Q 1 w1) (
  IX s2 x11 1 fun (px22 : Addr) =>
  LD [.int .i64] px22 w1 fun (x23 : Int) =>
  Calls Tryz.prog F.cmp_Compare_int #[.int .i64 x15, .int .i64 x23] w1 (Ret [.at (.int .i64)] fun (x26 : Int) w2 =>
  cond ((x26 : Int) != 0) (
  Q x26 w2) (
  I2 (IntKind.i64.wrap (x11 + 1)) w2 ∧ m2 (IntKind.i64.wrap (x11 + 1)) w2 < m2 x11 w1)))) (
  cond (decide ((s1.len : Int) < s2.len)) (
  Q (-1) w1) (
  Q 0 w1))

theorem C_slices_Compare_sl_int_int {Q : Int → World → Prop} {s1 : Sl} {s2 : Sl} {w : World} (h : V_slices_Compare_sl_int_int Q s1 s2 w) : Calls Tryz.prog F.slices_Compare_sl_int_int #[s1.v, s2.v] w (Ret [.at (.int .i64)] Q) :=
  mkC (hint := hint) (ann := annOf [(2, ⟨[(11, .int .i64)], [4, 5, 6, 7, 8, 12, 13, 14, 15, 16, 17, 18, 19, 20, 21, 22, 23, 24, 25, 26, 27, 28, 29, 30]⟩)]) (args := [s1.v, s2.v]) (rs := [.at (.int .i64)]) Tryz.func174 (by kernel_rfl) (by kernel_rfl) h

def V_i_beside_k3 (I3 : Int → Int → World → Prop) (m3 : Int → Int → World → Nat) (out : Int) (x9 : Int) (w2 : World) (out_2 : Int) (w10 : World) : Prop :=
  I3 out_2 (IntKind.i64.wrap (x9 + 1)) w10 ∧ m3 out_2 (IntKind.i64.wrap (x9 + 1)) w10 < m3 out x9 w2

def V_i_beside (Q : Int → World → Prop) (p_0 : Int) (p_1 : Int) (p_2 : Sl) (p_3 : Sl) (set1 : Int) (w : World) : Prop :=
  NEW T.t_i_Problem #[.int .i64 p_0, .int .i64 p_1, p_2.v, p_3.v] w fun (p_p : Addr) w1 =>
  LD [.int .i64] (p_p.add 0) w1 fun (x8 : Int) =>
  ∃ (I3 : Int → Int → World → Prop) (m3 : Int → Int → World → Nat), I3 0 0 w1 ∧ ∀ (out : Int) (x9 : Int) w2, I3 out x9 w2 → ∀ _ _ _ _ _ _ _ _ _ _ _ _ _ _ : Value,
  cond (decide ((x9 : Int) < x8)) (
  ∀ w3, Ext w2 w3 → w3.heap = w2.heap →
  LD [.int .i64, .int .i64, .sl, .sl] p_p w3 fun (x12_0 : Int) (x12_1 : Int) (x12_2 : Sl) (x12_3 : Sl) =>
  (
  Calls Tryz.prog F.i_labelsIn #[.int .i64 set1] w3 (Ret [.at .sl] fun (x14 : Sl) w4 =>
  Ext w3 w4 ∧ (
  RUN Tryz.prog (.at .sl) (Instr.buildSlice T.t_sl_int 1 #[(0, .int .i64 x9)]) w4 fun (x16 : Sl) w5 =>
  Ext w4 w5 ∧ (
  Calls Tryz.prog F.i_isGoodPair #[.agg #[.int .i64 x12_0, .int .i64 x12_1, x12_2.v, x12_3.v], x14.v, x16.v] w5 (Ret [.at .bool] fun (x17 : Bool) w6 =>
  Ext w5 w6 ∧ (
  cond x17 (
  (0 : Int) ≤ x9 ∧ (
  V_i_beside_k3 I3 m3 out x9 w2 (bitOr .i64 out (shlI .i64 1 x9)) w6)) (
  V_i_beside_k3 I3 m3 out x9 w2 out w6))))))) ∧ (
  RUN Tryz.prog (.at .sl) (Instr.buildSlice T.t_sl_int 1 #[(0, .int .i64 x9)]) w3 fun (x16_2 : Sl) w7 =>
  Ext w3 w7 ∧ (
  Calls Tryz.prog F.i_labelsIn #[.int .i64 set1] w7 (Ret [.at .sl] fun (x14_2 : Sl) w8 =>
  Ext w7 w8 ∧ (
  Calls Tryz.prog F.i_isGoodPair #[.agg #[.int .i64 x12_0, .int .i64 x12_1, x12_2.v, x12_3.v], x14_2.v, x16_2.v] w8 (Ret [.at .bool] fun (x17_2 : Bool) w9 =>
  Ext w8 w9 ∧ (
  cond x17_2 (
  (0 : Int) ≤ x9 ∧ (
  V_i_beside_k3 I3 m3 out x9 w2 (bitOr .i64 out (shlI .i64 1 x9)) w9)) (
  V_i_beside_k3 I3 m3 out x9 w2 out w9)))))))) (
  Q out w2)

theorem C_i_beside {Q : Int → World → Prop} {p_0 : Int} {p_1 : Int} {p_2 : Sl} {p_3 : Sl} {set1 : Int} {w : World} (h : V_i_beside Q p_0 p_1 p_2 p_3 set1 w) : Calls Tryz.prog F.i_beside #[.agg #[.int .i64 p_0, .int .i64 p_1, p_2.v, p_3.v], .int .i64 set1] w (Ret [.at (.int .i64)] Q) :=
  mkC (hint := hint) (ann := annOf [(3, ⟨[(5, .int .i64), (9, .int .i64)], [6, 10, 11, 12, 13, 14, 15, 16, 17, 18, 19, 20, 21, 22]⟩)]) (args := [.agg #[.int .i64 p_0, .int .i64 p_1, p_2.v, p_3.v], .int .i64 set1]) (rs := [.at (.int .i64)]) Tryz.func175 (by kernel_rfl) (by kernel_rfl) h

def V_i_newLabels (Q : Sl → Sl → World → Prop) (full : Sl) (w : World) : Prop :=
  Calls Tryz.prog F.slices_Concat_sl_int_int #[full.v] w (Ret [.at .sl] fun (x14 : Sl) w1 =>
  Calls Tryz.prog F.slices_Sort_sl_int_int #[x14.v] w1 (Ret [] fun w2 =>
  Calls Tryz.prog F.slices_Compact_sl_int_int #[x14.v] w2 (Ret [.at .sl] fun (x18 : Sl) w3 =>
  ∃ (I6 : Sl → Int → World → Prop) (m6 : Sl → Int → World → Nat), I6 (⟨none, 0, 0⟩) 0 w3 ∧ ∀ (out : Sl) (x21 : Int) w4, I6 out x21 w4 → ∀ _ _ _ _ _ _ _ _ _ _ _ _ _ _ _ _ _ _ _ _ _ _ _ _ _ _ _ _ _ _ _ _ : Value,
  cond (decide ((x21 : Int) < full.len)) (
  IX full x21 1 fun (px23 : Addr) =>
  LD [.sl] px23 w4 fun (x24 : Sl) =>
  ∃ (I10 : Sl → Int → World → Prop) (m10 : Sl → Int → World → Nat), I10 (⟨none, 0, 0⟩) 0 w4 ∧ ∀ (numbers : Sl) (x27 : Int) w5, I10 numbers x27 w5 → ∀ _ _ _ _ _ _ _ _ _ _ _ _ _ _ _ _ _ : Value,
  cond (decide ((x27 : Int) < x24.len)) (
  IX x24 x27 1 fun (px29 : Addr) =>
  LD [.int .i64] px29 w5 fun (x30 : Int) =>
  Calls Tryz.prog F.slices_BinarySearch_sl_int_int #[x18.v, .int .i64 x30] w5 (Ret [.at (.int .i64), .at .bool] fun (x34_0 : Int) (x34_1 : Bool) w6 =>
  RUN Tryz.prog (.at .sl) (Instr.buildSlice T.t_sl_int 1 #[(0, .int .i64 x34_0)]) w6 fun (x39 : Sl) w7 =>
  RUN Tryz.prog (.at .sl) (bsem .append #[T.t_sl_int, T.t_sl_int] T.t_sl_int #[numbers.v, x39.v]) w7 fun (x40 : Sl) w8 =>
  I10 x40 (IntKind.i64.wrap (x27 + 1)) w8 ∧ m10 x40 (IntKind.i64.wrap (x27 + 1)) w8 < m10 numbers x27 w5)) (
  Calls Tryz.prog F.slices_Sort_sl_int_int #[numbers.v] w5 (Ret [] fun w9 =>
  RUN Tryz.prog (.at .sl) (Instr.buildSlice T.t_sl_sl_int 1 #[(0, numbers.v)]) w9 fun (x46 : Sl) w10 =>
  RUN Tryz.prog (.at .sl) (bsem .append #[T.t_sl_sl_int, T.t_sl_sl_int] T.t_sl_sl_int #[out.v, x46.v]) w10 fun (x47 : Sl) w11 =>
  I6 x47 (IntKind.i64.wrap (x21 + 1)) w11 ∧ m6 x47 (IntKind.i64.wrap (x21 + 1)) w11 < m6 out x21 w4))) (
  Calls Tryz.prog F.i_sortedLists #[out.v] w4 (Ret [.at .sl] fun (x51 : Sl) w12 =>
  Q x18 x51 w12)))))

theorem C_i_newLabels {Q : Sl → Sl → World → Prop} {full : Sl} {w : World} (h : V_i_newLabels Q full w) : Calls Tryz.prog F.i_newLabels #[full.v] w (Ret [.at .sl, .at .sl] Q) :=
  mkC (hint := hint) (ann := annOf [(6, ⟨[(5, .sl), (21, .int .i64)], [7, 8, 10, 11, 12, 22, 23, 24, 25, 26, 27, 28, 29, 30, 31, 32, 33, 34, 35, 36, 37, 38, 39, 40, 41, 42, 43, 44, 45, 46, 47, 48]⟩), (10, ⟨[(8, .sl), (27, .int .i64)], [10, 11, 12, 28, 29, 30, 31, 32, 33, 34, 35, 36, 37, 38, 39, 40, 41]⟩)]) (args := [full.v]) (rs := [.at .sl, .at .sl]) Tryz.func176 (by kernel_rfl) (by kernel_rfl) h

def V_i_allowedBy (Q : Sl → World → Prop) (labels : Int) (size1 : Int) (good_f : Fn) (good_t : Array Value) (good_c : Array Value) (w : World) : Prop :=
  NEW T.t_func_sl_int_bool #[.func good_f good_t good_c] w fun (p_good : Addr) w1 =>
  Calls Tryz.prog F.i_multisets #[.int .i64 labels, .int .i64 size1] w1 (Ret [.at .sl] fun (x9 : Sl) w2 =>
  Calls Tryz.prog F.slices_DeleteFunc_sl_sl_int_sl_int #[x9.v, .func (.func F.i_allowedBy_1) #[] #[.pointer (some p_good)]] w2 (Ret [.at .sl] fun (x11 : Sl) w3 =>
  Q x11 w3))

theorem C_i_allowedBy {Q : Sl → World → Prop} {labels : Int} {size1 : Int} {good_f : Fn} {good_t : Array Value} {good_c : Array Value} {w : World} (h : V_i_allowedBy Q labels size1 good_f good_t good_c w) : Calls Tryz.prog F.i_allowedBy #[.int .i64 labels, .int .i64 size1, .func good_f good_t good_c] w (Ret [.at .sl] Q) :=
  mkC (hint := hint) (ann := annOf []) (args := [.int .i64 labels, .int .i64 size1, .func good_f good_t good_c]) (rs := [.at .sl]) Tryz.func177 (by kernel_rfl) (by kernel_rfl) h

def V_i_edgeStep_1 (Q : Bool → World → Prop) (c : Sl) (cap0 : Addr) (cap1 : Addr) (w : World) : Prop :=
  ∀ w1, Ext w w1 → w1.heap = w.heap →
  LD [.int .i64, .int .i64, .sl, .sl] cap0 w1 fun (x8_0 : Int) (x8_1 : Int) (x8_2 : Sl) (x8_3 : Sl) =>
  LD [.sl] cap1 w1 fun (x9 : Sl) =>
  Ext w1 w1 ∧ (
  Calls Tryz.prog F.i_listsOf #[x9.v, c.v] w1 (Ret [.at .sl] fun (x11 : Sl) w2 =>
  Ext w1 w2 ∧ (
  Calls Tryz.prog F.i_Problem_nodeChoice #[.agg #[.int .i64 x8_0, .int .i64 x8_1, x8_2.v, x8_3.v], x11.v] w2 (Ret [.at .sl, .at .bool] fun (x12_0 : Sl) (x12_1 : Bool) w3 =>
  Ext w1 w3 ∧ (
  Ext w1 w3 ∧ (
  Ext w1 w3 ∧ (
  Q x12_1 w3)))))))

theorem C_i_edgeStep_1 {Q : Bool → World → Prop} {c : Sl} {cap0 : Addr} {cap1 : Addr} {w : World} (h : V_i_edgeStep_1 Q c cap0 cap1 w) : Calls Tryz.prog F.i_edgeStep_1 #[c.v, .pointer (some cap0), .pointer (some cap1)] w (Ret [.at .bool] Q) :=
  mkC (hint := hint) (ann := annOf []) (args := [c.v, .pointer (some cap0), .pointer (some cap1)]) (rs := [.at .bool]) Tryz.func178 (by kernel_rfl) (by kernel_rfl) h

def V_i_Problem_nodeChoice (Q : Sl → Bool → World → Prop) (p_0 : Int) (p_1 : Int) (p_2 : Sl) (p_3 : Sl) (lists : Sl) (w : World) : Prop :=
  NEW T.t_i_Problem #[.int .i64 p_0, .int .i64 p_1, p_2.v, p_3.v] w fun (p_p : Addr) w1 =>
  Calls Tryz.prog F.i_firstChoice #[lists.v, .func (.func F.i_Problem_nodeChoice_1) #[] #[.pointer (some p_p)]] w1 (Ret [.at .sl, .at .bool] fun (x8_0 : Sl) (x8_1 : Bool) w2 =>
  Q x8_0 x8_1 w2)

theorem C_i_Problem_nodeChoice {Q : Sl → Bool → World → Prop} {p_0 : Int} {p_1 : Int} {p_2 : Sl} {p_3 : Sl} {lists : Sl} {w : World} (h : V_i_Problem_nodeChoice Q p_0 p_1 p_2 p_3 lists w) : Calls Tryz.prog F.i_Problem_nodeChoice #[.agg #[.int .i64 p_0, .int .i64 p_1, p_2.v, p_3.v], lists.v] w (Ret [.at .sl, .at .bool] Q) :=
  mkC (hint := hint) (ann := annOf []) (args := [.agg #[.int .i64 p_0, .int .i64 p_1, p_2.v, p_3.v], lists.v]) (rs := [.at .sl, .at .bool]) Tryz.func179 (by kernel_rfl) (by kernel_rfl) h

def V_i_newNodeSets (Q : Addr → World → Prop) (x0_0 : Int) (x0_1 : Int) (x0_2 : Sl) (x0_3 : Sl) (w : World) : Prop :=
  NEW T.t_i_Problem #[.int .i64 x0_0, .int .i64 x0_1, x0_2.v, x0_3.v] w fun (px1 : Addr) w1 =>
  LD [.int .i64] (px1.add 1) w1 fun (x11 : Int) =>
  ∃ (I3 : Int → Int → World → Prop) (m3 : Int → Int → World → Nat), I3 1 0 w1 ∧ ∀ (x3 : Int) (x13 : Int) w2, I3 x3 x13 w2 → ∀ _ _ _ _ _ _ : Value,
  cond (decide ((x13 : Int) < (IntKind.i64.wrap (x11 - 1)))) (
  LD [.int .i64] (px1.add 0) w2 fun (x17 : Int) =>
  I3 (IntKind.i64.wrap (x3 * x17)) (IntKind.i64.wrap (x13 + 1)) w2 ∧ m3 (IntKind.i64.wrap (x3 * x17)) (IntKind.i64.wrap (x13 + 1)) w2 < m3 x3 x13 w2) (
  ∀ w3, Ext w2 w3 → w3.heap = w2.heap →
  LD [.int .i64, .int .i64, .sl, .sl] px1 w3 fun (x20_0 : Int) (x20_1 : Int) (x20_2 : Sl) (x20_3 : Sl) =>
  Ext w3 w3 ∧ (
  RUN Tryz.prog (.at .sl) (Instr.makeSlice T.t_sl_int (.int .i64 x3) (.int .i64 x3)) w3 fun (x22 : Sl) w4 =>
  Ext w3 w4 ∧ (
  NEW T.t_i_nodeSets #[.int .i64 x20_0, .int .i64 x20_1, x20_2.v, x20_3.v, x22.v] w4 fun (px24 : Addr) w5 =>
  Ext w3 w5 ∧ (
  LD [.sl] (px24.add 4) w5 fun (x28 : Sl) =>
  ∃ (I8 : Int → World → Prop) (m8 : Int → World → Nat), I8 0 w5 ∧ ∀ (x30 : Int) w6, I8 x30 w6 → ∀ _ _ _ _ _ _ _ _ _ _ _ _ _ _ _ _ _ _ _ _ _ _ _ _ _ _ _ _ _ _ _ _ _ _ _ _ _ _ _ _ _ _ _ _ _ _ _ _ _ _ _ _ _ _ _ _ : Value,
  cond (decide ((x30 : Int) < x28.len)) (
  LD [.int .i64] (px1.add 1) w6 fun (x34 : Int) =>
  RUN Tryz.prog (.at .sl) (Instr.makeSlice T.t_sl_int (.int .i64 x34) (.int .i64 x34)) w6 fun (x35 : Sl) w7 =>
  LD [.int .i64] (px1.add 1) w7 fun (x38 : Int) =>
  ∃ (I13 : Int → Int → World → Prop) (m13 : Int → Int → World → Nat), I13 x30 0 w7 ∧ ∀ (x7 : Int) (x40 : Int) w8, I13 x7 x40 w8 → ∀ _ _ _ _ _ _ _ _ _ _ _ _ _ _ _ : Value,
  cond (decide ((x40 : Int) < (IntKind.i64.wrap (x38 - 1)))) (
  LD [.int .i64] (px1.add 0) w8 fun (x47 : Int) =>
  (x47 : Int) ≠ 0 ∧ (
  IX x35 x40 1 fun (px49 : Addr) =>
  ST px49 0 [.int .i64 (Int.tmod x7 x47)] w8 fun w9 =>
  LD [.int .i64] (px1.add 0) w9 fun (x52 : Int) =>
  (x52 : Int) ≠ 0 ∧ (
  I13 (IntKind.i64.wrap (Int.tdiv x7 x52)) (IntKind.i64.wrap (x40 + 1)) w9 ∧ m13 (IntKind.i64.wrap (Int.tdiv x7 x52)) (IntKind.i64.wrap (x40 + 1)) w9 < m13 x7 x40 w8))) (
  LD [.int .i64] (px1.add 0) w8 fun (x56 : Int) =>
  ∃ (I19 : Int → World → Prop) (m19 : Int → World → Nat), I19 0 w8 ∧ ∀ (x57 : Int) w10, I19 x57 w10 → ∀ _ _ _ _ _ _ _ _ _ _ _ _ _ _ _ _ _ _ _ _ _ _ _ _ : Value,
  cond (decide ((x57 : Int) < x56)) (
  LD [.int .i64] (px1.add 1) w10 fun (x62 : Int) =>
  IX x35 (IntKind.i64.wrap (x62 - 1)) 1 fun (px65 : Addr) =>
  ST px65 0 [.int .i64 x57] w10 fun w11 =>
  LD [.int .i64, .int .i64, .sl, .sl] px1 w11 fun (x66_0 : Int) (x66_1 : Int) (x66_2 : Sl) (x66_3 : Sl) =>
  Calls Tryz.prog F.i_Problem_node #[.agg #[.int .i64 x66_0, .int .i64 x66_1, x66_2.v, x66_3.v], x35.v] w11 (Ret [.at .bool] fun (x68 : Bool) w12 =>
  cond x68 (
  ∀ w13, Ext w12 w13 → w13.heap = w12.heap → ∃ (D13 : Nat → Prop),
  (0 : Int) ≤ x57 ∧ (
  Chg w13 w13 D13 ∧ (
  Chg w13 w13 D13 ∧ (
  LD [.sl] (px24.add 4) w13 fun (x72 : Sl) =>
  Chg w13 w13 D13 ∧ (
  IX x72 x30 1 fun (px74 : Addr) =>
  Chg w13 w13 D13 ∧ (
  LD [.int .i64] px74 w13 fun (x75 : Int) =>
  Chg w13 w13 D13 ∧ (
  Chg w13 w13 D13 ∧ (
  IX x72 x30 1 fun (px79 : Addr) =>
  ST px79 0 [.int .i64 (bitOr .i64 x75 (shlI .i64 1 x57))] w13 fun w14 =>
  I19 (IntKind.i64.wrap (x57 + 1)) w14 ∧ m19 (IntKind.i64.wrap (x57 + 1)) w14 < m19 x57 w10)))))))) (
  I19 (IntKind.i64.wrap (x57 + 1)) w12 ∧ m19 (IntKind.i64.wrap (x57 + 1)) w12 < m19 x57 w10))) (
  I8 (IntKind.i64.wrap (x30 + 1)) w10 ∧ m8 (IntKind.i64.wrap (x30 + 1)) w10 < m8 x30 w6))) (
  Q px24 w6)))))

theorem C_i_newNodeSets {Q : Addr → World → Prop} {x0_0 : Int} {x0_1 : Int} {x0_2 : Sl} {x0_3 : Sl} {w : World} (h : V_i_newNodeSets Q x0_0 x0_1 x0_2 x0_3 w) : Calls Tryz.prog F.i_newNodeSets #[.agg #[.int .i64 x0_0, .int .i64 x0_1, x0_2.v, x0_3.v]] w (Ret [.at .ptr] Q) :=
  mkC (hint := hint) (ann := annOf [(3, ⟨[(3, .int .i64), (13, .int .i64)], [14, 15, 16, 17, 18, 19]⟩), (8, ⟨[(30, .int .i64)], [5, 6, 7, 8, 9, 31, 32, 33, 34, 35, 36, 37, 38, 39, 40, 41, 42, 43, 44, 45, 46, 47, 48, 49, 50, 51, 52, 53, 54, 55, 56, 57, 58, 59, 60, 61, 62, 63, 64, 65, 66, 67, 68, 69, 70, 71, 72, 73, 74, 75, 76, 77, 78, 79, 80, 81]⟩), (13, ⟨[(7, .int .i64), (40, .int .i64)], [8, 41, 42, 43, 44, 45, 46, 47, 48, 49, 50, 51, 52, 53, 54]⟩), (19, ⟨[(57, .int .i64)], [9, 58, 59, 60, 61, 62, 63, 64, 65, 66, 67, 68, 69, 70, 71, 72, 73, 74, 75, 76, 77, 78, 79, 80]⟩)]) (args := [.agg #[.int .i64 x0_0, .int .i64 x0_1, x0_2.v, x0_3.v]]) (rs := [.at .ptr]) Tryz.func180 (by kernel_rfl) (by kernel_rfl) h

def V_ptr_i_nodeSets_fullLists_k2 (Q : Sl → World → Prop) (x0 : Addr) (x23_3 : Sl) (x24 : Int) (w4 : World) : Prop :=
  ∃ (I3 : Sl → Int → World → Prop) (m3 : Sl → Int → World → Nat), I3 (⟨none, 0, 0⟩) 0 w4 ∧ ∀ (x3 : Sl) (x25 : Int) w5, I3 x3 x25 w5 → ∀ _ _ _ _ _ _ _ _ _ _ _ _ _ _ _ _ _ _ _ _ _ _ _ _ _ _ _ _ _ _ _ _ _ _ _ _ _ _ _ _ _ _ _ _ : Value,
  cond (decide ((x25 : Int) < x24)) (
  IX x23_3 x25 1 fun (px27 : Addr) =>
  LD [.sl] px27 w5 fun (x28 : Sl) =>
  LD [.int .i64] ((x0.add 0).add 1) w5 fun (x33 : Int) =>
  RUN Tryz.prog (.at .sl) (Instr.makeSlice T.t_sl_int (.int .i64 0) (.int .i64 x33)) w5 fun (x34 : Sl) w6 =>
  ∃ (I7 : Sl → Int → World → Prop) (m7 : Sl → Int → World → Nat), I7 x34 0 w6 ∧ ∀ (x6 : Sl) (x37 : Int) w7, I7 x6 x37 w7 → ∀ _ _ _ _ _ _ _ _ _ _ : Value,
  cond (decide ((x37 : Int) < x28.len)) (
  IX x28 x37 1 fun (px39 : Addr) =>
  LD [.int .i64] px39 w7 fun (x40 : Int) =>
  RUN Tryz.prog (.at .sl) (Instr.buildSlice T.t_sl_int 1 #[(0, .int .i64 (IntKind.i64.wrap (x40 + 1)))]) w7 fun (x44 : Sl) w8 =>
  RUN Tryz.prog (.at .sl) (bsem .append #[T.t_sl_int, T.t_sl_int] T.t_sl_int #[x6.v, x44.v]) w8 fun (x45 : Sl) w9 =>
  I7 x45 (IntKind.i64.wrap (x37 + 1)) w9 ∧ m7 x45 (IntKind.i64.wrap (x37 + 1)) w9 < m7 x6 x37 w7) (
  Calls Tryz.prog F.ptr_i_nodeSets_completing #[.pointer (some x0), x6.v] w7 (Ret [.at (.int .i64)] fun (x49 : Int) w10 =>
  cond ((x49 : Int) == 0) (
  I3 x3 (IntKind.i64.wrap (x25 + 1)) w10 ∧ m3 x3 (IntKind.i64.wrap (x25 + 1)) w10 < m3 x3 x25 w5) (
  RUN Tryz.prog (.at .sl) (Instr.buildSlice T.t_sl_int 1 #[(0, .int .i64 x49)]) w10 fun (x54 : Sl) w11 =>
  RUN Tryz.prog (.at .sl) (bsem .append #[T.t_sl_int, T.t_sl_int] T.t_sl_int #[x6.v, x54.v]) w11 fun (x55 : Sl) w12 =>
  Calls Tryz.prog F.ptr_i_nodeSets_isFull #[.pointer (some x0), x55.v] w12 (Ret [.at .bool] fun (x58 : Bool) w13 =>
  cond x58 (
  Calls Tryz.prog F.slices_Sort_sl_int_int #[x55.v] w13 (Ret [] fun w14 =>
  RUN Tryz.prog (.at .sl) (Instr.buildSlice T.t_sl_sl_int 1 #[(0, x55.v)]) w14 fun (x63 : Sl) w15 =>
  RUN Tryz.prog (.at .sl) (bsem .append #[T.t_sl_sl_int, T.t_sl_sl_int] T.t_sl_sl_int #[x3.v, x63.v]) w15 fun (x64 : Sl) w16 =>
  I3 x64 (IntKind.i64.wrap (x25 + 1)) w16 ∧ m3 x64 (IntKind.i64.wrap (x25 + 1)) w16 < m3 x3 x25 w5)) (
  I3 x3 (IntKind.i64.wrap (x25 + 1)) w13 ∧ m3 x3 (IntKind.i64.wrap (x25 + 1)) w13 < m3 x3 x25 w5)))))) (
  Calls Tryz.prog F.i_sortedLists #[x3.v] w5 (Ret [.at .sl] fun (x67_3 : Sl) w19 =>
  Q x67_3 w19))

def V_ptr_i_nodeSets_fullLists (Q : Sl → World → Prop) (x0 : Addr) (w : World) : Prop :=
  ∀ w1, Ext w w1 → w1.heap = w.heap →
  (
  Ext w1 w1 ∧ (
  LD [.int .i64] ((x0.add 0).add 0) w1 fun (x14 : Int) =>
  (0 : Int) ≤ x14 ∧ (
  Ext w1 w1 ∧ (
  Ext w1 w1 ∧ (
  Ext w1 w1 ∧ (
  LD [.int .i64] ((x0.add 0).add 1) w1 fun (x21 : Int) =>
  Ext w1 w1 ∧ (
  Ext w1 w1 ∧ (
  Calls Tryz.prog F.i_multisets #[.int .i64 (IntKind.i64.wrap ((shlI .i64 1 x14) - 1)), .int .i64 (IntKind.i64.wrap (x21 - 1))] w1 (Ret [.at .sl] fun (x23 : Sl) w2 =>
  Ext w1 w2 ∧ (
  Ext w2 w2 ∧ (
  V_ptr_i_nodeSets_fullLists_k2 Q x0 x23 x23.len w2))))))))))) ∧ (
  Ext w1 w1 ∧ (
  LD [.int .i64] ((x0.add 0).add 1) w1 fun (x21_2 : Int) =>
  Ext w1 w1 ∧ (
  Ext w1 w1 ∧ (
  Ext w1 w1 ∧ (
  LD [.int .i64] ((x0.add 0).add 0) w1 fun (x14_2 : Int) =>
  Ext w1 w1 ∧ (
  (0 : Int) ≤ x14_2 ∧ (
  Ext w1 w1 ∧ (
  Ext w1 w1 ∧ (
  Calls Tryz.prog F.i_multisets #[.int .i64 (IntKind.i64.wrap ((shlI .i64 1 x14_2) - 1)), .int .i64 (IntKind.i64.wrap (x21_2 - 1))] w1 (Ret [.at .sl] fun (x23_2 : Sl) w3 =>
  Ext w1 w3 ∧ (
  Ext w3 w3 ∧ (
  V_ptr_i_nodeSets_fullLists_k2 Q x0 x23_2 x23_2.len w3))))))))))))

theorem C_ptr_i_nodeSets_fullLists {Q : Sl → World → Prop} {x0 : Addr} {w : World} (h : V_ptr_i_nodeSets_fullLists Q x0 w) : Calls Tryz.prog F.ptr_i_nodeSets_fullLists #[.pointer (some x0)] w (Ret [.at .sl] Q) :=
  mkC (hint := hint) (ann := annOf [(3, ⟨[(3, .sl), (25, .int .i64)], [5, 6, 8, 9, 26, 27, 28, 29, 30, 31, 32, 33, 34, 35, 36, 37, 38, 39, 40, 41, 42, 43, 44, 45, 46, 47, 48, 49, 50, 51, 52, 53, 54, 55, 56, 57, 58, 59, 60, 61, 62, 63, 64, 65]⟩), (7, ⟨[(6, .sl), (37, .int .i64)], [8, 38, 39, 40, 41, 42, 43, 44, 45, 46]⟩)]) (args := [.pointer (some x0)]) (rs := [.at .sl]) Tryz.func181 (by kernel_rfl) (by kernel_rfl) h

def V_i_nodeStep_1 (Q : Bool → World → Prop) (c : Sl) (cap0 : Addr) (cap1 : Addr) (w : World) : Prop :=
  ∀ w1, Ext w w1 → w1.heap = w.heap →
  LD [.int .i64, .int .i64, .sl, .sl] cap0 w1 fun (x8_0 : Int) (x8_1 : Int) (x8_2 : Sl) (x8_3 : Sl) =>
  LD [.sl] cap1 w1 fun (x9 : Sl) =>
  Ext w1 w1 ∧ (
  Calls Tryz.prog F.i_listsOf #[x9.v, c.v] w1 (Ret [.at .sl] fun (x11 : Sl) w2 =>
  Ext w1 w2 ∧ (
  Calls Tryz.prog F.i_Problem_edgeChoice #[.agg #[.int .i64 x8_0, .int .i64 x8_1, x8_2.v, x8_3.v], x11.v] w2 (Ret [.at .sl, .at .bool] fun (x12_0 : Sl) (x12_1 : Bool) w3 =>
  Ext w1 w3 ∧ (
  Ext w1 w3 ∧ (
  Ext w1 w3 ∧ (
  Q x12_1 w3)))))))

theorem C_i_nodeStep_1 {Q : Bool → World → Prop} {c : Sl} {cap0 : Addr} {cap1 : Addr} {w : World} (h : V_i_nodeStep_1 Q c cap0 cap1 w) : Calls Tryz.prog F.i_nodeStep_1 #[c.v, .pointer (some cap0), .pointer (some cap1)] w (Ret [.at .bool] Q) :=
  mkC (hint := hint) (ann := annOf []) (args := [c.v, .pointer (some cap0), .pointer (some cap1)]) (rs := [.at .bool]) Tryz.func182 (by kernel_rfl) (by kernel_rfl) h

def V_i_hasConfiguration (Q : Bool → World → Prop) (list : Sl) (labels : Sl) (w : World) : Prop :=
  Calls Tryz.prog F.slices_Values_sl_int_int #[labels.v] w (Ret [.at .val] fun (x10 : Value) w1 =>
  Calls Tryz.prog F.slices_Sorted_int #[x10] w1 (Ret [.at .sl] fun (x11 : Sl) w2 =>
  Calls Tryz.prog F.slices_BinarySearchFunc_sl_sl_int_sl_int_sl_int #[list.v, x11.v, .func (.func F.slices_Compare_sl_int_int) #[] #[]] w2 (Ret [.at (.int .i64), .at .bool] fun (x12_0 : Int) (x12_1 : Bool) w3 =>
  Q x12_1 w3)))

theorem C_i_hasConfiguration {Q : Bool → World → Prop} {list : Sl} {labels : Sl} {w : World} (h : V_i_hasConfiguration Q list labels w) : Calls Tryz.prog F.i_hasConfiguration #[list.v, labels.v] w (Ret [.at .bool] Q) :=
  mkC (hint := hint) (ann := annOf []) (args := [list.v, labels.v]) (rs := [.at .bool]) Tryz.func183 (by kernel_rfl) (by kernel_rfl) h

def V_slices_IndexFunc_sl_sl_int_sl_int (Q : Int → World → Prop) (s : Sl) (f : Value) (w : World) : Prop :=
  ∃ (I2 : Int → World → Prop) (m2 : Int → World → Nat), I2 0 w ∧ ∀ (x8 : Int) w1, I2 x8 w1 → ∀ _ _ _ _ _ _ _ _ _ _ _ _ : Value,
  cond (decide ((x8 : Int) < s.len)) (
  IX s x8 1 fun (px14 : Addr) =>
  LD [.sl] px14 w1 fun (x15 : Sl) =>
  CALLV Tryz.prog f #[x15.v] w1 (Ret [.at .bool] fun (x16 : Bool) w2 =>
  cond x16 (
  Q x8 w2) (
  I2 (IntKind.i64.wrap (x8 + 1)) w2 ∧ m2 (IntKind.i64.wrap (x8 + 1)) w2 < m2 x8 w1))) (
  Q (-1) w1)

theorem C_slices_IndexFunc_sl_sl_int_sl_int {Q : Int → World → Prop} {s : Sl} {f : Value} {w : World} (h : V_slices_IndexFunc_sl_sl_int_sl_int Q s f w) : Calls Tryz.prog F.slices_IndexFunc_sl_sl_int_sl_int #[s.v, f] w (Ret [.at (.int .i64)] Q) :=
  mkC (hint := hint) (ann := annOf [(2, ⟨[(8, .int .i64)], [4, 5, 9, 10, 11, 12, 13, 14, 15, 16, 17, 18]⟩)]) (args := [s.v, f]) (rs := [.at (.int .i64)]) Tryz.func184 (by kernel_rfl) (by kernel_rfl) h

def V_slices_Index_sl_int_int (Q : Int → World → Prop) (s : Sl) (v : Int) (w : World) : Prop :=
  ∃ (I2 : Int → World → Prop) (m2 : Int → World → Nat), I2 0 w ∧ ∀ (x8 : Int) w1, I2 x8 w1 → ∀ _ _ _ _ _ _ _ _ _ _ _ _ : Value,
  cond (decide ((x8 : Int) < s.len)) (
  IX s x8 1 fun (px14 : Addr) =>
  LD [.int .i64] px14 w1 fun (x15 : Int) =>
  cond ((v : Int) == x15) (
  Q x8 w1) (
  I2 (IntKind.i64.wrap (x8 + 1)) w1 ∧ m2 (IntKind.i64.wrap (x8 + 1)) w1 < m2 x8 w1)) (
  Q (-1) w1)

theorem C_slices_Index_sl_int_int {Q : Int → World → Prop} {s : Sl} {v : Int} {w : World} (h : V_slices_Index_sl_int_int Q s v w) : Calls Tryz.prog F.slices_Index_sl_int_int #[s.v, .int .i64 v] w (Ret [.at (.int .i64)] Q) :=
  mkC (hint := hint) (ann := annOf [(2, ⟨[(8, .int .i64)], [4, 5, 9, 10, 11, 12, 13, 14, 15, 16, 17, 18]⟩)]) (args := [s.v, .int .i64 v]) (rs := [.at (.int .i64)]) Tryz.func185 (by kernel_rfl) (by kernel_rfl) h

def V_s_elTabled_k4 (Q : Int → Int → Sl → Sl → Sl → World → Prop) (p_p : Addr) (px2 : Addr) (x : Addr) (w11 : World) : Prop :=
  LD [.sl] (x.add 4) w11 fun (x24 : Sl) =>
  ∃ (I8 : Int → World → Prop) (m8 : Int → World → Nat), I8 0 w11 ∧ ∀ (x26 : Int) w12, I8 x26 w12 → ∀ _ _ _ _ _ _ _ _ _ _ _ _ _ _ _ _ _ _ _ _ _ _ _ _ _ _ _ _ _ _ : Value,
  cond (decide ((x26 : Int) < x24.len)) (
  ∃ (I12 : Sl → Int → World → Prop) (m12 : Sl → Int → World → Nat), I12 (⟨none, 0, 0⟩) x26 w12 ∧ ∀ (l : Sl) (rest : Int) w13, I12 l rest w13 → ∀ _ _ _ _ _ _ _ _ _ _ _ _ _ _ _ _ : Value,
  LD [.int .i64] (p_p.add 1) w13 fun (x33 : Int) =>
  cond (decide ((l.len : Int) < x33)) (
  LD [.int .i64] (p_p.add 0) w13 fun (x42 : Int) =>
  (x42 : Int) ≠ 0 ∧ (
  RUN Tryz.prog (.at .sl) (Instr.buildSlice T.t_sl_int 1 #[(0, .int .i64 (Int.tmod rest x42))]) w13 fun (x44 : Sl) w14 =>
  RUN Tryz.prog (.at .sl) (bsem .append #[T.t_sl_int, T.t_sl_int] T.t_sl_int #[l.v, x44.v]) w14 fun (x45 : Sl) w15 =>
  LD [.int .i64] (p_p.add 0) w15 fun (x37 : Int) =>
  (x37 : Int) ≠ 0 ∧ (
  I12 x45 (IntKind.i64.wrap (Int.tdiv rest x37)) w15 ∧ m12 x45 (IntKind.i64.wrap (Int.tdiv rest x37)) w15 < m12 l rest w13))) (
  ∀ w16, Ext w13 w16 → w16.heap = w13.heap → ∃ (D16 : Nat → Prop),
  ¬ D16 (x.add 4).block ∧ (
  LD [.sl] (x.add 4) w16 fun (x47 : Sl) =>
  ¬ D16 p_p.block ∧ (
  LD [.int .i64, .int .i64, .sl, .sl] p_p w16 fun (x49_0 : Int) (x49_1 : Int) (x49_2 : Sl) (x49_3 : Sl) =>
  Chg w16 w16 D16 ∧ (
  Calls Tryz.prog F.s_prNode #[.agg #[.int .i64 x49_0, .int .i64 x49_1, x49_2.v, x49_3.v], l.v] w16 (Ret [.at .bool] fun (x51 : Bool) w17 =>
  Chg w16 w17 D16 ∧ (
  IX x47 x26 1 fun (px52 : Addr) =>
  ST px52 0 [.bool x51] w17 fun w18 =>
  I8 (IntKind.i64.wrap (x26 + 1)) w18 ∧ m8 (IntKind.i64.wrap (x26 + 1)) w18 < m8 x26 w12))))))) (
  LD [.int .i64, .int .i64, .sl, .sl, .sl] x w12 fun (x54_0 : Int) (x54_1 : Int) (x54_2 : Sl) (x54_3 : Sl) (x54_4 : Sl) =>
  ST px2 0 [.int .i64 x54_0, .int .i64 x54_1, x54_2.v, x54_3.v, x54_4.v] w12 fun w19 =>
  LD [.int .i64, .int .i64, .sl, .sl, .sl] px2 w19 fun (r0_0 : Int) (r0_1 : Int) (r0_2 : Sl) (r0_3 : Sl) (r0_4 : Sl) =>
  Q r0_0 r0_1 r0_2 r0_3 r0_4 w19)

def V_s_elTabled (Q : Int → Int → Sl → Sl → Sl → World → Prop) (p_0 : Int) (p_1 : Int) (p_2 : Sl) (p_3 : Sl) (w : World) : Prop :=
  NEW T.t_i_Problem #[.int .i64 p_0, .int .i64 p_1, p_2.v, p_3.v] w fun (p_p : Addr) w1 =>
  NEW T.t_s_elTable #[.int .i64 0, .int .i64 0, .slice none 0 0, .slice none 0 0, .slice none 0 0] w1 fun (px2 : Addr) w2 =>
  ∃ (I3 : Int → Int → World → Prop) (m3 : Int → Int → World → Nat), I3 1 0 w2 ∧ ∀ (size1 : Int) (k : Int) w3, I3 size1 k w3 → ∀ _ _ _ _ _ _ _ _ _ _ : Value,
  LD [.int .i64] (p_p.add 1) w3 fun (x11 : Int) =>
  cond (decide ((k : Int) < x11)) (
  LD [.int .i64] (p_p.add 0) w3 fun (x17 : Int) =>
  I3 (IntKind.i64.wrap (size1 * x17)) (IntKind.i64.wrap (k + 1)) w3 ∧ m3 (IntKind.i64.wrap (size1 * x17)) (IntKind.i64.wrap (k + 1)) w3 < m3 size1 k w3) (
  ∀ w4, Ext w3 w4 → w4.heap = w3.heap → ∃ (D4 : Nat → Prop),
  ¬ D4 p_p.block ∧ (
  LD [.int .i64, .int .i64, .sl, .sl] p_p w4 fun (x19_0 : Int) (x19_1 : Int) (x19_2 : Sl) (x19_3 : Sl) =>
  (
  RUN Tryz.prog (.at .sl) (Instr.makeSlice T.t_sl_bool (.int .i64 size1) (.int .i64 size1)) w4 fun (x21 : Sl) w5 =>
  Chg w4 w5 D4 ∧ (
  NEW T.t_s_elTable #[.int .i64 0, .int .i64 0, .slice none 0 0, .slice none 0 0, .slice none 0 0] w5 fun (px : Addr) w6 =>
  Chg w4 w6 D4 ∧ (
  ST px 0 [.int .i64 x19_0, .int .i64 x19_1, x19_2.v, x19_3.v, x21.v] w6 fun w7 =>
  Chg w4 w7 D4 ∧ (
  V_s_elTabled_k4 Q p_p px2 px w7)))) ∧ (
  NEW T.t_s_elTable #[.int .i64 0, .int .i64 0, .slice none 0 0, .slice none 0 0, .slice none 0 0] w4 fun (px_2 : Addr) w8 =>
  Chg w4 w8 D4 ∧ (
  RUN Tryz.prog (.at .sl) (Instr.makeSlice T.t_sl_bool (.int .i64 size1) (.int .i64 size1)) w8 fun (x21_2 : Sl) w9 =>
  Chg w4 w9 D4 ∧ (
  Chg w4 w9 D4 ∧ (
  ST px_2 0 [.int .i64 x19_0, .int .i64 x19_1, x19_2.v, x19_3.v, x21_2.v] w9 fun w10 =>
  Chg w4 w10 D4 ∧ (
  V_s_elTabled_k4 Q p_p px2 px_2 w10)))))))

theorem C_s_elTabled {Q : Int → Int → Sl → Sl → Sl → World → Prop} {p_0 : Int} {p_1 : Int} {p_2 : Sl} {p_3 : Sl} {w : World} (h : V_s_elTabled Q p_0 p_1 p_2 p_3 w) : Calls Tryz.prog F.s_elTabled #[.agg #[.int .i64 p_0, .int .i64 p_1, p_2.v, p_3.v]] w (Ret [.agg [.int .i64, .int .i64, .sl, .sl, .sl]] Q) :=
  mkC (hint := hint) (ann := annOf [(3, ⟨[(3, .int .i64), (4, .int .i64)], [9, 10, 11, 12, 13, 14, 15, 16, 17, 18]⟩), (8, ⟨[(26, .int .i64)], [6, 7, 8, 27, 28, 29, 30, 31, 32, 33, 34, 35, 36, 37, 38, 39, 40, 41, 42, 43, 44, 45, 46, 47, 48, 49, 50, 51, 52, 53]⟩), (12, ⟨[(7, .sl), (8, .int .i64)], [30, 31, 32, 33, 34, 35, 36, 37, 38, 39, 40, 41, 42, 43, 44, 45]⟩)]) (args := [.agg #[.int .i64 p_0, .int .i64 p_1, p_2.v, p_3.v]]) (rs := [.agg [.int .i64, .int .i64, .sl, .sl, .sl]]) Tryz.func186 (by kernel_rfl) (by kernel_rfl) h

def V_s_reChoices_k7 (I7 : Sl → Int → World → Prop) (m7 : Sl → Int → World → Nat) (x20 : Int) (w3 : World) (labels : Int) (next1 : Sl) (x23 : Sl) (from1 : Int) (w4 : World) : Prop :=
  ∃ (I13 : Sl → Int → World → Prop) (m13 : Sl → Int → World → Nat), I13 next1 from1 w4 ∧ ∀ (next1_2 : Sl) (a : Int) w5, I13 next1_2 a w5 → ∀ _ _ _ _ _ _ _ _ _ _ _ _ _ : Value,
  cond (decide ((a : Int) < labels)) (
  Calls Tryz.prog F.s_l1Own #[x23.v] w5 (Ret [.at .sl] fun (x39 : Sl) w6 =>
  RUN Tryz.prog (.at .sl) (Instr.buildSlice T.t_sl_int 1 #[(0, .int .i64 a)]) w6 fun (x41 : Sl) w7 =>
  RUN Tryz.prog (.at .sl) (bsem .append #[T.t_sl_int, T.t_sl_int] T.t_sl_int #[x39.v, x41.v]) w7 fun (x42 : Sl) w8 =>
  RUN Tryz.prog (.at .sl) (Instr.buildSlice T.t_sl_sl_int 1 #[(0, x42.v)]) w8 fun (x43 : Sl) w9 =>
  RUN Tryz.prog (.at .sl) (bsem .append #[T.t_sl_sl_int, T.t_sl_sl_int] T.t_sl_sl_int #[next1_2.v, x43.v]) w9 fun (x44 : Sl) w10 =>
  I13 x44 (IntKind.i64.wrap (a + 1)) w10 ∧ m13 x44 (IntKind.i64.wrap (a + 1)) w10 < m13 next1_2 a w5)) (
  I7 next1_2 (IntKind.i64.wrap (x20 + 1)) w5 ∧ m7 next1_2 (IntKind.i64.wrap (x20 + 1)) w5 < m7 next1 x20 w3)

def V_s_reChoices (Q : Sl → World → Prop) (labels : Int) (size1 : Int) (w : World) : Prop :=
  RUN Tryz.prog (.at .sl) (Instr.buildSlice T.t_sl_sl_int 1 #[(0, .slice none 0 0)]) w fun (x12 : Sl) w1 =>
  ∃ (I3 : Sl → Int → World → Prop) (m3 : Sl → Int → World → Nat), I3 x12 0 w1 ∧ ∀ (out : Sl) (k : Int) w2, I3 out k w2 → ∀ _ _ _ _ _ _ _ _ _ _ _ _ _ _ _ _ _ _ _ _ _ _ _ _ _ _ _ _ _ _ _ _ _ _ _ _ _ _ : Value,
  cond (decide ((k : Int) < size1)) (
  ∃ (I7 : Sl → Int → World → Prop) (m7 : Sl → Int → World → Nat), I7 (⟨none, 0, 0⟩) 0 w2 ∧ ∀ (next1 : Sl) (x20 : Int) w3, I7 next1 x20 w3 → ∀ _ _ _ _ _ _ _ _ _ _ _ _ _ _ _ _ _ _ _ _ _ _ _ _ _ _ _ _ : Value,
  cond (decide ((x20 : Int) < out.len)) (
  IX out x20 1 fun (px22 : Addr) =>
  LD [.sl] px22 w3 fun (x23 : Sl) =>
  cond (decide ((k : Int) > 0)) (
  IX x23 (IntKind.i64.wrap (k - 1)) 1 fun (px29 : Addr) =>
  LD [.int .i64] px29 w3 fun (x30 : Int) =>
  V_s_reChoices_k7 I7 m7 x20 w3 labels next1 x23 x30 w3) (
  V_s_reChoices_k7 I7 m7 x20 w3 labels next1 x23 0 w3)) (
  I3 next1 (IntKind.i64.wrap (k + 1)) w3 ∧ m3 next1 (IntKind.i64.wrap (k + 1)) w3 < m3 out k w2)) (
  Q out w2)

theorem C_s_reChoices {Q : Sl → World → Prop} {labels : Int} {size1 : Int} {w : World} (h : V_s_reChoices Q labels size1 w) : Calls Tryz.prog F.s_reChoices #[.int .i64 labels, .int .i64 size1] w (Ret [.at .sl] Q) :=
  mkC (hint := hint) (ann := annOf [(3, ⟨[(5, .sl), (6, .int .i64)], [7, 9, 10, 11, 13, 14, 15, 16, 17, 18, 19, 20, 21, 22, 23, 24, 25, 26, 27, 28, 29, 30, 31, 32, 33, 34, 35, 36, 37, 38, 39, 40, 41, 42, 43, 44, 45, 46]⟩), (7, ⟨[(7, .sl), (20, .int .i64)], [9, 10, 11, 21, 22, 23, 24, 25, 26, 27, 28, 29, 30, 31, 32, 33, 34, 35, 36, 37, 38, 39, 40, 41, 42, 43, 44, 45]⟩), (13, ⟨[(7, .sl), (11, .int .i64)], [32, 33, 34, 35, 36, 37, 38, 39, 40, 41, 42, 43, 44]⟩)]) (args := [.int .i64 labels, .int .i64 size1]) (rs := [.at .sl]) Tryz.func187 (by kernel_rfl) (by kernel_rfl) h

def V_s_elTable_rest (Q : Int → World → Prop) (x0_0 : Int) (x0_1 : Int) (x0_2 : Sl) (x0_3 : Sl) (x0_4 : Sl) (x1 : Sl) (x2 : Int) (w : World) : Prop :=
  NEW T.t_s_elTable #[.int .i64 x0_0, .int .i64 x0_1, x0_2.v, x0_3.v, x0_4.v] w fun (px3 : Addr) w1 =>
  cond ((x1.len : Int) == 0) (
  ∃ (I4 : Int → Int → World → Prop) (m4 : Int → Int → World → Nat), I4 0 0 w1 ∧ ∀ (x7 : Int) (x8 : Int) w2, I4 x7 x8 w2 → ∀ _ _ _ _ _ _ _ _ _ _ _ _ _ _ _ _ _ _ _ _ _ _ : Value,
  LD [.int .i64] ((px3.add 0).add 0) w2 fun (x18 : Int) =>
  cond (decide ((x8 : Int) < x18)) (
  LD [.sl] (px3.add 4) w2 fun (x23 : Sl) =>
  LD [.int .i64] ((px3.add 0).add 0) w2 fun (x27 : Int) =>
  IX x23 (IntKind.i64.wrap ((IntKind.i64.wrap (x2 * x27)) + x8)) 1 fun (px31 : Addr) =>
  LD [.bool] px31 w2 fun (x32 : Bool) =>
  cond x32 (
  (0 : Int) ≤ x8 ∧ (
  I4 (IntKind.i64.wrap (x7 + (shlI .i64 1 x8))) (IntKind.i64.wrap (x8 + 1)) w2 ∧ m4 (IntKind.i64.wrap (x7 + (shlI .i64 1 x8))) (IntKind.i64.wrap (x8 + 1)) w2 < m4 x7 x8 w2)) (
  I4 x7 (IntKind.i64.wrap (x8 + 1)) w2 ∧ m4 x7 (IntKind.i64.wrap (x8 + 1)) w2 < m4 x7 x8 w2)) (
  Q x7 w2)) (
  LD [.int .i64] ((px3.add 0).add 0) w1 fun (x40 : Int) =>
  (0 : Int) ≤ x40 ∧ (
  IX x1 0 1 fun (px44 : Addr) =>
  LD [.int .i64] px44 w1 fun (x45 : Int) =>
  Calls Tryz.prog F.s_elLabels #[.int .i64 x45] w1 (Ret [.at .sl] fun (x46 : Sl) w3 =>
  ∃ (I11 : Int → Int → World → Prop) (m11 : Int → Int → World → Nat), I11 (IntKind.i64.wrap ((shlI .i64 1 x40) - 1)) 0 w3 ∧ ∀ (x9 : Int) (x48 : Int) w4, I11 x9 x48 w4 → ∀ _ _ _ _ _ _ _ _ _ _ _ _ _ _ _ _ _ _ _ _ : Value,
  cond (decide ((x48 : Int) < x46.len)) (
  IX x46 x48 1 fun (px50 : Addr) =>
  LD [.int .i64] px50 w4 fun (x51 : Int) =>
  cond (decide ((x9 : Int) > 0)) (
  LD [.int .i64, .int .i64, .sl, .sl, .sl] px3 w4 fun (x55_0 : Int) (x55_1 : Int) (x55_2 : Sl) (x55_3 : Sl) (x55_4 : Sl) =>
  SLC x1 (some 1) none 1 fun (x57 : Sl) =>
  LD [.int .i64] ((px3.add 0).add 0) w4 fun (x61 : Int) =>
  QCALL Tryz.prog F.s_elTable_rest #[.agg #[.int .i64 x55_0, .int .i64 x55_1, x55_2.v, x55_3.v, x55_4.v], x57.v, .int .i64 (IntKind.i64.wrap ((IntKind.i64.wrap (x2 * x61)) + x51))] w4 [.at (.int .i64)] fun (x65 : Int) =>
  ∀ w5, Ext w4 w5 →
  I11 (bitAnd .i64 x9 x65) (IntKind.i64.wrap (x48 + 1)) w5 ∧ m11 (bitAnd .i64 x9 x65) (IntKind.i64.wrap (x48 + 1)) w5 < m11 x9 x48 w4) (
  I11 x9 (IntKind.i64.wrap (x48 + 1)) w4 ∧ m11 x9 (IntKind.i64.wrap (x48 + 1)) w4 < m11 x9 x48 w4)) (
  Q x9 w4))))

theorem C_s_elTable_rest {Q : Int → World → Prop} {x0_0 : Int} {x0_1 : Int} {x0_2 : Sl} {x0_3 : Sl} {x0_4 : Sl} {x1 : Sl} {x2 : Int} {w : World} (h : V_s_elTable_rest Q x0_0 x0_1 x0_2 x0_3 x0_4 x1 x2 w) : Calls Tryz.prog F.s_elTable_rest #[.agg #[.int .i64 x0_0, .int .i64 x0_1, x0_2.v, x0_3.v, x0_4.v], x1.v, .int .i64 x2] w (Ret [.at (.int .i64)] Q) :=
  mkC (hint := hint) (ann := annOf [(4, ⟨[(7, .int .i64), (8, .int .i64)], [15, 16, 17, 18, 19, 20, 21, 22, 23, 24, 25, 26, 27, 28, 29, 30, 31, 32, 33, 34, 35, 36]⟩), (11, ⟨[(9, .int .i64), (48, .int .i64)], [11, 49, 50, 51, 52, 53, 54, 55, 56, 57, 58, 59, 60, 61, 62, 63, 64, 65, 66, 67]⟩)]) (args := [.agg #[.int .i64 x0_0, .int .i64 x0_1, x0_2.v, x0_3.v, x0_4.v], x1.v, .int .i64 x2]) (rs := [.at (.int .i64)]) Tryz.func188 (by kernel_rfl) (by kernel_rfl) h

def V_s_elTable_full (Q : Bool → World → Prop) (x_0 : Int) (x_1 : Int) (x_2 : Sl) (x_3 : Sl) (x_4 : Sl) (sets : Sl) (w : World) : Prop :=
  NEW T.t_s_elTable #[.int .i64 x_0, .int .i64 x_1, x_2.v, x_3.v, x_4.v] w fun (px : Addr) w1 =>
  ∃ (I2 : Int → World → Prop) (m2 : Int → World → Nat), I2 0 w1 ∧ ∀ (x10 : Int) w2, I2 x10 w2 → ∀ _ _ _ _ _ _ _ _ _ _ _ _ _ _ _ _ _ _ _ _ _ _ _ : Value,
  cond (decide ((x10 : Int) < sets.len)) (
  IX sets x10 1 fun (px13 : Addr) =>
  LD [.int .i64] px13 w2 fun (x14 : Int) =>
  ∀ w3, Ext w2 w3 → w3.heap = w2.heap → ∃ (D3 : Nat → Prop),
  SLC sets none (some x10) 1 fun (x17 : Sl) =>
  SLC sets (some (IntKind.i64.wrap (x10 + 1))) none 1 fun (x22 : Sl) =>
  Calls Tryz.prog F.s_l1Own #[x17.v] w3 (Ret [.at .sl] fun (x18 : Sl) w4 =>
  Chg w3 w4 D3 ∧ (
  RUN Tryz.prog (.at .sl) (bsem .append #[T.t_sl_int, T.t_sl_int] T.t_sl_int #[x18.v, x22.v]) w4 fun (x23 : Sl) w5 =>
  Chg w3 w5 D3 ∧ (
  LD [.int .i64, .int .i64, .sl, .sl, .sl] px w5 fun (x24_0 : Int) (x24_1 : Int) (x24_2 : Sl) (x24_3 : Sl) (x24_4 : Sl) =>
  Calls Tryz.prog F.s_elTable_rest #[.agg #[.int .i64 x24_0, .int .i64 x24_1, x24_2.v, x24_3.v, x24_4.v], x23.v, .int .i64 0] w5 (Ret [.at (.int .i64)] fun (x26 : Int) w6 =>
  cond ((x26 : Int) != x14) (
  Q false w6) (
  I2 (IntKind.i64.wrap (x10 + 1)) w6 ∧ m2 (IntKind.i64.wrap (x10 + 1)) w6 < m2 x10 w2)))))) (
  Q true w2)

theorem C_s_elTable_full {Q : Bool → World → Prop} {x_0 : Int} {x_1 : Int} {x_2 : Sl} {x_3 : Sl} {x_4 : Sl} {sets : Sl} {w : World} (h : V_s_elTable_full Q x_0 x_1 x_2 x_3 x_4 sets w) : Calls Tryz.prog F.s_elTable_full #[.agg #[.int .i64 x_0, .int .i64 x_1, x_2.v, x_3.v, x_4.v], sets.v] w (Ret [.at .bool] Q) :=
  mkC (hint := hint) (ann := annOf [(2, ⟨[(10, .int .i64)], [4, 5, 6, 7, 11, 12, 13, 14, 15, 16, 17, 18, 19, 20, 21, 22, 23, 24, 25, 26, 27, 28, 29]⟩)]) (args := [.agg #[.int .i64 x_0, .int .i64 x_1, x_2.v, x_3.v, x_4.v], sets.v]) (rs := [.at .bool]) Tryz.func189 (by kernel_rfl) (by kernel_rfl) h

def V_s_elMade (Q : Int → Int → Sl → Sl → Sl → Bool → World → Prop) (x0_0 : Int) (x0_1 : Int) (x0_2 : Sl) (x0_3 : Sl) (x1 : Sl) (x2 : Bool) (w : World) : Prop :=
  NEW T.t_i_Problem #[.int .i64 x0_0, .int .i64 x0_1, x0_2.v, x0_3.v] w fun (px3 : Addr) w1 =>
  NEW T.t_i_Problem #[.int .i64 0, .int .i64 0, .slice none 0 0, .slice none 0 0] w1 fun (px6 : Addr) w2 =>
  ∃ (I3 : Sl → Int → World → Prop) (m3 : Sl → Int → World → Nat), I3 (⟨none, 0, 0⟩) 0 w2 ∧ ∀ (x9 : Sl) (x20 : Int) w3, I3 x9 x20 w3 → ∀ _ _ _ _ _ _ _ _ _ _ _ _ _ _ _ _ : Value,
  cond (decide ((x20 : Int) < x1.len)) (
  IX x1 x20 1 fun (px22 : Addr) =>
  LD [.sl] px22 w3 fun (x23 : Sl) =>
  ∃ (I6 : Sl → Int → World → Prop) (m6 : Sl → Int → World → Nat), I6 x9 0 w3 ∧ ∀ (x9_2 : Sl) (x26 : Int) w4, I6 x9_2 x26 w4 → ∀ _ _ _ _ _ _ _ _ : Value,
  cond (decide ((x26 : Int) < x23.len)) (
  IX x23 x26 1 fun (px28 : Addr) =>
  LD [.int .i64] px28 w4 fun (x29 : Int) =>
  Calls Tryz.prog F.s_l1Put #[x9_2.v, .int .i64 x29] w4 (Ret [.at .sl] fun (x32 : Sl) w5 =>
  I6 x32 (IntKind.i64.wrap (x26 + 1)) w5 ∧ m6 x32 (IntKind.i64.wrap (x26 + 1)) w5 < m6 x9_2 x26 w4)) (
  I3 x9_2 (IntKind.i64.wrap (x20 + 1)) w4 ∧ m3 x9_2 (IntKind.i64.wrap (x20 + 1)) w4 < m3 x9 x20 w3)) (
  Calls Tryz.prog F.s_l1In #[.int .i64 x9.len, .int .i64 1, .int .i64 8] w3 (Ret [.at .bool] fun (x37 : Bool) w6 =>
  cond (!x37) (
  ST px6 0 [.int .i64 0, .int .i64 0, .slice none 0 0, .slice none 0 0] w6 fun w7 =>
  LD [.int .i64, .int .i64, .sl, .sl] px6 w7 fun (r0_0 : Int) (r0_1 : Int) (r0_2 : Sl) (r0_3 : Sl) =>
  Q r0_0 r0_1 r0_2 r0_3 (⟨none, 0, 0⟩) false w7) (
  LD [.int .i64] (px3.add 1) w6 fun (x43 : Int) =>
  NEW T.t_i_Problem #[.int .i64 0, .int .i64 0, .slice none 0 0, .slice none 0 0] w6 fun (px14 : Addr) w8 =>
  ST px14 0 [.int .i64 x9.len, .int .i64 x43, .slice none 0 0, .slice none 0 0] w8 fun w9 =>
  ∃ (I16 : Sl → Int → World → Prop) (m16 : Sl → Int → World → Nat), I16 (⟨none, 0, 0⟩) 0 w9 ∧ ∀ (x15 : Sl) (x47 : Int) w10, I16 x15 x47 w10 → ∀ _ _ _ _ _ _ _ _ _ _ : Value,
  cond (decide ((x47 : Int) < x1.len)) (
  IX x1 x47 1 fun (px49 : Addr) =>
  LD [.sl] px49 w10 fun (x50 : Sl) =>
  Calls Tryz.prog F.s_elNumbers #[x9.v, x50.v] w10 (Ret [.at .sl] fun (x54 : Sl) w11 =>
  Calls Tryz.prog F.s_prInsert #[x15.v, x54.v] w11 (Ret [.at .sl] fun (x55 : Sl) w12 =>
  I16 x55 (IntKind.i64.wrap (x47 + 1)) w12 ∧ m16 x55 (IntKind.i64.wrap (x47 + 1)) w12 < m16 x15 x47 w10))) (
  cond x2 (
  ST (px14.add 3) 0 [x15.v] w10 fun w13 =>
  LD [.sl] (px3.add 2) w13 fun (x61 : Sl) =>
  LD [.int .i64] (px3.add 1) w13 fun (x64 : Int) =>
  Calls Tryz.prog F.s_elSome #[x61.v, x9.v, .int .i64 x64] w13 (Ret [.at .sl] fun (x65 : Sl) w14 =>
  ST (px14.add 2) 0 [x65.v] w14 fun w15 =>
  LD [.int .i64, .int .i64, .sl, .sl] px14 w15 fun (x74_0 : Int) (x74_1 : Int) (x74_2 : Sl) (x74_3 : Sl) =>
  ST px6 0 [.int .i64 x74_0, .int .i64 x74_1, x74_2.v, x74_3.v] w15 fun w19 =>
  LD [.int .i64, .int .i64, .sl, .sl] px6 w19 fun (r0_0_2 : Int) (r0_1_2 : Int) (r0_2_2 : Sl) (r0_3_2 : Sl) =>
  Q r0_0_2 r0_1_2 r0_2_2 r0_3_2 x9 true w19)) (
  ST (px14.add 2) 0 [x15.v] w10 fun w16 =>
  LD [.sl] (px3.add 3) w16 fun (x70 : Sl) =>
  Calls Tryz.prog F.s_elSome #[x70.v, x9.v, .int .i64 2] w16 (Ret [.at .sl] fun (x72 : Sl) w17 =>
  ST (px14.add 3) 0 [x72.v] w17 fun w18 =>
  LD [.int .i64, .int .i64, .sl, .sl] px14 w18 fun (x74_0_2 : Int) (x74_1_2 : Int) (x74_2_2 : Sl) (x74_3_2 : Sl) =>
  ST px6 0 [.int .i64 x74_0_2, .int .i64 x74_1_2, x74_2_2.v, x74_3_2.v] w18 fun w20 =>
  LD [.int .i64, .int .i64, .sl, .sl] px6 w20 fun (r0_0_3 : Int) (r0_1_3 : Int) (r0_2_3 : Sl) (r0_3_3 : Sl) =>
  Q r0_0_3 r0_1_3 r0_2_3 r0_3_3 x9 true w20))))))

theorem C_s_elMade {Q : Int → Int → Sl → Sl → Sl → Bool → World → Prop} {x0_0 : Int} {x0_1 : Int} {x0_2 : Sl} {x0_3 : Sl} {x1 : Sl} {x2 : Bool} {w : World} (h : V_s_elMade Q x0_0 x0_1 x0_2 x0_3 x1 x2 w) : Calls Tryz.prog F.s_elMade #[.agg #[.int .i64 x0_0, .int .i64 x0_1, x0_2.v, x0_3.v], x1.v, .bool x2] w (Ret [.agg [.int .i64, .int .i64, .sl, .sl], .at .sl, .at .bool] Q) :=
  mkC (hint := hint) (ann := annOf [(3, ⟨[(9, .sl), (20, .int .i64)], [11, 13, 21, 22, 23, 24, 25, 26, 27, 28, 29, 30, 31, 32, 33, 34]⟩), (6, ⟨[(9, .sl), (26, .int .i64)], [13, 27, 28, 29, 30, 31, 32, 33]⟩), (16, ⟨[(15, .sl), (47, .int .i64)], [17, 48, 49, 50, 51, 52, 53, 54, 55, 56]⟩)]) (args := [.agg #[.int .i64 x0_0, .int .i64 x0_1, x0_2.v, x0_3.v], x1.v, .bool x2]) (rs := [.agg [.int .i64, .int .i64, .sl, .sl], .at .sl, .at .bool]) Tryz.func190 (by kernel_rfl) (by kernel_rfl) h

def V_s_elNear (Q : Int → World → Prop) (p_0 : Int) (p_1 : Int) (p_2 : Sl) (p_3 : Sl) (set1 : Int) (w : World) : Prop :=
  NEW T.t_i_Problem #[.int .i64 p_0, .int .i64 p_1, p_2.v, p_3.v] w fun (p_p : Addr) w1 =>
  ∃ (I3 : Int → Int → World → Prop) (m3 : Int → Int → World → Nat), I3 0 0 w1 ∧ ∀ (out : Int) (b : Int) w2, I3 out b w2 → ∀ _ _ _ _ _ _ _ _ _ _ _ _ _ _ _ _ _ _ _ _ _ _ _ _ _ _ _ _ : Value,
  LD [.int .i64] (p_p.add 0) w2 fun (x12 : Int) =>
  cond (decide ((b : Int) < x12)) (
  Calls Tryz.prog F.s_elLabels #[.int .i64 set1] w2 (Ret [.at .sl] fun (x17 : Sl) w3 =>
  ∃ (I7 : Bool → Int → World → Prop) (m7 : Bool → Int → World → Nat), I7 true 0 w3 ∧ ∀ (all : Bool) (x19 : Int) w4, I7 all x19 w4 → ∀ _ _ _ _ _ _ _ _ _ _ _ _ : Value,
  cond (decide ((x19 : Int) < x17.len)) (
  IX x17 x19 1 fun (px21 : Addr) =>
  LD [.int .i64] px21 w4 fun (x22 : Int) =>
  cond all (
  LD [.int .i64, .int .i64, .sl, .sl] p_p w4 fun (x25_0 : Int) (x25_1 : Int) (x25_2 : Sl) (x25_3 : Sl) =>
  Calls Tryz.prog F.s_prEdge #[.agg #[.int .i64 x25_0, .int .i64 x25_1, x25_2.v, x25_3.v], .int .i64 x22, .int .i64 b] w4 (Ret [.at .bool] fun (x28 : Bool) w5 =>
  I7 x28 (IntKind.i64.wrap (x19 + 1)) w5 ∧ m7 x28 (IntKind.i64.wrap (x19 + 1)) w5 < m7 all x19 w4)) (
  I7 false (IntKind.i64.wrap (x19 + 1)) w4 ∧ m7 false (IntKind.i64.wrap (x19 + 1)) w4 < m7 all x19 w4)) (
  cond all (
  (0 : Int) ≤ b ∧ (
  I3 (IntKind.i64.wrap (out + (shlI .i64 1 b))) (IntKind.i64.wrap (b + 1)) w4 ∧ m3 (IntKind.i64.wrap (out + (shlI .i64 1 b))) (IntKind.i64.wrap (b + 1)) w4 < m3 out b w2)) (
  I3 out (IntKind.i64.wrap (b + 1)) w4 ∧ m3 out (IntKind.i64.wrap (b + 1)) w4 < m3 out b w2)))) (
  Q out w2)

theorem C_s_elNear {Q : Int → World → Prop} {p_0 : Int} {p_1 : Int} {p_2 : Sl} {p_3 : Sl} {set1 : Int} {w : World} (h : V_s_elNear Q p_0 p_1 p_2 p_3 set1 w) : Calls Tryz.prog F.s_elNear #[.agg #[.int .i64 p_0, .int .i64 p_1, p_2.v, p_3.v], .int .i64 set1] w (Ret [.at (.int .i64)] Q) :=
  mkC (hint := hint) (ann := annOf [(3, ⟨[(5, .int .i64), (6, .int .i64)], [7, 9, 10, 11, 12, 13, 14, 15, 16, 17, 18, 19, 20, 21, 22, 23, 24, 25, 26, 27, 28, 29, 30, 31, 32, 33, 34, 35]⟩), (7, ⟨[(7, .bool), (19, .int .i64)], [9, 20, 21, 22, 23, 24, 25, 26, 27, 28, 29, 30]⟩)]) (args := [.agg #[.int .i64 p_0, .int .i64 p_1, p_2.v, p_3.v], .int .i64 set1]) (rs := [.at (.int .i64)]) Tryz.func192 (by kernel_rfl) (by kernel_rfl) h

def V_s_prHas (Q : Bool → World → Prop) (l : Sl) (x : Sl) (w : World) : Prop :=
  ∃ (I2 : Int → World → Prop) (m2 : Int → World → Nat), I2 0 w ∧ ∀ (x9 : Int) w1, I2 x9 w1 → ∀ _ _ _ _ _ _ _ _ _ : Value,
  cond (decide ((x9 : Int) < l.len)) (
  IX l x9 1 fun (px11 : Addr) =>
  LD [.sl] px11 w1 fun (x12 : Sl) =>
  Calls Tryz.prog F.s_l1Same #[x.v, x12.v] w1 (Ret [.at .bool] fun (x15 : Bool) w2 =>
  cond x15 (
  Q true w2) (
  I2 (IntKind.i64.wrap (x9 + 1)) w2 ∧ m2 (IntKind.i64.wrap (x9 + 1)) w2 < m2 x9 w1))) (
  Q false w1)

theorem C_s_prHas {Q : Bool → World → Prop} {l : Sl} {x : Sl} {w : World} (h : V_s_prHas Q l x w) : Calls Tryz.prog F.s_prHas #[l.v, x.v] w (Ret [.at .bool] Q) :=
  mkC (hint := hint) (ann := annOf [(2, ⟨[(9, .int .i64)], [4, 6, 10, 11, 12, 13, 14, 15, 16]⟩)]) (args := [l.v, x.v]) (rs := [.at .bool]) Tryz.func196 (by kernel_rfl) (by kernel_rfl) h

def V_s_prSorted (Q : Sl → World → Prop) (l : Sl) (w : World) : Prop :=
  Calls Tryz.prog F.s_l1Own #[l.v] w (Ret [.at .sl] fun (x8 : Sl) w1 =>
  ∃ (I3 : Int → World → Prop) (m3 : Int → World → Nat), I3 0 w1 ∧ ∀ (x11 : Int) w2, I3 x11 w2 → ∀ _ _ _ _ _ _ _ _ _ _ _ _ _ _ _ _ _ _ _ _ _ _ _ _ _ _ _ _ _ _ _ _ _ _ _ _ _ _ _ _ : Value,
  cond (decide ((x11 : Int) < x8.len)) (
  ∃ (I6 : Int → World → Prop) (m6 : Int → World → Nat), I6 x11 w2 ∧ ∀ (k : Int) w3, I6 k w3 → ∀ _ _ _ _ _ _ _ _ _ _ _ _ _ _ _ _ _ _ _ _ _ _ _ _ _ _ _ _ _ _ _ _ _ _ : Value,
  cond (decide ((k : Int) > 0)) (
  IX x8 (IntKind.i64.wrap (k - 1)) 1 fun (px21 : Addr) =>
  LD [.int .i64] px21 w3 fun (x22 : Int) =>
  IX x8 k 1 fun (px25 : Addr) =>
  LD [.int .i64] px25 w3 fun (x26 : Int) =>
  ∀ w4, Ext w3 w4 →
  cond (decide ((x22 : Int) > x26)) (
  IX x8 k 1 fun (px33_2 : Addr) =>
  LD [.int .i64] px33_2 w4 fun (x34_2 : Int) =>
  IX x8 (IntKind.i64.wrap (k - 1)) 1 fun (px40_2 : Addr) =>
  LD [.int .i64] px40_2 w4 fun (x41_2 : Int) =>
  IX x8 k 1 fun (px42_2 : Addr) =>
  ST px42_2 0 [.int .i64 x41_2] w4 fun w8 =>
  IX x8 (IntKind.i64.wrap (k - 1)) 1 fun (px47_2 : Addr) =>
  ST px47_2 0 [.int .i64 x34_2] w8 fun w9 =>
  I6 (IntKind.i64.wrap (k - 1)) w9 ∧ m6 (IntKind.i64.wrap (k - 1)) w9 < m6 k w3) (
  I3 (IntKind.i64.wrap (x11 + 1)) w4 ∧ m3 (IntKind.i64.wrap (x11 + 1)) w4 < m3 x11 w2)) (
  ∀ w5, Ext w3 w5 →
  I3 (IntKind.i64.wrap (x11 + 1)) w5 ∧ m3 (IntKind.i64.wrap (x11 + 1)) w5 < m3 x11 w2)) (
  Q x8 w2))

theorem C_s_prSorted {Q : Sl → World → Prop} {l : Sl} {w : World} (h : V_s_prSorted Q l w) : Calls Tryz.prog F.s_prSorted #[l.v] w (Ret [.at .sl] Q) :=
  mkC (hint := hint) (ann := annOf [(3, ⟨[(11, .int .i64)], [4, 5, 6, 12, 13, 14, 15, 16, 17, 18, 19, 20, 21, 22, 23, 24, 25, 26, 27, 28, 29, 30, 31, 32, 33, 34, 35, 36, 37, 38, 39, 40, 41, 42, 43, 44, 45, 46, 47, 48]⟩), (6, ⟨[(5, .int .i64)], [6, 15, 16, 17, 18, 19, 20, 21, 22, 23, 24, 25, 26, 27, 28, 29, 30, 31, 32, 33, 34, 35, 36, 37, 38, 39, 40, 41, 42, 43, 44, 45, 46, 47]⟩)]) (args := [l.v]) (rs := [.at .sl]) Tryz.func197 (by kernel_rfl) (by kernel_rfl) h

def V_s_elHas (Q : Bool → World → Prop) (set1 : Int) (a : Int) (w : World) : Prop :=
  (0 : Int) ≤ a ∧ (
  (2 : Int) ≠ 0 ∧ (
  Q (((Int.tmod (shrI .i64 set1 a) 2) : Int) == 1) w))

theorem C_s_elHas {Q : Bool → World → Prop} {set1 : Int} {a : Int} {w : World} (h : V_s_elHas Q set1 a w) : Calls Tryz.prog F.s_elHas #[.int .i64 set1, .int .i64 a] w (Ret [.at .bool] Q) :=
  mkC (hint := hint) (ann := annOf []) (args := [.int .i64 set1, .int .i64 a]) (rs := [.at .bool]) Tryz.func198 (by kernel_rfl) (by kernel_rfl) h

def V_slices_ContainsFunc_sl_int_int (Q : Bool → World → Prop) (s : Sl) (f : Value) (w : World) : Prop :=
  Calls Tryz.prog F.slices_IndexFunc_sl_int_int #[s.v, f] w (Ret [.at (.int .i64)] fun (x7 : Int) w1 =>
  Q (decide ((x7 : Int) ≥ 0)) w1)

theorem C_slices_ContainsFunc_sl_int_int {Q : Bool → World → Prop} {s : Sl} {f : Value} {w : World} (h : V_slices_ContainsFunc_sl_int_int Q s f w) : Calls Tryz.prog F.slices_ContainsFunc_sl_int_int #[s.v, f] w (Ret [.at .bool] Q) :=
  mkC (hint := hint) (ann := annOf []) (args := [s.v, f]) (rs := [.at .bool]) Tryz.func201 (by kernel_rfl) (by kernel_rfl) h

def V_i_allWithin_1 (Q : Bool → World → Prop) (n : Int) (cap0 : Addr) (cap1 : Addr) (w : World) : Prop :=
  LD [.int .i64] cap0 w fun (x6 : Int) =>
  LD [.int .i64] cap1 w fun (x7 : Int) =>
  Calls Tryz.prog F.i_within #[.int .i64 n, .int .i64 x6, .int .i64 x7] w (Ret [.at .bool] fun (x8 : Bool) w1 =>
  Q (!x8) w1)

theorem C_i_allWithin_1 {Q : Bool → World → Prop} {n : Int} {cap0 : Addr} {cap1 : Addr} {w : World} (h : V_i_allWithin_1 Q n cap0 cap1 w) : Calls Tryz.prog F.i_allWithin_1 #[.int .i64 n, .pointer (some cap0), .pointer (some cap1)] w (Ret [.at .bool] Q) :=
  mkC (hint := hint) (ann := annOf []) (args := [.int .i64 n, .pointer (some cap0), .pointer (some cap1)]) (rs := [.at .bool]) Tryz.func202 (by kernel_rfl) (by kernel_rfl) h

def V_i_firstChoice (Q : Sl → Bool → World → Prop) (lists : Sl) (good_f : Fn) (good_t : Array Value) (good_c : Array Value) (w : World) : Prop :=
  NEW T.t_sl_sl_int #[lists.v] w fun (p_lists : Addr) w1 =>
  NEW T.t_func_sl_int_bool #[.func good_f good_t good_c] w1 fun (p_good : Addr) w2 =>
  LD [.sl] p_lists w2 fun (x8 : Sl) =>
  RUN Tryz.prog (.at .sl) (Instr.makeSlice T.t_sl_int (.int .i64 x8.len) (.int .i64 x8.len)) w2 fun (x10 : Sl) w3 =>
  NEW T.t_sl_int #[.slice none 0 0] w3 fun (p_labels : Addr) w4 =>
  ST p_labels 0 [x10.v] w4 fun w5 =>
  NEW T.t_func_int_bool #[.nilFunc] w5 fun (p_fill : Addr) w6 =>
  ST p_fill 0 [.func (.func F.i_firstChoice_1) #[] #[.pointer (some p_lists), .pointer (some p_good), .pointer (some p_labels), .pointer (some p_fill)]] w6 fun w7 =>
  LD [.val] p_fill w7 fun (x12 : Value) =>
  CALLV Tryz.prog x12 #[.int .i64 0] w7 (Ret [.at .bool] fun (x13 : Bool) w8 =>
  cond (!x13) (
  Q (⟨none, 0, 0⟩) false w8) (
  LD [.sl] p_labels w8 fun (x15 : Sl) =>
  Q x15 true w8))

theorem C_i_firstChoice {Q : Sl → Bool → World → Prop} {lists : Sl} {good_f : Fn} {good_t : Array Value} {good_c : Array Value} {w : World} (h : V_i_firstChoice Q lists good_f good_t good_c w) : Calls Tryz.prog F.i_firstChoice #[lists.v, .func good_f good_t good_c] w (Ret [.at .sl, .at .bool] Q) :=
  mkC (hint := hint) (ann := annOf []) (args := [lists.v, .func good_f good_t good_c]) (rs := [.at .sl, .at .bool]) Tryz.func206 (by kernel_rfl) (by kernel_rfl) h

def V_i_Problem_edgeChoice_1 (Q : Bool → World → Prop) (labels : Sl) (cap0 : Addr) (w : World) : Prop :=
  LD [.int .i64, .int .i64, .sl, .sl] cap0 w fun (x4_0 : Int) (x4_1 : Int) (x4_2 : Sl) (x4_3 : Sl) =>
  IX labels 0 1 fun (px6 : Addr) =>
  LD [.int .i64] px6 w fun (x7 : Int) =>
  IX labels 1 1 fun (px9 : Addr) =>
  LD [.int .i64] px9 w fun (x10 : Int) =>
  QCALL Tryz.prog F.i_Problem_edge #[.agg #[.int .i64 x4_0, .int .i64 x4_1, x4_2.v, x4_3.v], .int .i64 x7, .int .i64 x10] w [.at .bool] fun (x11 : Bool) =>
  ∀ w1, Ext w w1 →
  Q x11 w1

theorem C_i_Problem_edgeChoice_1 {Q : Bool → World → Prop} {labels : Sl} {cap0 : Addr} {w : World} (h : V_i_Problem_edgeChoice_1 Q labels cap0 w) : Calls Tryz.prog F.i_Problem_edgeChoice_1 #[labels.v, .pointer (some cap0)] w (Ret [.at .bool] Q) :=
  mkC (hint := hint) (ann := annOf []) (args := [labels.v, .pointer (some cap0)]) (rs := [.at .bool]) Tryz.func207 (by kernel_rfl) (by kernel_rfl) h

def V_i_labelsIn (Q : Sl → World → Prop) (set1 : Int) (w : World) : Prop :=
  ∃ (I3 : Sl → Int → World → Prop) (m3 : Sl → Int → World → Nat), I3 (⟨none, 0, 0⟩) 0 w ∧ ∀ (out : Sl) (a : Int) w1, I3 out a w1 → ∀ _ _ _ _ _ _ _ _ _ _ _ _ _ _ _ : Value,
  (0 : Int) ≤ a ∧ (
  cond (((shrI .i64 set1 a) : Int) != 0) (
  (0 : Int) ≤ a ∧ (
  cond (((bitAnd .i64 (shrI .i64 set1 a) 1) : Int) == 1) (
  RUN Tryz.prog (.at .sl) (Instr.buildSlice T.t_sl_int 1 #[(0, .int .i64 a)]) w1 fun (x18 : Sl) w2 =>
  RUN Tryz.prog (.at .sl) (bsem .append #[T.t_sl_int, T.t_sl_int] T.t_sl_int #[out.v, x18.v]) w2 fun (x19 : Sl) w3 =>
  I3 x19 (IntKind.i64.wrap (a + 1)) w3 ∧ m3 x19 (IntKind.i64.wrap (a + 1)) w3 < m3 out a w1) (
  I3 out (IntKind.i64.wrap (a + 1)) w1 ∧ m3 out (IntKind.i64.wrap (a + 1)) w1 < m3 out a w1))) (
  Q out w1))

theorem C_i_labelsIn {Q : Sl → World → Prop} {set1 : Int} {w : World} (h : V_i_labelsIn Q set1 w) : Calls Tryz.prog F.i_labelsIn #[.int .i64 set1] w (Ret [.at .sl] Q) :=
  mkC (hint := hint) (ann := annOf [(3, ⟨[(3, .sl), (4, .int .i64)], [5, 6, 7, 8, 9, 10, 11, 12, 13, 14, 15, 16, 17, 18, 19]⟩)]) (args := [.int .i64 set1]) (rs := [.at .sl]) Tryz.func208 (by kernel_rfl) (by kernel_rfl) h

end Go.Proofs.YtndebacmnpghkaaGreat
end
