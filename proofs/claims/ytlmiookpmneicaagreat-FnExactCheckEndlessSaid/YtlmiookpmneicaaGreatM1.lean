/- Own texts, merged: VCmp, Values, V0, V1, V2, V3, V4, V5. -/
import Derived.Test.YtlmiookpmneicaaGreatM0
import Derived.RangeFuncBox
import Derived.RangeFuncLeaves
import Derived.Shelf.Abstract
import Derived.WalkKit
import Derived.OwnWalkIn
import Derived.TacticsInMore
import Derived.LoopNIn
import Derived.LoopIn
import Derived.Test.YtlmiookpmneicaaGreatProg
section
/- What the code of the comparison of integers computes to. Printed by a program. -/
namespace Go.Proofs.YtlmiookpmneicaaGreat
open Go.GX Go.RowKit
set_option linter.unusedVariables false
set_option maxRecDepth 100000

def V_cmp_Compare_int (Q : Int → World → Prop) (x : Int) (y : Int) (w : World) : Prop :=
  Calls Tryz.prog F.cmp_isNaN_int #[.int .i64 x] w (Ret [.at .bool] fun (x8 : Bool) w1 =>
  Calls Tryz.prog F.cmp_isNaN_int #[.int .i64 y] w1 (Ret [.at .bool] fun (x10 : Bool) w2 =>
  cond x8 (
  cond x10 (
  Q 0 w2) (
  Q (-1) w2)) (
  cond x10 (
  Q 1 w2) (
  cond (decide ((x : Int) < y)) (
  Q (-1) w2) (
  cond (decide ((x : Int) > y)) (
  Q 1 w2) (
  Q 0 w2))))))

theorem C_cmp_Compare_int {Q : Int → World → Prop} {x : Int} {y : Int} {w : World} (h : V_cmp_Compare_int Q x y w) : Calls Tryz.prog F.cmp_Compare_int #[.int .i64 x, .int .i64 y] w (Ret [.at (.int .i64)] Q) :=
  mkC (hint := hint) (ann := annOf []) (args := [.int .i64 x, .int .i64 y]) (rs := [.at (.int .i64)]) Tryz.func142 (by kernel_rfl) (by kernel_rfl) h

def V_cmp_isNaN_int (Q : Bool → World → Prop) (x : Int) (w : World) : Prop :=
  Q ((x : Int) != x) w

theorem C_cmp_isNaN_int {Q : Bool → World → Prop} {x : Int} {w : World} (h : V_cmp_isNaN_int Q x w) : Calls Tryz.prog F.cmp_isNaN_int #[.int .i64 x] w (Ret [.at .bool] Q) :=
  mkC (hint := hint) (ann := annOf []) (args := [.int .i64 x]) (rs := [.at .bool]) Tryz.func204 (by kernel_rfl) (by kernel_rfl) h

def V_cmp_Less_int (Q : Bool → World → Prop) (x : Int) (y : Int) (w : World) : Prop :=
  Calls Tryz.prog F.cmp_isNaN_int #[.int .i64 x] w (Ret [.at .bool] fun (x6 : Bool) w1 =>
  cond x6 (
  Calls Tryz.prog F.cmp_isNaN_int #[.int .i64 y] w1 (Ret [.at .bool] fun (x9 : Bool) w2 =>
  cond (!x9) (
  Q true w2) (
  Q (decide ((x : Int) < y)) w2))) (
  Q (decide ((x : Int) < y)) w1))

theorem C_cmp_Less_int {Q : Bool → World → Prop} {x : Int} {y : Int} {w : World} (h : V_cmp_Less_int Q x y w) : Calls Tryz.prog F.cmp_Less_int #[.int .i64 x, .int .i64 y] w (Ret [.at .bool] Q) :=
  mkC (hint := hint) (ann := annOf []) (args := [.int .i64 x, .int .i64 y]) (rs := [.at .bool]) Tryz.func248 (by kernel_rfl) (by kernel_rfl) h

end Go.Proofs.YtlmiookpmneicaaGreat
end

section
/- slices.Values at []int: its closure calls yield for each element; turned from the kit's worked text on the library's two iterators over a slice. -/
namespace Go.Proofs.YtlmiookpmneicaaGreat
open Go Go.RowKit Go.Shelf Go.Proofs

attribute [local go_sem] Oper.semAt_some

/-- What has come when k rounds are over. -/
def upto {α : Type} (f : Nat → α) (k : Nat) : List α := (List.range k).map f
theorem upto_succ {α : Type} (f : Nat → α) (k : Nat) : upto f (k + 1) = upto f k ++ [f k] := by simp [upto, List.range_succ]
theorem upto_length {α : Type} (f : Nat → α) (k : Nat) : (upto f k).length = k := by simp [upto]
theorem upto_all (zs : List Int) : upto (fun j => zs[j]?.getD 0) zs.length = zs := by
  apply List.ext_getElem
  · simp [upto]
  · intro i h1 h2
    simp [upto, h2]
theorem upto_take (zs : List Int) {k : Nat} (hk : k ≤ zs.length) : upto (fun j => zs[j]?.getD 0) k = zs.take k := by
  apply List.ext_getElem
  · simp [upto, hk]
  · intro i h1 h2
    have : i < zs.length := by simp [upto] at h1; omega
    simp [upto, this]

theorem add_block (ad : Addr) (k : Nat) : (ad.add k).block = ad.block := by unfold Addr.add; split <;> rfl

set_option maxRecDepth 100000 in
set_option maxHeartbeats 2000000 in
theorem values1_in (Fe : Fence) (n : Nat) (h7 : Fe.fn 141) (hro : Fe.round = none) (hn : 1 ≤ n) (l Bs n₀ len cap : Nat) (ad : Addr) (zs : List Int) (hreach : len * 8 ≤ 140737488351232) (hb : 0 < len → ad.block < n₀) (J Jx : List Int → World → Prop)
    (hY : ∀ pre x W, J pre W → pre.length < len → YieldAt Fe (n - 1) Tryz.prog l #[.int .i64 x] W fun e W' =>
      (e = .returned (.bool true) ∧ J (pre ++ [x]) W' ∧ Below n₀ W W') ∨ (e = .returned (.bool false) ∧ Jx (pre ++ [x]) W'))
    (W : World) (hBs : W.cell? ⟨Bs, 0, none⟩ = some (.slice (some ad) len cap)) (hc : ∀ j, j < len → W.cell? (ad.add j) = some (.int .i64 (zs[j]?.getD 0))) (h0 : J [] W) :
    CallsIn Fe n Tryz.prog 141 #[.func (.yield l) #[] #[], .pointer (some ⟨Bs, 0, none⟩)] W fun e W' => (∃ v, e = .returned v) ∧
      ((∃ ys, ys = upto (fun j => zs[j]?.getD 0) len ∧ J ys W') ∨ (∃ pre, (∃ k, k ≤ len ∧ pre = upto (fun j => zs[j]?.getD 0) k) ∧ Jx pre W')) := by
  refine callsIn_of_wp Tryz.func141 rfl h7 ?_ hro
  simp only [Tryz.ntmps141, List.size_toArray, List.length_cons, List.length_nil, Nat.reduceAdd, Nat.reduceSub, Array.replicate_succ, Array.replicate_zero, List.push_toArray, List.append_toArray, List.nil_append, List.cons_append]
  gi_wp2
  gi_loopw [7] (fun i wr => ∃ k : Nat, k ≤ len ∧ i = .int .i64 k ∧ J (upto (fun j => zs[j]?.getD 0) k) wr ∧ Below n₀ W wr)
    (fun i _ => len - (intOf i).toNat)
  case atStart => exact ⟨0, Nat.zero_le _, rfl, h0, Below.refl _ _⟩
  case round =>
    obtain ⟨k, hk, rfl, hJs, hnx⟩ := hrel
    have hcx : k < len → wr.cell? (ad.add k) = some (.int .i64 (zs[k]?.getD 0)) := fun h => (hnx.cell (p := ad.add k) (by rw [add_block]; exact hb (by omega))).trans (hc k h)
    by_cases hlt : k < len
    · obtain ⟨fn, tmps, assign, body, hy, hR⟩ := hY _ (zs[k]?.getD 0) wr hJs (by rw [upto_length]; exact hlt)
      have hcx' := hcx hlt
      gi_wp2
      refine hR.mono ?_
      rintro e W3 (⟨rfl, hJ3, hk3⟩ | ⟨rfl, hJx3⟩)
      · gi_wp2
        go_roundw
        case rel => exact ⟨k + 1, by omega, by simp, by rw [upto_succ]; exact hJ3, hnx.trans hk3⟩
        case measure => simp [intOf]; omega
      · gi_wp2
        refine bodyPost_ret (results_none rfl _ _ _) rfl ?_
        exact ⟨⟨_, rfl⟩, .inr ⟨_, ⟨k + 1, by omega, (upto_succ _ _).symm⟩, hJx3⟩⟩
    · obtain rfl : k = len := by omega
      gi_wp2
      go_end0
      exact ⟨⟨_, rfl⟩, .inl ⟨_, rfl, hJs⟩⟩

/-- The slice value sv holds the ints zs, in a block below n₀; or it is nil and there are none. -/
def IntsIn (n₀ : Nat) (W : World) (sv : Value) (zs : List Int) : Prop :=
  (∃ cap, sv = .slice none 0 cap ∧ zs = []) ∨ ∃ ad cap, sv = .slice (some ad) zs.length cap ∧ (0 < zs.length → ad.block < n₀) ∧ ∀ j, j < zs.length → W.cell? (ad.add j) = some (.int .i64 (zs[j]?.getD 0))
theorem IntsIn.below {n₀ : Nat} {A B : World} (h : Below n₀ A B) {sv : Value} {zs : List Int} : IntsIn n₀ A sv zs → IntsIn n₀ B sv zs
  | .inl e => .inl e
  | .inr ⟨ad, cap, e, hb, hc⟩ => .inr ⟨ad, cap, e, hb, fun j hj => (h.cell (p := ad.add j) (by rw [add_block]; exact hb (by omega))).trans (hc j hj)⟩

set_option maxRecDepth 100000 in
set_option maxHeartbeats 1000000 in
theorem values1_nil_in (Fe : Fence) (n : Nat) (h7 : Fe.fn 141) (hro : Fe.round = none) (l Bs cap : Nat) (J : List Int → World → Prop) (W : World) (hBs : W.cell? ⟨Bs, 0, none⟩ = some (.slice none 0 cap)) (h0 : J [] W) :
    CallsIn Fe n Tryz.prog 141 #[.func (.yield l) #[] #[], .pointer (some ⟨Bs, 0, none⟩)] W fun e W' => (∃ v, e = .returned v) ∧ J [] W' := by
  refine callsIn_of_wp Tryz.func141 rfl h7 ?_ hro
  simp only [Tryz.ntmps141, List.size_toArray, List.length_cons, List.length_nil, Nat.reduceAdd, Nat.reduceSub, Array.replicate_succ, Array.replicate_zero, List.push_toArray, List.append_toArray, List.nil_append, List.cons_append]
  gi_wp2
  gi_loopw [7] (fun i wr => i = .int .i64 0 ∧ J [] wr) (fun _ _ => 0)
  case atStart => exact ⟨rfl, h0⟩
  case round =>
    obtain ⟨rfl, hJs⟩ := hrel
    gi_wp2
    go_end0
    exact ⟨⟨_, rfl⟩, hJs⟩

theorem values_stops (Fe : Fence) (n : Nat) (h7 : Fe.fn 141) (hro : Fe.round = none) (hn : 1 ≤ n) (Bs n₀ : Nat) (sv : Value) (zs : List Int) (hreach : zs.length * 8 ≤ 140737488351232) (w : World) (hBs : Bs < w.heap.size) (hn₀ : n₀ ≤ w.heap.size)
    (hc : w.cell? ⟨Bs, 0, none⟩ = some sv) (hI : IntsIn n₀ w sv zs) :
    SeqStopsK Fe n Tryz.prog 141 #[.pointer (some ⟨Bs, 0, none⟩)] (fun x : Int => #[Value.int .i64 x]) (Below n₀) (fun ys => ys = zs) (fun pre => pre <+: zs) zs.length w := fun l J Jx W hW _ _ hY h0 => by
  have hc' := (hW.cell (p := ⟨Bs, 0, none⟩) hBs).trans hc
  rcases hI.below (hW.mono hn₀) with ⟨cap, rfl, rfl⟩ | ⟨ad, cap, rfl, hb, hcs⟩
  · exact (values1_nil_in Fe n h7 hro l Bs cap J W hc' h0).mono fun e W' ⟨he, hj⟩ => ⟨he, .inl ⟨_, rfl, hj⟩⟩
  · refine (values1_in Fe n h7 hro hn l Bs n₀ zs.length cap ad zs hreach hb J Jx hY W hc' hcs h0).mono ?_
    rintro e W' ⟨he, ⟨ys, rfl, hj⟩ | ⟨pre, ⟨k, hk, rfl⟩, hj⟩⟩
    · exact ⟨he, .inl ⟨_, upto_all zs, hj⟩⟩
    · exact ⟨he, .inr ⟨_, by rw [upto_take zs hk]; exact List.take_prefix _ _, hj⟩⟩

end Go.Proofs.YtlmiookpmneicaaGreat
end

section
/- What each function's code computes to. Printed by a program. -/
namespace Go.Proofs.YtlmiookpmneicaaGreat
open Go.GX Go.RowKit
set_option linter.unusedVariables false
set_option maxRecDepth 100000

def V_l_FnExactCheckEndless_k4 (x1 : Sl) (x2 : Sl) (Q : Bool → World → Prop) (px3 : Addr) (px10 : Addr) (x41 : Sl) (x43 : Sl) (w14 : World) : Prop :=
  ∀ w15, Ext w14 w15 → w15.heap = w14.heap →
  LD [.int .i64, .int .i64, .sl, .sl] px10 w15 fun (x59_0 : Int) (x59_1 : Int) (x59_2 : Sl) (x59_3 : Sl) =>
  LD [.int .i64, .int .i64, .sl, .sl] px3 w15 fun (x60_0 : Int) (x60_1 : Int) (x60_2 : Sl) (x60_3 : Sl) =>
  Ext w15 w15 ∧ (
  Calls Tryz.prog F.l_toProblem #[.agg #[.int .i64 x60_0, .int .i64 x60_1, x60_2.v, x60_3.v]] w15 (Ret [.agg [.int .i64, .int .i64, .sl, .sl]] fun (x61_0 : Int) (x61_1 : Int) (x61_2 : Sl) (x61_3 : Sl) w16 =>
  Ext w15 w16 ∧ (
  Calls Tryz.prog F.l_eqProblem #[.agg #[.int .i64 x59_0, .int .i64 x59_1, x59_2.v, x59_3.v], .agg #[.int .i64 x61_0, .int .i64 x61_1, x61_2.v, x61_3.v]] w16 (Ret [.at .bool] fun (x62 : Bool) w17 =>
  Ext w15 w17 ∧ (
  cond (!x62) (
  Q false w17) (
  Calls Tryz.prog F.l_toIntS #[x1.v] w17 (Ret [.at .sl] fun (x66 : Sl) w18 =>
  Calls Tryz.prog F.l_eqIntS #[x41.v, x66.v] w18 (Ret [.at .bool] fun (x67 : Bool) w19 =>
  cond (!x67) (
  Q false w19) (
  Calls Tryz.prog F.l_toIntSS #[x2.v] w19 (Ret [.at .sl] fun (x71 : Sl) w20 =>
  Calls Tryz.prog F.l_eqIntSS #[x43.v, x71.v] w20 (Ret [.at .bool] fun (x72 : Bool) w21 =>
  cond (!x72) (
  Q false w21) (
  Q true w21))))))))))))

def V_l_FnExactCheckEndless (Q : Bool → World → Prop) (x0_0 : Int) (x0_1 : Int) (x0_2 : Sl) (x0_3 : Sl) (x1 : Sl) (x2 : Sl) (w : World) : Prop :=
  NEW T.t_l_Problem #[.int .i64 x0_0, .int .i64 x0_1, x0_2.v, x0_3.v] w fun (px3 : Addr) w1 =>
  cond (decide ((x1.len : Int) > 1048576)) (
  Q true w1) (
  LD [.int .i64, .int .i64, .sl, .sl] px3 w1 fun (x18_0 : Int) (x18_1 : Int) (x18_2 : Sl) (x18_3 : Sl) =>
  Calls Tryz.prog F.l_szProblem #[.agg #[.int .i64 x18_0, .int .i64 x18_1, x18_2.v, x18_3.v], .int .i64 1048576] w1 (Ret [.at (.int .i64)] fun (x20 : Int) w2 =>
  cond (decide ((x20 : Int) < 0)) (
  Q true w2) (
  Calls Tryz.prog F.l_szIntSS #[x2.v, .int .i64 x20] w2 (Ret [.at (.int .i64)] fun (x25 : Int) w3 =>
  cond (decide ((x25 : Int) < 0)) (
  Q true w3) (
  LD [.int .i64, .int .i64, .sl, .sl] px3 w3 fun (x29_0 : Int) (x29_1 : Int) (x29_2 : Sl) (x29_3 : Sl) =>
  Calls Tryz.prog F.l_toProblem #[.agg #[.int .i64 x29_0, .int .i64 x29_1, x29_2.v, x29_3.v]] w3 (Ret [.agg [.int .i64, .int .i64, .sl, .sl]] fun (x30_0 : Int) (x30_1 : Int) (x30_2 : Sl) (x30_3 : Sl) w4 =>
  Calls Tryz.prog F.l_toIntS #[x1.v] w4 (Ret [.at .sl] fun (x32 : Sl) w5 =>
  Calls Tryz.prog F.l_toIntSS #[x2.v] w5 (Ret [.at .sl] fun (x34 : Sl) w6 =>
  Calls Tryz.prog F.s_CheckEndless #[.agg #[.int .i64 x30_0, .int .i64 x30_1, x30_2.v, x30_3.v], x32.v, x34.v] w6 (Ret [.at .bool, .at .bool] fun (x35_0 : Bool) (x35_1 : Bool) w7 =>
  LD [.int .i64, .int .i64, .sl, .sl] px3 w7 fun (x38_0 : Int) (x38_1 : Int) (x38_2 : Sl) (x38_3 : Sl) =>
  Calls Tryz.prog F.l_toProblem #[.agg #[.int .i64 x38_0, .int .i64 x38_1, x38_2.v, x38_3.v]] w7 (Ret [.agg [.int .i64, .int .i64, .sl, .sl]] fun (x39_0 : Int) (x39_1 : Int) (x39_2 : Sl) (x39_3 : Sl) w8 =>
  NEW T.t_i_Problem #[.int .i64 0, .int .i64 0, .slice none 0 0, .slice none 0 0] w8 fun (px10 : Addr) w9 =>
  ST px10 0 [.int .i64 x39_0, .int .i64 x39_1, x39_2.v, x39_3.v] w9 fun w10 =>
  Calls Tryz.prog F.l_toIntS #[x1.v] w10 (Ret [.at .sl] fun (x41 : Sl) w11 =>
  Calls Tryz.prog F.l_toIntSS #[x2.v] w11 (Ret [.at .sl] fun (x43 : Sl) w12 =>
  LD [.int .i64, .int .i64, .sl, .sl] px10 w12 fun (x45_0 : Int) (x45_1 : Int) (x45_2 : Sl) (x45_3 : Sl) =>
  Calls Tryz.prog F.i_CheckEndless #[.agg #[.int .i64 x45_0, .int .i64 x45_1, x45_2.v, x45_3.v], x41.v, x43.v] w12 (Ret [.at .bool, .at .bool] fun (x48_0 : Bool) (x48_1 : Bool) w13 =>
  cond (!(x48_0 == x35_0)) (
  Q false w13) (
  cond (!(x48_1 == x35_1)) (
  Q false w13) (
  V_l_FnExactCheckEndless_k4 x1 x2 Q px3 px10 x41 x43 w13)))))))))))))))

theorem C_l_FnExactCheckEndless {Q : Bool → World → Prop} {x0_0 : Int} {x0_1 : Int} {x0_2 : Sl} {x0_3 : Sl} {x1 : Sl} {x2 : Sl} {w : World} (h : V_l_FnExactCheckEndless Q x0_0 x0_1 x0_2 x0_3 x1 x2 w) : Calls Tryz.prog F.l_FnExactCheckEndless #[.agg #[.int .i64 x0_0, .int .i64 x0_1, x0_2.v, x0_3.v], x1.v, x2.v] w (Ret [.at .bool] Q) :=
  mkC (hint := hint) (ann := annOf []) (args := [.agg #[.int .i64 x0_0, .int .i64 x0_1, x0_2.v, x0_3.v], x1.v, x2.v]) (rs := [.at .bool]) Tryz.func5 (by kernel_rfl) (by kernel_rfl) h

def V_l_FnExactPullNodeStep_k9 (x2 : Sl) (Q : Bool → World → Prop) (px3 : Addr) (px4 : Addr) (x42_0 : Sl) (x42_1 : Bool) (x55_0 : Sl) (w33 : World) : Prop :=
  Calls Tryz.prog F.l_markIntSS #[x55_0.v, .int .i64 1] w33 (Ret [.at (.int .i64)] fun (x106 : Int) w34 =>
  Calls Tryz.prog F.l_heldIntSS #[x55_0.v, .int .i64 1] w34 (Ret [.at (.int .i64)] fun (x109 : Int) w35 =>
  cond (decide ((x109 : Int) < 0)) (
  Q false w35) (
  cond ((x109 : Int) != x106) (
  Q false w35) (
  ∀ w36, Ext w35 w36 → w36.heap = w35.heap →
  LD [.int .i64, .int .i64, .sl, .sl] px3 w36 fun (x116_0 : Int) (x116_1 : Int) (x116_2 : Sl) (x116_3 : Sl) =>
  LD [.sl, .sl, .sl] px4 w36 fun (x118_0 : Sl) (x118_1 : Sl) (x118_2 : Sl) =>
  Calls Tryz.prog F.l_toProblem #[.agg #[.int .i64 x116_0, .int .i64 x116_1, x116_2.v, x116_3.v]] w36 (Ret [.agg [.int .i64, .int .i64, .sl, .sl]] fun (x117_0 : Int) (x117_1 : Int) (x117_2 : Sl) (x117_3 : Sl) w37 =>
  Ext w36 w37 ∧ (
  Calls Tryz.prog F.l_toNetwork #[.agg #[x118_0.v, x118_1.v, x118_2.v]] w37 (Ret [.agg [.sl, .sl, .sl]] fun (x119_0 : Sl) (x119_1 : Sl) (x119_2 : Sl) w38 =>
  Ext w36 w38 ∧ (
  Calls Tryz.prog F.l_toIntSS #[x2.v] w38 (Ret [.at .sl] fun (x121 : Sl) w39 =>
  Ext w36 w39 ∧ (
  Calls Tryz.prog F.i_PullNodeStep #[.agg #[.int .i64 x117_0, .int .i64 x117_1, x117_2.v, x117_3.v], .agg #[x119_0.v, x119_1.v, x119_2.v], x121.v] w39 (Ret [.at .sl, .at .bool] fun (x122_0 : Sl) (x122_1 : Bool) w40 =>
  Ext w36 w40 ∧ (
  Ext w36 w40 ∧ (
  Ext w36 w40 ∧ (
  Calls Tryz.prog F.l_eqIntSS #[x122_0.v, x42_0.v] w40 (Ret [.at .bool] fun (x127 : Bool) w41 =>
  cond (!x127) (
  Q false w41) (
  cond (!(x122_1 == x42_1)) (
  Q false w41) (
  Calls Tryz.prog F.l_heldIntSS #[x55_0.v, .int .i64 1] w41 (Ret [.at (.int .i64)] fun (x136_2 : Int) w43 =>
  cond (decide ((x136_2 : Int) < 0)) (
  Q false w43) (
  cond ((x136_2 : Int) != x106) (
  Q false w43) (
  Q true w43))))))))))))))))))))

def V_l_FnExactPullNodeStep_k4 (x2 : Sl) (Q : Bool → World → Prop) (px3 : Addr) (px4 : Addr) (x42_0 : Sl) (x42_1 : Bool) (px10 : Addr) (px11 : Addr) (x50 : Sl) (x55_0 : Sl) (x55_1 : Bool) (w20 : World) : Prop :=
  ∀ w21, Ext w20 w21 → w21.heap = w20.heap →
  LD [.int .i64, .int .i64, .sl, .sl] px10 w21 fun (x67_0 : Int) (x67_1 : Int) (x67_2 : Sl) (x67_3 : Sl) =>
  LD [.int .i64, .int .i64, .sl, .sl] px3 w21 fun (x68_0 : Int) (x68_1 : Int) (x68_2 : Sl) (x68_3 : Sl) =>
  Ext w21 w21 ∧ (
  Calls Tryz.prog F.l_toProblem #[.agg #[.int .i64 x68_0, .int .i64 x68_1, x68_2.v, x68_3.v]] w21 (Ret [.agg [.int .i64, .int .i64, .sl, .sl]] fun (x69_0 : Int) (x69_1 : Int) (x69_2 : Sl) (x69_3 : Sl) w22 =>
  Ext w21 w22 ∧ (
  Calls Tryz.prog F.l_eqProblem #[.agg #[.int .i64 x67_0, .int .i64 x67_1, x67_2.v, x67_3.v], .agg #[.int .i64 x69_0, .int .i64 x69_1, x69_2.v, x69_3.v]] w22 (Ret [.at .bool] fun (x70 : Bool) w23 =>
  Ext w21 w23 ∧ (
  cond (!x70) (
  Q false w23) (
  ∀ w24, Ext w23 w24 → w24.heap = w23.heap →
  LD [.sl, .sl, .sl] px11 w24 fun (x72_0 : Sl) (x72_1 : Sl) (x72_2 : Sl) =>
  LD [.sl, .sl, .sl] px4 w24 fun (x73_0 : Sl) (x73_1 : Sl) (x73_2 : Sl) =>
  Ext w24 w24 ∧ (
  Calls Tryz.prog F.l_toNetwork #[.agg #[x73_0.v, x73_1.v, x73_2.v]] w24 (Ret [.agg [.sl, .sl, .sl]] fun (x74_0 : Sl) (x74_1 : Sl) (x74_2 : Sl) w25 =>
  Ext w24 w25 ∧ (
  Calls Tryz.prog F.l_eqNetwork #[.agg #[x72_0.v, x72_1.v, x72_2.v], .agg #[x74_0.v, x74_1.v, x74_2.v]] w25 (Ret [.at .bool] fun (x75 : Bool) w26 =>
  Ext w24 w26 ∧ (
  cond (!x75) (
  Q false w26) (
  Calls Tryz.prog F.l_toIntSS #[x2.v] w26 (Ret [.at .sl] fun (x79 : Sl) w27 =>
  Calls Tryz.prog F.l_eqIntSS #[x50.v, x79.v] w27 (Ret [.at .bool] fun (x80 : Bool) w28 =>
  cond (!x80) (
  Q false w28) (
  LD [.int .i64, .int .i64, .sl, .sl] px10 w28 fun (x82_0 : Int) (x82_1 : Int) (x82_2 : Sl) (x82_3 : Sl) =>
  Calls Tryz.prog F.l_markProblem #[.agg #[.int .i64 x82_0, .int .i64 x82_1, x82_2.v, x82_3.v], .int .i64 1] w28 (Ret [.at (.int .i64)] fun (x84 : Int) w29 =>
  LD [.sl, .sl, .sl] px11 w29 fun (x85_0 : Sl) (x85_1 : Sl) (x85_2 : Sl) =>
  Calls Tryz.prog F.l_markNetwork #[.agg #[x85_0.v, x85_1.v, x85_2.v], .int .i64 x84] w29 (Ret [.at (.int .i64)] fun (x87 : Int) w30 =>
  Calls Tryz.prog F.l_markIntSS #[x50.v, .int .i64 x87] w30 (Ret [.at (.int .i64)] fun (x90 : Int) w31 =>
  cond (decide ((x90 : Int) < 0)) (
  Q false w31) (
  Calls Tryz.prog F.l_eqIntSS #[x55_0.v, x42_0.v] w31 (Ret [.at .bool] fun (x96 : Bool) w32 =>
  cond (!x96) (
  Q false w32) (
  cond (!(x55_1 == x42_1)) (
  Q false w32) (
  V_l_FnExactPullNodeStep_k9 x2 Q px3 px4 x42_0 x42_1 x55_0 w32))))))))))))))))))))))

def V_l_FnExactPullNodeStep (Q : Bool → World → Prop) (x0_0 : Int) (x0_1 : Int) (x0_2 : Sl) (x0_3 : Sl) (x1_0 : Sl) (x1_1 : Sl) (x1_2 : Sl) (x2 : Sl) (w : World) : Prop :=
  NEW T.t_l_Problem #[.int .i64 x0_0, .int .i64 x0_1, x0_2.v, x0_3.v] w fun (px3 : Addr) w1 =>
  NEW T.t_l_Network #[x1_0.v, x1_1.v, x1_2.v] w1 fun (px4 : Addr) w2 =>
  LD [.int .i64, .int .i64, .sl, .sl] px3 w2 fun (x20_0 : Int) (x20_1 : Int) (x20_2 : Sl) (x20_3 : Sl) =>
  Calls Tryz.prog F.l_szProblem #[.agg #[.int .i64 x20_0, .int .i64 x20_1, x20_2.v, x20_3.v], .int .i64 1048576] w2 (Ret [.at (.int .i64)] fun (x22 : Int) w3 =>
  cond (decide ((x22 : Int) < 0)) (
  Q true w3) (
  LD [.sl, .sl, .sl] px4 w3 fun (x25_0 : Sl) (x25_1 : Sl) (x25_2 : Sl) =>
  Calls Tryz.prog F.l_szNetwork #[.agg #[x25_0.v, x25_1.v, x25_2.v], .int .i64 x22] w3 (Ret [.at (.int .i64)] fun (x27 : Int) w4 =>
  cond (decide ((x27 : Int) < 0)) (
  Q true w4) (
  Calls Tryz.prog F.l_szIntSS #[x2.v, .int .i64 x27] w4 (Ret [.at (.int .i64)] fun (x32 : Int) w5 =>
  cond (decide ((x32 : Int) < 0)) (
  Q true w5) (
  ∀ w6, Ext w5 w6 → w6.heap = w5.heap →
  LD [.int .i64, .int .i64, .sl, .sl] px3 w6 fun (x36_0 : Int) (x36_1 : Int) (x36_2 : Sl) (x36_3 : Sl) =>
  LD [.sl, .sl, .sl] px4 w6 fun (x38_0 : Sl) (x38_1 : Sl) (x38_2 : Sl) =>
  Calls Tryz.prog F.l_toProblem #[.agg #[.int .i64 x36_0, .int .i64 x36_1, x36_2.v, x36_3.v]] w6 (Ret [.agg [.int .i64, .int .i64, .sl, .sl]] fun (x37_0 : Int) (x37_1 : Int) (x37_2 : Sl) (x37_3 : Sl) w7 =>
  Ext w6 w7 ∧ (
  Calls Tryz.prog F.l_toNetwork #[.agg #[x38_0.v, x38_1.v, x38_2.v]] w7 (Ret [.agg [.sl, .sl, .sl]] fun (x39_0 : Sl) (x39_1 : Sl) (x39_2 : Sl) w8 =>
  Ext w6 w8 ∧ (
  Calls Tryz.prog F.l_toIntSS #[x2.v] w8 (Ret [.at .sl] fun (x41 : Sl) w9 =>
  Ext w6 w9 ∧ (
  Calls Tryz.prog F.s_PullNodeStep #[.agg #[.int .i64 x37_0, .int .i64 x37_1, x37_2.v, x37_3.v], .agg #[x39_0.v, x39_1.v, x39_2.v], x41.v] w9 (Ret [.at .sl, .at .bool] fun (x42_0 : Sl) (x42_1 : Bool) w10 =>
  Ext w6 w10 ∧ (
  Ext w6 w10 ∧ (
  Ext w6 w10 ∧ (
  LD [.int .i64, .int .i64, .sl, .sl] px3 w10 fun (x45_0 : Int) (x45_1 : Int) (x45_2 : Sl) (x45_3 : Sl) =>
  Calls Tryz.prog F.l_toProblem #[.agg #[.int .i64 x45_0, .int .i64 x45_1, x45_2.v, x45_3.v]] w10 (Ret [.agg [.int .i64, .int .i64, .sl, .sl]] fun (x46_0 : Int) (x46_1 : Int) (x46_2 : Sl) (x46_3 : Sl) w11 =>
  NEW T.t_i_Problem #[.int .i64 0, .int .i64 0, .slice none 0 0, .slice none 0 0] w11 fun (px10 : Addr) w12 =>
  ST px10 0 [.int .i64 x46_0, .int .i64 x46_1, x46_2.v, x46_3.v] w12 fun w13 =>
  LD [.sl, .sl, .sl] px4 w13 fun (x47_0 : Sl) (x47_1 : Sl) (x47_2 : Sl) =>
  Calls Tryz.prog F.l_toNetwork #[.agg #[x47_0.v, x47_1.v, x47_2.v]] w13 (Ret [.agg [.sl, .sl, .sl]] fun (x48_0 : Sl) (x48_1 : Sl) (x48_2 : Sl) w14 =>
  NEW T.t_i_Network #[.slice none 0 0, .slice none 0 0, .slice none 0 0] w14 fun (px11 : Addr) w15 =>
  ST px11 0 [x48_0.v, x48_1.v, x48_2.v] w15 fun w16 =>
  Calls Tryz.prog F.l_toIntSS #[x2.v] w16 (Ret [.at .sl] fun (x50 : Sl) w17 =>
  LD [.int .i64, .int .i64, .sl, .sl] px10 w17 fun (x52_0 : Int) (x52_1 : Int) (x52_2 : Sl) (x52_3 : Sl) =>
  LD [.sl, .sl, .sl] px11 w17 fun (x53_0 : Sl) (x53_1 : Sl) (x53_2 : Sl) =>
  Calls Tryz.prog F.i_PullNodeStep #[.agg #[.int .i64 x52_0, .int .i64 x52_1, x52_2.v, x52_3.v], .agg #[x53_0.v, x53_1.v, x53_2.v], x50.v] w17 (Ret [.at .sl, .at .bool] fun (x55_0 : Sl) (x55_1 : Bool) w18 =>
  Calls Tryz.prog F.l_eqIntSS #[x55_0.v, x42_0.v] w18 (Ret [.at .bool] fun (x60 : Bool) w19 =>
  cond (!x60) (
  Q false w19) (
  cond (!(x55_1 == x42_1)) (
  Q false w19) (
  V_l_FnExactPullNodeStep_k4 x2 Q px3 px4 x42_0 x42_1 px10 px11 x50 x55_0 x55_1 w19)))))))))))))))))))))))

theorem C_l_FnExactPullNodeStep {Q : Bool → World → Prop} {x0_0 : Int} {x0_1 : Int} {x0_2 : Sl} {x0_3 : Sl} {x1_0 : Sl} {x1_1 : Sl} {x1_2 : Sl} {x2 : Sl} {w : World} (h : V_l_FnExactPullNodeStep Q x0_0 x0_1 x0_2 x0_3 x1_0 x1_1 x1_2 x2 w) : Calls Tryz.prog F.l_FnExactPullNodeStep #[.agg #[.int .i64 x0_0, .int .i64 x0_1, x0_2.v, x0_3.v], .agg #[x1_0.v, x1_1.v, x1_2.v], x2.v] w (Ret [.at .bool] Q) :=
  mkC (hint := hint) (ann := annOf []) (args := [.agg #[.int .i64 x0_0, .int .i64 x0_1, x0_2.v, x0_3.v], .agg #[x1_0.v, x1_1.v, x1_2.v], x2.v]) (rs := [.at .bool]) Tryz.func7 (by kernel_rfl) (by kernel_rfl) h

def V_l_FnExactPullRound_k9 (x2 : Sl) (Q : Bool → World → Prop) (px3 : Addr) (px4 : Addr) (x42_0 : Sl) (x42_1 : Bool) (x55_0 : Sl) (w33 : World) : Prop :=
  Calls Tryz.prog F.l_markIntSS #[x55_0.v, .int .i64 1] w33 (Ret [.at (.int .i64)] fun (x106 : Int) w34 =>
  Calls Tryz.prog F.l_heldIntSS #[x55_0.v, .int .i64 1] w34 (Ret [.at (.int .i64)] fun (x109 : Int) w35 =>
  cond (decide ((x109 : Int) < 0)) (
  Q false w35) (
  cond ((x109 : Int) != x106) (
  Q false w35) (
  ∀ w36, Ext w35 w36 → w36.heap = w35.heap →
  LD [.int .i64, .int .i64, .sl, .sl] px3 w36 fun (x116_0 : Int) (x116_1 : Int) (x116_2 : Sl) (x116_3 : Sl) =>
  LD [.sl, .sl, .sl] px4 w36 fun (x118_0 : Sl) (x118_1 : Sl) (x118_2 : Sl) =>
  Calls Tryz.prog F.l_toProblem #[.agg #[.int .i64 x116_0, .int .i64 x116_1, x116_2.v, x116_3.v]] w36 (Ret [.agg [.int .i64, .int .i64, .sl, .sl]] fun (x117_0 : Int) (x117_1 : Int) (x117_2 : Sl) (x117_3 : Sl) w37 =>
  Ext w36 w37 ∧ (
  Calls Tryz.prog F.l_toNetwork #[.agg #[x118_0.v, x118_1.v, x118_2.v]] w37 (Ret [.agg [.sl, .sl, .sl]] fun (x119_0 : Sl) (x119_1 : Sl) (x119_2 : Sl) w38 =>
  Ext w36 w38 ∧ (
  Calls Tryz.prog F.l_toIntSS #[x2.v] w38 (Ret [.at .sl] fun (x121 : Sl) w39 =>
  Ext w36 w39 ∧ (
  Calls Tryz.prog F.i_PullRound #[.agg #[.int .i64 x117_0, .int .i64 x117_1, x117_2.v, x117_3.v], .agg #[x119_0.v, x119_1.v, x119_2.v], x121.v] w39 (Ret [.at .sl, .at .bool] fun (x122_0 : Sl) (x122_1 : Bool) w40 =>
  Ext w36 w40 ∧ (
  Ext w36 w40 ∧ (
  Ext w36 w40 ∧ (
  Calls Tryz.prog F.l_eqIntSS #[x122_0.v, x42_0.v] w40 (Ret [.at .bool] fun (x127 : Bool) w41 =>
  cond (!x127) (
  Q false w41) (
  cond (!(x122_1 == x42_1)) (
  Q false w41) (
  Calls Tryz.prog F.l_heldIntSS #[x55_0.v, .int .i64 1] w41 (Ret [.at (.int .i64)] fun (x136_2 : Int) w43 =>
  cond (decide ((x136_2 : Int) < 0)) (
  Q false w43) (
  cond ((x136_2 : Int) != x106) (
  Q false w43) (
  Q true w43))))))))))))))))))))

def V_l_FnExactPullRound_k4 (x2 : Sl) (Q : Bool → World → Prop) (px3 : Addr) (px4 : Addr) (x42_0 : Sl) (x42_1 : Bool) (px10 : Addr) (px11 : Addr) (x50 : Sl) (x55_0 : Sl) (x55_1 : Bool) (w20 : World) : Prop :=
  ∀ w21, Ext w20 w21 → w21.heap = w20.heap →
  LD [.int .i64, .int .i64, .sl, .sl] px10 w21 fun (x67_0 : Int) (x67_1 : Int) (x67_2 : Sl) (x67_3 : Sl) =>
  LD [.int .i64, .int .i64, .sl, .sl] px3 w21 fun (x68_0 : Int) (x68_1 : Int) (x68_2 : Sl) (x68_3 : Sl) =>
  Ext w21 w21 ∧ (
  Calls Tryz.prog F.l_toProblem #[.agg #[.int .i64 x68_0, .int .i64 x68_1, x68_2.v, x68_3.v]] w21 (Ret [.agg [.int .i64, .int .i64, .sl, .sl]] fun (x69_0 : Int) (x69_1 : Int) (x69_2 : Sl) (x69_3 : Sl) w22 =>
  Ext w21 w22 ∧ (
  Calls Tryz.prog F.l_eqProblem #[.agg #[.int .i64 x67_0, .int .i64 x67_1, x67_2.v, x67_3.v], .agg #[.int .i64 x69_0, .int .i64 x69_1, x69_2.v, x69_3.v]] w22 (Ret [.at .bool] fun (x70 : Bool) w23 =>
  Ext w21 w23 ∧ (
  cond (!x70) (
  Q false w23) (
  ∀ w24, Ext w23 w24 → w24.heap = w23.heap →
  LD [.sl, .sl, .sl] px11 w24 fun (x72_0 : Sl) (x72_1 : Sl) (x72_2 : Sl) =>
  LD [.sl, .sl, .sl] px4 w24 fun (x73_0 : Sl) (x73_1 : Sl) (x73_2 : Sl) =>
  Ext w24 w24 ∧ (
  Calls Tryz.prog F.l_toNetwork #[.agg #[x73_0.v, x73_1.v, x73_2.v]] w24 (Ret [.agg [.sl, .sl, .sl]] fun (x74_0 : Sl) (x74_1 : Sl) (x74_2 : Sl) w25 =>
  Ext w24 w25 ∧ (
  Calls Tryz.prog F.l_eqNetwork #[.agg #[x72_0.v, x72_1.v, x72_2.v], .agg #[x74_0.v, x74_1.v, x74_2.v]] w25 (Ret [.at .bool] fun (x75 : Bool) w26 =>
  Ext w24 w26 ∧ (
  cond (!x75) (
  Q false w26) (
  Calls Tryz.prog F.l_toIntSS #[x2.v] w26 (Ret [.at .sl] fun (x79 : Sl) w27 =>
  Calls Tryz.prog F.l_eqIntSS #[x50.v, x79.v] w27 (Ret [.at .bool] fun (x80 : Bool) w28 =>
  cond (!x80) (
  Q false w28) (
  LD [.int .i64, .int .i64, .sl, .sl] px10 w28 fun (x82_0 : Int) (x82_1 : Int) (x82_2 : Sl) (x82_3 : Sl) =>
  Calls Tryz.prog F.l_markProblem #[.agg #[.int .i64 x82_0, .int .i64 x82_1, x82_2.v, x82_3.v], .int .i64 1] w28 (Ret [.at (.int .i64)] fun (x84 : Int) w29 =>
  LD [.sl, .sl, .sl] px11 w29 fun (x85_0 : Sl) (x85_1 : Sl) (x85_2 : Sl) =>
  Calls Tryz.prog F.l_markNetwork #[.agg #[x85_0.v, x85_1.v, x85_2.v], .int .i64 x84] w29 (Ret [.at (.int .i64)] fun (x87 : Int) w30 =>
  Calls Tryz.prog F.l_markIntSS #[x50.v, .int .i64 x87] w30 (Ret [.at (.int .i64)] fun (x90 : Int) w31 =>
  cond (decide ((x90 : Int) < 0)) (
  Q false w31) (
  Calls Tryz.prog F.l_eqIntSS #[x55_0.v, x42_0.v] w31 (Ret [.at .bool] fun (x96 : Bool) w32 =>
  cond (!x96) (
  Q false w32) (
  cond (!(x55_1 == x42_1)) (
  Q false w32) (
  V_l_FnExactPullRound_k9 x2 Q px3 px4 x42_0 x42_1 x55_0 w32))))))))))))))))))))))

def V_l_FnExactPullRound (Q : Bool → World → Prop) (x0_0 : Int) (x0_1 : Int) (x0_2 : Sl) (x0_3 : Sl) (x1_0 : Sl) (x1_1 : Sl) (x1_2 : Sl) (x2 : Sl) (w : World) : Prop :=
  NEW T.t_l_Problem #[.int .i64 x0_0, .int .i64 x0_1, x0_2.v, x0_3.v] w fun (px3 : Addr) w1 =>
  NEW T.t_l_Network #[x1_0.v, x1_1.v, x1_2.v] w1 fun (px4 : Addr) w2 =>
  LD [.int .i64, .int .i64, .sl, .sl] px3 w2 fun (x20_0 : Int) (x20_1 : Int) (x20_2 : Sl) (x20_3 : Sl) =>
  Calls Tryz.prog F.l_szProblem #[.agg #[.int .i64 x20_0, .int .i64 x20_1, x20_2.v, x20_3.v], .int .i64 1048576] w2 (Ret [.at (.int .i64)] fun (x22 : Int) w3 =>
  cond (decide ((x22 : Int) < 0)) (
  Q true w3) (
  LD [.sl, .sl, .sl] px4 w3 fun (x25_0 : Sl) (x25_1 : Sl) (x25_2 : Sl) =>
  Calls Tryz.prog F.l_szNetwork #[.agg #[x25_0.v, x25_1.v, x25_2.v], .int .i64 x22] w3 (Ret [.at (.int .i64)] fun (x27 : Int) w4 =>
  cond (decide ((x27 : Int) < 0)) (
  Q true w4) (
  Calls Tryz.prog F.l_szIntSS #[x2.v, .int .i64 x27] w4 (Ret [.at (.int .i64)] fun (x32 : Int) w5 =>
  cond (decide ((x32 : Int) < 0)) (
  Q true w5) (
  ∀ w6, Ext w5 w6 → w6.heap = w5.heap →
  LD [.int .i64, .int .i64, .sl, .sl] px3 w6 fun (x36_0 : Int) (x36_1 : Int) (x36_2 : Sl) (x36_3 : Sl) =>
  LD [.sl, .sl, .sl] px4 w6 fun (x38_0 : Sl) (x38_1 : Sl) (x38_2 : Sl) =>
  Calls Tryz.prog F.l_toProblem #[.agg #[.int .i64 x36_0, .int .i64 x36_1, x36_2.v, x36_3.v]] w6 (Ret [.agg [.int .i64, .int .i64, .sl, .sl]] fun (x37_0 : Int) (x37_1 : Int) (x37_2 : Sl) (x37_3 : Sl) w7 =>
  Ext w6 w7 ∧ (
  Calls Tryz.prog F.l_toNetwork #[.agg #[x38_0.v, x38_1.v, x38_2.v]] w7 (Ret [.agg [.sl, .sl, .sl]] fun (x39_0 : Sl) (x39_1 : Sl) (x39_2 : Sl) w8 =>
  Ext w6 w8 ∧ (
  Calls Tryz.prog F.l_toIntSS #[x2.v] w8 (Ret [.at .sl] fun (x41 : Sl) w9 =>
  Ext w6 w9 ∧ (
  Calls Tryz.prog F.s_PullRound #[.agg #[.int .i64 x37_0, .int .i64 x37_1, x37_2.v, x37_3.v], .agg #[x39_0.v, x39_1.v, x39_2.v], x41.v] w9 (Ret [.at .sl, .at .bool] fun (x42_0 : Sl) (x42_1 : Bool) w10 =>
  Ext w6 w10 ∧ (
  Ext w6 w10 ∧ (
  Ext w6 w10 ∧ (
  LD [.int .i64, .int .i64, .sl, .sl] px3 w10 fun (x45_0 : Int) (x45_1 : Int) (x45_2 : Sl) (x45_3 : Sl) =>
  Calls Tryz.prog F.l_toProblem #[.agg #[.int .i64 x45_0, .int .i64 x45_1, x45_2.v, x45_3.v]] w10 (Ret [.agg [.int .i64, .int .i64, .sl, .sl]] fun (x46_0 : Int) (x46_1 : Int) (x46_2 : Sl) (x46_3 : Sl) w11 =>
  NEW T.t_i_Problem #[.int .i64 0, .int .i64 0, .slice none 0 0, .slice none 0 0] w11 fun (px10 : Addr) w12 =>
  ST px10 0 [.int .i64 x46_0, .int .i64 x46_1, x46_2.v, x46_3.v] w12 fun w13 =>
  LD [.sl, .sl, .sl] px4 w13 fun (x47_0 : Sl) (x47_1 : Sl) (x47_2 : Sl) =>
  Calls Tryz.prog F.l_toNetwork #[.agg #[x47_0.v, x47_1.v, x47_2.v]] w13 (Ret [.agg [.sl, .sl, .sl]] fun (x48_0 : Sl) (x48_1 : Sl) (x48_2 : Sl) w14 =>
  NEW T.t_i_Network #[.slice none 0 0, .slice none 0 0, .slice none 0 0] w14 fun (px11 : Addr) w15 =>
  ST px11 0 [x48_0.v, x48_1.v, x48_2.v] w15 fun w16 =>
  Calls Tryz.prog F.l_toIntSS #[x2.v] w16 (Ret [.at .sl] fun (x50 : Sl) w17 =>
  LD [.int .i64, .int .i64, .sl, .sl] px10 w17 fun (x52_0 : Int) (x52_1 : Int) (x52_2 : Sl) (x52_3 : Sl) =>
  LD [.sl, .sl, .sl] px11 w17 fun (x53_0 : Sl) (x53_1 : Sl) (x53_2 : Sl) =>
  Calls Tryz.prog F.i_PullRound #[.agg #[.int .i64 x52_0, .int .i64 x52_1, x52_2.v, x52_3.v], .agg #[x53_0.v, x53_1.v, x53_2.v], x50.v] w17 (Ret [.at .sl, .at .bool] fun (x55_0 : Sl) (x55_1 : Bool) w18 =>
  Calls Tryz.prog F.l_eqIntSS #[x55_0.v, x42_0.v] w18 (Ret [.at .bool] fun (x60 : Bool) w19 =>
  cond (!x60) (
  Q false w19) (
  cond (!(x55_1 == x42_1)) (
  Q false w19) (
  V_l_FnExactPullRound_k4 x2 Q px3 px4 x42_0 x42_1 px10 px11 x50 x55_0 x55_1 w19)))))))))))))))))))))))

theorem C_l_FnExactPullRound {Q : Bool → World → Prop} {x0_0 : Int} {x0_1 : Int} {x0_2 : Sl} {x0_3 : Sl} {x1_0 : Sl} {x1_1 : Sl} {x1_2 : Sl} {x2 : Sl} {w : World} (h : V_l_FnExactPullRound Q x0_0 x0_1 x0_2 x0_3 x1_0 x1_1 x1_2 x2 w) : Calls Tryz.prog F.l_FnExactPullRound #[.agg #[.int .i64 x0_0, .int .i64 x0_1, x0_2.v, x0_3.v], .agg #[x1_0.v, x1_1.v, x1_2.v], x2.v] w (Ret [.at .bool] Q) :=
  mkC (hint := hint) (ann := annOf []) (args := [.agg #[.int .i64 x0_0, .int .i64 x0_1, x0_2.v, x0_3.v], .agg #[x1_0.v, x1_1.v, x1_2.v], x2.v]) (rs := [.at .bool]) Tryz.func8 (by kernel_rfl) (by kernel_rfl) h

end Go.Proofs.YtlmiookpmneicaaGreat
end

section
/- What each function's code computes to. Printed by a program. -/
namespace Go.Proofs.YtlmiookpmneicaaGreat
open Go.GX Go.RowKit
set_option linter.unusedVariables false
set_option maxRecDepth 100000

def V_l_szProblem (Q : Int → World → Prop) (a_0 : Int) (a_1 : Int) (a_2 : Sl) (a_3 : Sl) (left : Int) (w : World) : Prop :=
  NEW T.t_l_Problem #[.int .i64 a_0, .int .i64 a_1, a_2.v, a_3.v] w fun (p_a : Addr) w1 =>
  LD [.sl] (p_a.add 2) w1 fun (x6 : Sl) =>
  Calls Tryz.prog F.l_szIntSS #[x6.v, .int .i64 left] w1 (Ret [.at (.int .i64)] fun (x8 : Int) w2 =>
  cond (decide ((x8 : Int) < 0)) (
  Q (-1) w2) (
  LD [.sl] (p_a.add 3) w2 fun (x12 : Sl) =>
  Calls Tryz.prog F.l_szIntSS #[x12.v, .int .i64 x8] w2 (Ret [.at (.int .i64)] fun (x14 : Int) w3 =>
  cond (decide ((x14 : Int) < 0)) (
  Q (-1) w3) (
  Q x14 w3))))

theorem C_l_szProblem {Q : Int → World → Prop} {a_0 : Int} {a_1 : Int} {a_2 : Sl} {a_3 : Sl} {left : Int} {w : World} (h : V_l_szProblem Q a_0 a_1 a_2 a_3 left w) : Calls Tryz.prog F.l_szProblem #[.agg #[.int .i64 a_0, .int .i64 a_1, a_2.v, a_3.v], .int .i64 left] w (Ret [.at (.int .i64)] Q) :=
  mkC (hint := hint) (ann := annOf []) (args := [.agg #[.int .i64 a_0, .int .i64 a_1, a_2.v, a_3.v], .int .i64 left]) (rs := [.at (.int .i64)]) Tryz.func13 (by kernel_rfl) (by kernel_rfl) h

def V_l_szIntSS (Q : Int → World → Prop) (a : Sl) (left : Int) (w : World) : Prop :=
  cond (decide (((IntKind.i64.wrap (left - a.len)) : Int) < 0)) (
  Q (-1) w) (
  ∃ (I5 : Int → Int → World → Prop) (m5 : Int → Int → World → Nat), I5 (IntKind.i64.wrap (left - a.len)) 0 w ∧ ∀ (left_2 : Int) (i : Int) w1, I5 left_2 i w1 → ∀ _ _ _ _ _ _ _ _ _ _ _ _ _ _ _ : Value,
  cond (decide ((i : Int) < a.len)) (
  IX a i 1 fun (px20 : Addr) =>
  LD [.sl] px20 w1 fun (x21 : Sl) =>
  Calls Tryz.prog F.l_szIntS #[x21.v, .int .i64 left_2] w1 (Ret [.at (.int .i64)] fun (x23 : Int) w2 =>
  cond (decide ((x23 : Int) < 0)) (
  Q (-1) w2) (
  I5 x23 (IntKind.i64.wrap (i + 1)) w2 ∧ m5 x23 (IntKind.i64.wrap (i + 1)) w2 < m5 left_2 i w1))) (
  Q left_2 w1))

theorem C_l_szIntSS {Q : Int → World → Prop} {a : Sl} {left : Int} {w : World} (h : V_l_szIntSS Q a left w) : Calls Tryz.prog F.l_szIntSS #[a.v, .int .i64 left] w (Ret [.at (.int .i64)] Q) :=
  mkC (hint := hint) (ann := annOf [(5, ⟨[(1, .int .i64), (5, .int .i64)], [4, 12, 13, 14, 15, 16, 17, 18, 19, 20, 21, 22, 23, 24, 25]⟩)]) (args := [a.v, .int .i64 left]) (rs := [.at (.int .i64)]) Tryz.func14 (by kernel_rfl) (by kernel_rfl) h

def V_l_szNetwork (Q : Int → World → Prop) (a_0 : Sl) (a_1 : Sl) (a_2 : Sl) (left : Int) (w : World) : Prop :=
  NEW T.t_l_Network #[a_0.v, a_1.v, a_2.v] w fun (p_a : Addr) w1 =>
  LD [.sl] (p_a.add 0) w1 fun (x6 : Sl) =>
  Calls Tryz.prog F.l_szEndSS #[x6.v, .int .i64 left] w1 (Ret [.at (.int .i64)] fun (x8 : Int) w2 =>
  cond (decide ((x8 : Int) < 0)) (
  Q (-1) w2) (
  LD [.sl] (p_a.add 1) w2 fun (x12 : Sl) =>
  Calls Tryz.prog F.l_szIntS #[x12.v, .int .i64 x8] w2 (Ret [.at (.int .i64)] fun (x14 : Int) w3 =>
  cond (decide ((x14 : Int) < 0)) (
  Q (-1) w3) (
  LD [.sl] (p_a.add 2) w3 fun (x18 : Sl) =>
  Calls Tryz.prog F.l_szIntS #[x18.v, .int .i64 x14] w3 (Ret [.at (.int .i64)] fun (x20 : Int) w4 =>
  cond (decide ((x20 : Int) < 0)) (
  Q (-1) w4) (
  Q x20 w4))))))

theorem C_l_szNetwork {Q : Int → World → Prop} {a_0 : Sl} {a_1 : Sl} {a_2 : Sl} {left : Int} {w : World} (h : V_l_szNetwork Q a_0 a_1 a_2 left w) : Calls Tryz.prog F.l_szNetwork #[.agg #[a_0.v, a_1.v, a_2.v], .int .i64 left] w (Ret [.at (.int .i64)] Q) :=
  mkC (hint := hint) (ann := annOf []) (args := [.agg #[a_0.v, a_1.v, a_2.v], .int .i64 left]) (rs := [.at (.int .i64)]) Tryz.func15 (by kernel_rfl) (by kernel_rfl) h

def V_l_toProblem (Q : Int → Int → Sl → Sl → World → Prop) (a_0 : Int) (a_1 : Int) (a_2 : Sl) (a_3 : Sl) (w : World) : Prop :=
  NEW T.t_l_Problem #[.int .i64 a_0, .int .i64 a_1, a_2.v, a_3.v] w fun (p_a : Addr) w1 =>
  NEW T.t_i_Problem #[.int .i64 0, .int .i64 0, .slice none 0 0, .slice none 0 0] w1 fun (px2 : Addr) w2 =>
  NEW T.t_i_Problem #[.int .i64 0, .int .i64 0, .slice none 0 0, .slice none 0 0] w2 fun (p_out : Addr) w3 =>
  LD [.int .i64] (p_a.add 0) w3 fun (x5 : Int) =>
  ST (p_out.add 0) 0 [.int .i64 x5] w3 fun w4 =>
  LD [.int .i64] (p_a.add 1) w4 fun (x8 : Int) =>
  ST (p_out.add 1) 0 [.int .i64 x8] w4 fun w5 =>
  LD [.sl] (p_a.add 2) w5 fun (x11 : Sl) =>
  Calls Tryz.prog F.l_toIntSS #[x11.v] w5 (Ret [.at .sl] fun (x12 : Sl) w6 =>
  ST (p_out.add 2) 0 [x12.v] w6 fun w7 =>
  LD [.sl] (p_a.add 3) w7 fun (x15 : Sl) =>
  Calls Tryz.prog F.l_toIntSS #[x15.v] w7 (Ret [.at .sl] fun (x16 : Sl) w8 =>
  ST (p_out.add 3) 0 [x16.v] w8 fun w9 =>
  LD [.int .i64, .int .i64, .sl, .sl] p_out w9 fun (x18_0 : Int) (x18_1 : Int) (x18_2 : Sl) (x18_3 : Sl) =>
  ST px2 0 [.int .i64 x18_0, .int .i64 x18_1, x18_2.v, x18_3.v] w9 fun w10 =>
  LD [.int .i64, .int .i64, .sl, .sl] px2 w10 fun (r0_0 : Int) (r0_1 : Int) (r0_2 : Sl) (r0_3 : Sl) =>
  Q r0_0 r0_1 r0_2 r0_3 w10))

theorem C_l_toProblem {Q : Int → Int → Sl → Sl → World → Prop} {a_0 : Int} {a_1 : Int} {a_2 : Sl} {a_3 : Sl} {w : World} (h : V_l_toProblem Q a_0 a_1 a_2 a_3 w) : Calls Tryz.prog F.l_toProblem #[.agg #[.int .i64 a_0, .int .i64 a_1, a_2.v, a_3.v]] w (Ret [.agg [.int .i64, .int .i64, .sl, .sl]] Q) :=
  mkC (hint := hint) (ann := annOf []) (args := [.agg #[.int .i64 a_0, .int .i64 a_1, a_2.v, a_3.v]]) (rs := [.agg [.int .i64, .int .i64, .sl, .sl]]) Tryz.func17 (by kernel_rfl) (by kernel_rfl) h

def V_l_toIntSS (Q : Sl → World → Prop) (a : Sl) (w : World) : Prop :=
  RUN Tryz.prog (.at .sl) (Instr.makeSlice T.t_sl_sl_int (.int .i64 a.len) (.int .i64 a.len)) w fun (x7 : Sl) w1 =>
  ∃ (I3 : Int → World → Prop) (m3 : Int → World → Nat), I3 0 w1 ∧ ∀ (i : Int) w2, I3 i w2 → ∀ _ _ _ _ _ _ _ _ _ _ _ _ _ _ : Value,
  cond (decide ((i : Int) < a.len)) (
  IX a i 1 fun (px18 : Addr) =>
  LD [.sl] px18 w2 fun (x19 : Sl) =>
  Calls Tryz.prog F.l_toIntS #[x19.v] w2 (Ret [.at .sl] fun (x20 : Sl) w3 =>
  IX x7 i 1 fun (px21 : Addr) =>
  ST px21 0 [x20.v] w3 fun w4 =>
  I3 (IntKind.i64.wrap (i + 1)) w4 ∧ m3 (IntKind.i64.wrap (i + 1)) w4 < m3 i w2)) (
  Q x7 w2)

theorem C_l_toIntSS {Q : Sl → World → Prop} {a : Sl} {w : World} (h : V_l_toIntSS Q a w) : Calls Tryz.prog F.l_toIntSS #[a.v] w (Ret [.at .sl] Q) :=
  mkC (hint := hint) (ann := annOf [(3, ⟨[(4, .int .i64)], [8, 9, 10, 11, 12, 13, 14, 15, 16, 17, 18, 19, 20, 21]⟩)]) (args := [a.v]) (rs := [.at .sl]) Tryz.func18 (by kernel_rfl) (by kernel_rfl) h

def V_l_toNetwork (Q : Sl → Sl → Sl → World → Prop) (a_0 : Sl) (a_1 : Sl) (a_2 : Sl) (w : World) : Prop :=
  NEW T.t_l_Network #[a_0.v, a_1.v, a_2.v] w fun (p_a : Addr) w1 =>
  NEW T.t_i_Network #[.slice none 0 0, .slice none 0 0, .slice none 0 0] w1 fun (px2 : Addr) w2 =>
  NEW T.t_i_Network #[.slice none 0 0, .slice none 0 0, .slice none 0 0] w2 fun (p_out : Addr) w3 =>
  LD [.sl] (p_a.add 0) w3 fun (x5 : Sl) =>
  Calls Tryz.prog F.l_toEndSS #[x5.v] w3 (Ret [.at .sl] fun (x6 : Sl) w4 =>
  ST (p_out.add 0) 0 [x6.v] w4 fun w5 =>
  LD [.sl] (p_a.add 1) w5 fun (x9 : Sl) =>
  Calls Tryz.prog F.l_toIntS #[x9.v] w5 (Ret [.at .sl] fun (x10 : Sl) w6 =>
  ST (p_out.add 1) 0 [x10.v] w6 fun w7 =>
  LD [.sl] (p_a.add 2) w7 fun (x13 : Sl) =>
  Calls Tryz.prog F.l_toIntS #[x13.v] w7 (Ret [.at .sl] fun (x14 : Sl) w8 =>
  ST (p_out.add 2) 0 [x14.v] w8 fun w9 =>
  LD [.sl, .sl, .sl] p_out w9 fun (x16_0 : Sl) (x16_1 : Sl) (x16_2 : Sl) =>
  ST px2 0 [x16_0.v, x16_1.v, x16_2.v] w9 fun w10 =>
  LD [.sl, .sl, .sl] px2 w10 fun (r0_0 : Sl) (r0_1 : Sl) (r0_2 : Sl) =>
  Q r0_0 r0_1 r0_2 w10)))

theorem C_l_toNetwork {Q : Sl → Sl → Sl → World → Prop} {a_0 : Sl} {a_1 : Sl} {a_2 : Sl} {w : World} (h : V_l_toNetwork Q a_0 a_1 a_2 w) : Calls Tryz.prog F.l_toNetwork #[.agg #[a_0.v, a_1.v, a_2.v]] w (Ret [.agg [.sl, .sl, .sl]] Q) :=
  mkC (hint := hint) (ann := annOf []) (args := [.agg #[a_0.v, a_1.v, a_2.v]]) (rs := [.agg [.sl, .sl, .sl]]) Tryz.func19 (by kernel_rfl) (by kernel_rfl) h

def V_l_eqIntSS (Q : Bool → World → Prop) (a : Sl) (b : Sl) (w : World) : Prop :=
  cond ((a.len : Int) != b.len) (
  Q false w) (
  ∃ (I4 : Int → World → Prop) (m4 : Int → World → Nat), I4 0 w ∧ ∀ (i : Int) w1, I4 i w1 → ∀ _ _ _ _ _ _ _ _ _ _ _ _ _ _ _ _ _ : Value,
  cond (decide ((i : Int) < a.len)) (
  IX a i 1 fun (px19 : Addr) =>
  LD [.sl] px19 w1 fun (x20 : Sl) =>
  IX b i 1 fun (px23 : Addr) =>
  LD [.sl] px23 w1 fun (x24 : Sl) =>
  QCALL Tryz.prog F.l_eqIntS #[x20.v, x24.v] w1 [.at .bool] fun (x25 : Bool) =>
  ∀ w2, Ext w1 w2 →
  cond (!x25) (
  Q false w2) (
  I4 (IntKind.i64.wrap (i + 1)) w2 ∧ m4 (IntKind.i64.wrap (i + 1)) w2 < m4 i w1)) (
  Q true w1))

theorem C_l_eqIntSS {Q : Bool → World → Prop} {a : Sl} {b : Sl} {w : World} (h : V_l_eqIntSS Q a b w) : Calls Tryz.prog F.l_eqIntSS #[a.v, b.v] w (Ret [.at .bool] Q) :=
  mkC (hint := hint) (ann := annOf [(4, ⟨[(5, .int .i64)], [4, 11, 12, 13, 14, 15, 16, 17, 18, 19, 20, 21, 22, 23, 24, 25, 26]⟩)]) (args := [a.v, b.v]) (rs := [.at .bool]) Tryz.func21 (by kernel_rfl) (by kernel_rfl) h

def V_l_eqProblem (Q : Bool → World → Prop) (a_0 : Int) (a_1 : Int) (a_2 : Sl) (a_3 : Sl) (b_0 : Int) (b_1 : Int) (b_2 : Sl) (b_3 : Sl) (w : World) : Prop :=
  NEW T.t_i_Problem #[.int .i64 a_0, .int .i64 a_1, a_2.v, a_3.v] w fun (p_a : Addr) w1 =>
  NEW T.t_i_Problem #[.int .i64 b_0, .int .i64 b_1, b_2.v, b_3.v] w1 fun (p_b : Addr) w2 =>
  LD [.int .i64] (p_a.add 0) w2 fun (x6 : Int) =>
  LD [.int .i64] (p_b.add 0) w2 fun (x8 : Int) =>
  cond ((x6 : Int) != x8) (
  Q false w2) (
  LD [.int .i64] (p_a.add 1) w2 fun (x11 : Int) =>
  LD [.int .i64] (p_b.add 1) w2 fun (x13 : Int) =>
  cond ((x11 : Int) != x13) (
  Q false w2) (
  LD [.sl] (p_a.add 2) w2 fun (x16 : Sl) =>
  LD [.sl] (p_b.add 2) w2 fun (x18 : Sl) =>
  Calls Tryz.prog F.l_eqIntSS #[x16.v, x18.v] w2 (Ret [.at .bool] fun (x19 : Bool) w3 =>
  cond (!x19) (
  Q false w3) (
  LD [.sl] (p_a.add 3) w3 fun (x22 : Sl) =>
  LD [.sl] (p_b.add 3) w3 fun (x24 : Sl) =>
  Calls Tryz.prog F.l_eqIntSS #[x22.v, x24.v] w3 (Ret [.at .bool] fun (x25 : Bool) w4 =>
  cond (!x25) (
  Q false w4) (
  Q true w4))))))

theorem C_l_eqProblem {Q : Bool → World → Prop} {a_0 : Int} {a_1 : Int} {a_2 : Sl} {a_3 : Sl} {b_0 : Int} {b_1 : Int} {b_2 : Sl} {b_3 : Sl} {w : World} (h : V_l_eqProblem Q a_0 a_1 a_2 a_3 b_0 b_1 b_2 b_3 w) : Calls Tryz.prog F.l_eqProblem #[.agg #[.int .i64 a_0, .int .i64 a_1, a_2.v, a_3.v], .agg #[.int .i64 b_0, .int .i64 b_1, b_2.v, b_3.v]] w (Ret [.at .bool] Q) :=
  mkC (hint := hint) (ann := annOf []) (args := [.agg #[.int .i64 a_0, .int .i64 a_1, a_2.v, a_3.v], .agg #[.int .i64 b_0, .int .i64 b_1, b_2.v, b_3.v]]) (rs := [.at .bool]) Tryz.func22 (by kernel_rfl) (by kernel_rfl) h

def V_l_eqNetwork (Q : Bool → World → Prop) (a_0 : Sl) (a_1 : Sl) (a_2 : Sl) (b_0 : Sl) (b_1 : Sl) (b_2 : Sl) (w : World) : Prop :=
  NEW T.t_i_Network #[a_0.v, a_1.v, a_2.v] w fun (p_a : Addr) w1 =>
  NEW T.t_i_Network #[b_0.v, b_1.v, b_2.v] w1 fun (p_b : Addr) w2 =>
  LD [.sl] (p_a.add 0) w2 fun (x6 : Sl) =>
  LD [.sl] (p_b.add 0) w2 fun (x8 : Sl) =>
  Calls Tryz.prog F.l_eqEndSS #[x6.v, x8.v] w2 (Ret [.at .bool] fun (x9 : Bool) w3 =>
  cond (!x9) (
  Q false w3) (
  LD [.sl] (p_a.add 1) w3 fun (x12 : Sl) =>
  LD [.sl] (p_b.add 1) w3 fun (x14 : Sl) =>
  Calls Tryz.prog F.l_eqIntS #[x12.v, x14.v] w3 (Ret [.at .bool] fun (x15 : Bool) w4 =>
  cond (!x15) (
  Q false w4) (
  LD [.sl] (p_a.add 2) w4 fun (x18 : Sl) =>
  LD [.sl] (p_b.add 2) w4 fun (x20 : Sl) =>
  Calls Tryz.prog F.l_eqIntS #[x18.v, x20.v] w4 (Ret [.at .bool] fun (x21 : Bool) w5 =>
  cond (!x21) (
  Q false w5) (
  Q true w5))))))

theorem C_l_eqNetwork {Q : Bool → World → Prop} {a_0 : Sl} {a_1 : Sl} {a_2 : Sl} {b_0 : Sl} {b_1 : Sl} {b_2 : Sl} {w : World} (h : V_l_eqNetwork Q a_0 a_1 a_2 b_0 b_1 b_2 w) : Calls Tryz.prog F.l_eqNetwork #[.agg #[a_0.v, a_1.v, a_2.v], .agg #[b_0.v, b_1.v, b_2.v]] w (Ret [.at .bool] Q) :=
  mkC (hint := hint) (ann := annOf []) (args := [.agg #[a_0.v, a_1.v, a_2.v], .agg #[b_0.v, b_1.v, b_2.v]]) (rs := [.at .bool]) Tryz.func23 (by kernel_rfl) (by kernel_rfl) h

def V_l_markProblem (Q : Int → World → Prop) (a_0 : Int) (a_1 : Int) (a_2 : Sl) (a_3 : Sl) (k : Int) (w : World) : Prop :=
  NEW T.t_i_Problem #[.int .i64 a_0, .int .i64 a_1, a_2.v, a_3.v] w fun (p_a : Addr) w1 =>
  LD [.sl] (p_a.add 2) w1 fun (x6 : Sl) =>
  Calls Tryz.prog F.l_markIntSS #[x6.v, .int .i64 k] w1 (Ret [.at (.int .i64)] fun (x8 : Int) w2 =>
  LD [.sl] (p_a.add 3) w2 fun (x10 : Sl) =>
  Calls Tryz.prog F.l_markIntSS #[x10.v, .int .i64 x8] w2 (Ret [.at (.int .i64)] fun (x12 : Int) w3 =>
  Q x12 w3))

theorem C_l_markProblem {Q : Int → World → Prop} {a_0 : Int} {a_1 : Int} {a_2 : Sl} {a_3 : Sl} {k : Int} {w : World} (h : V_l_markProblem Q a_0 a_1 a_2 a_3 k w) : Calls Tryz.prog F.l_markProblem #[.agg #[.int .i64 a_0, .int .i64 a_1, a_2.v, a_3.v], .int .i64 k] w (Ret [.at (.int .i64)] Q) :=
  mkC (hint := hint) (ann := annOf []) (args := [.agg #[.int .i64 a_0, .int .i64 a_1, a_2.v, a_3.v], .int .i64 k]) (rs := [.at (.int .i64)]) Tryz.func24 (by kernel_rfl) (by kernel_rfl) h

def V_l_markIntSS (Q : Int → World → Prop) (a : Sl) (k : Int) (w : World) : Prop :=
  ∃ (I2 : Int → Int → World → Prop) (m2 : Int → Int → World → Nat), I2 k 0 w ∧ ∀ (k_2 : Int) (i : Int) w1, I2 k_2 i w1 → ∀ _ _ _ _ _ _ _ _ _ _ _ _ : Value,
  cond (decide ((i : Int) < a.len)) (
  IX a i 1 fun (px14 : Addr) =>
  LD [.sl] px14 w1 fun (x15 : Sl) =>
  Calls Tryz.prog F.l_markIntS #[x15.v, .int .i64 k_2] w1 (Ret [.at (.int .i64)] fun (x17 : Int) w2 =>
  I2 x17 (IntKind.i64.wrap (i + 1)) w2 ∧ m2 x17 (IntKind.i64.wrap (i + 1)) w2 < m2 k_2 i w1)) (
  Q k_2 w1)

theorem C_l_markIntSS {Q : Int → World → Prop} {a : Sl} {k : Int} {w : World} (h : V_l_markIntSS Q a k w) : Calls Tryz.prog F.l_markIntSS #[a.v, .int .i64 k] w (Ret [.at (.int .i64)] Q) :=
  mkC (hint := hint) (ann := annOf [(2, ⟨[(1, .int .i64), (5, .int .i64)], [6, 7, 8, 9, 10, 11, 12, 13, 14, 15, 16, 17]⟩)]) (args := [a.v, .int .i64 k]) (rs := [.at (.int .i64)]) Tryz.func25 (by kernel_rfl) (by kernel_rfl) h

def V_l_markNetwork (Q : Int → World → Prop) (a_0 : Sl) (a_1 : Sl) (a_2 : Sl) (k : Int) (w : World) : Prop :=
  NEW T.t_i_Network #[a_0.v, a_1.v, a_2.v] w fun (p_a : Addr) w1 =>
  LD [.sl] (p_a.add 0) w1 fun (x6 : Sl) =>
  Calls Tryz.prog F.l_markEndSS #[x6.v, .int .i64 k] w1 (Ret [.at (.int .i64)] fun (x8 : Int) w2 =>
  LD [.sl] (p_a.add 1) w2 fun (x10 : Sl) =>
  Calls Tryz.prog F.l_markIntS #[x10.v, .int .i64 x8] w2 (Ret [.at (.int .i64)] fun (x12 : Int) w3 =>
  LD [.sl] (p_a.add 2) w3 fun (x14 : Sl) =>
  Calls Tryz.prog F.l_markIntS #[x14.v, .int .i64 x12] w3 (Ret [.at (.int .i64)] fun (x16 : Int) w4 =>
  Q x16 w4)))

theorem C_l_markNetwork {Q : Int → World → Prop} {a_0 : Sl} {a_1 : Sl} {a_2 : Sl} {k : Int} {w : World} (h : V_l_markNetwork Q a_0 a_1 a_2 k w) : Calls Tryz.prog F.l_markNetwork #[.agg #[a_0.v, a_1.v, a_2.v], .int .i64 k] w (Ret [.at (.int .i64)] Q) :=
  mkC (hint := hint) (ann := annOf []) (args := [.agg #[a_0.v, a_1.v, a_2.v], .int .i64 k]) (rs := [.at (.int .i64)]) Tryz.func26 (by kernel_rfl) (by kernel_rfl) h

def V_l_heldIntSS (Q : Int → World → Prop) (a : Sl) (k : Int) (w : World) : Prop :=
  ∃ (I2 : Int → Int → World → Prop) (m2 : Int → Int → World → Nat), I2 k 0 w ∧ ∀ (k_2 : Int) (i : Int) w1, I2 k_2 i w1 → ∀ _ _ _ _ _ _ _ _ _ _ _ _ _ _ _ : Value,
  cond (decide ((i : Int) < a.len)) (
  IX a i 1 fun (px14 : Addr) =>
  LD [.sl] px14 w1 fun (x15 : Sl) =>
  Calls Tryz.prog F.l_heldIntS #[x15.v, .int .i64 k_2] w1 (Ret [.at (.int .i64)] fun (x17 : Int) w2 =>
  cond (decide ((x17 : Int) < 0)) (
  Q (-1) w2) (
  I2 x17 (IntKind.i64.wrap (i + 1)) w2 ∧ m2 x17 (IntKind.i64.wrap (i + 1)) w2 < m2 k_2 i w1))) (
  Q k_2 w1)

theorem C_l_heldIntSS {Q : Int → World → Prop} {a : Sl} {k : Int} {w : World} (h : V_l_heldIntSS Q a k w) : Calls Tryz.prog F.l_heldIntSS #[a.v, .int .i64 k] w (Ret [.at (.int .i64)] Q) :=
  mkC (hint := hint) (ann := annOf [(2, ⟨[(1, .int .i64), (5, .int .i64)], [4, 6, 7, 8, 9, 10, 11, 12, 13, 14, 15, 16, 17, 18, 19]⟩)]) (args := [a.v, .int .i64 k]) (rs := [.at (.int .i64)]) Tryz.func27 (by kernel_rfl) (by kernel_rfl) h

end Go.Proofs.YtlmiookpmneicaaGreat
end

section
/- What each function's code computes to. Printed by a program. -/
namespace Go.Proofs.YtlmiookpmneicaaGreat
open Go.GX Go.RowKit
set_option linter.unusedVariables false
set_option maxRecDepth 100000

def V_s_CheckEndless (Q : Bool → Bool → World → Prop) (p_0 : Int) (p_1 : Int) (p_2 : Sl) (p_3 : Sl) (f : Sl) (pairs : Sl) (w : World) : Prop :=
  NEW T.t_i_Problem #[.int .i64 p_0, .int .i64 p_1, p_2.v, p_3.v] w fun (p_p : Addr) w1 =>
  LD [.int .i64, .int .i64, .sl, .sl] p_p w1 fun (x13_0 : Int) (x13_1 : Int) (x13_2 : Sl) (x13_3 : Sl) =>
  Calls Tryz.prog F.s_EliminateRound #[.agg #[.int .i64 x13_0, .int .i64 x13_1, x13_2.v, x13_3.v]] w1 (Ret [.agg [.int .i64, .int .i64, .sl, .sl], .at .sl, .at .sl, .at .bool] fun (x14_0_0 : Int) (x14_0_1 : Int) (x14_0_2 : Sl) (x14_0_3 : Sl) (x14_1 : Sl) (x14_2 : Sl) (x14_3 : Bool) w2 =>
  NEW T.t_i_Problem #[.int .i64 0, .int .i64 0, .slice none 0 0, .slice none 0 0] w2 fun (p_r : Addr) w3 =>
  ST p_r 0 [.int .i64 x14_0_0, .int .i64 x14_0_1, x14_0_2.v, x14_0_3.v] w3 fun w4 =>
  cond (!x14_3) (
  Q false false w4) (
  LD [.int .i64, .int .i64, .sl, .sl] p_r w4 fun (x21_0 : Int) (x21_1 : Int) (x21_2 : Sl) (x21_3 : Sl) =>
  LD [.int .i64, .int .i64, .sl, .sl] p_p w4 fun (x22_0 : Int) (x22_1 : Int) (x22_2 : Sl) (x22_3 : Sl) =>
  Calls Tryz.prog F.s_reMap #[.agg #[.int .i64 x21_0, .int .i64 x21_1, x21_2.v, x21_3.v], .agg #[.int .i64 x22_0, .int .i64 x22_1, x22_2.v, x22_3.v], f.v] w4 (Ret [.at .bool] fun (x24 : Bool) w5 =>
  cond x24 (
  LD [.int .i64, .int .i64, .sl, .sl] p_p w5 fun (x26_0 : Int) (x26_1 : Int) (x26_2 : Sl) (x26_3 : Sl) =>
  Calls Tryz.prog F.s_boZero #[.agg #[.int .i64 x26_0, .int .i64 x26_1, x26_2.v, x26_3.v], pairs.v] w5 (Ret [.at .bool] fun (x28 : Bool) w6 =>
  Q x28 true w6)) (
  Q false true w5))))

theorem C_s_CheckEndless {Q : Bool → Bool → World → Prop} {p_0 : Int} {p_1 : Int} {p_2 : Sl} {p_3 : Sl} {f : Sl} {pairs : Sl} {w : World} (h : V_s_CheckEndless Q p_0 p_1 p_2 p_3 f pairs w) : Calls Tryz.prog F.s_CheckEndless #[.agg #[.int .i64 p_0, .int .i64 p_1, p_2.v, p_3.v], f.v, pairs.v] w (Ret [.at .bool, .at .bool] Q) :=
  mkC (hint := hint) (ann := annOf []) (args := [.agg #[.int .i64 p_0, .int .i64 p_1, p_2.v, p_3.v], f.v, pairs.v]) (rs := [.at .bool, .at .bool]) Tryz.func30 (by kernel_rfl) (by kernel_rfl) h

def V_l_toIntS (Q : Sl → World → Prop) (a : Sl) (w : World) : Prop :=
  RUN Tryz.prog (.at .sl) (Instr.makeSlice T.t_sl_int (.int .i64 a.len) (.int .i64 a.len)) w fun (x7 : Sl) w1 =>
  ∃ (I3 : Int → World → Prop) (m3 : Int → World → Nat), I3 0 w1 ∧ ∀ (i : Int) w2, I3 i w2 → ∀ _ _ _ _ _ _ _ _ _ _ _ _ _ : Value,
  cond (decide ((i : Int) < a.len)) (
  IX a i 1 fun (px18 : Addr) =>
  LD [.int .i64] px18 w2 fun (x19 : Int) =>
  IX x7 i 1 fun (px20 : Addr) =>
  ST px20 0 [.int .i64 x19] w2 fun w3 =>
  I3 (IntKind.i64.wrap (i + 1)) w3 ∧ m3 (IntKind.i64.wrap (i + 1)) w3 < m3 i w2) (
  Q x7 w2)

theorem C_l_toIntS {Q : Sl → World → Prop} {a : Sl} {w : World} (h : V_l_toIntS Q a w) : Calls Tryz.prog F.l_toIntS #[a.v] w (Ret [.at .sl] Q) :=
  mkC (hint := hint) (ann := annOf [(3, ⟨[(4, .int .i64)], [8, 9, 10, 11, 12, 13, 14, 15, 16, 17, 18, 19, 20]⟩)]) (args := [a.v]) (rs := [.at .sl]) Tryz.func31 (by kernel_rfl) (by kernel_rfl) h

def V_i_CheckEndless (Q : Bool → Bool → World → Prop) (p_0 : Int) (p_1 : Int) (p_2 : Sl) (p_3 : Sl) (f : Sl) (pairs : Sl) (w : World) : Prop :=
  NEW T.t_i_Problem #[.int .i64 p_0, .int .i64 p_1, p_2.v, p_3.v] w fun (p_p : Addr) w1 =>
  LD [.int .i64, .int .i64, .sl, .sl] p_p w1 fun (x13_0 : Int) (x13_1 : Int) (x13_2 : Sl) (x13_3 : Sl) =>
  Calls Tryz.prog F.i_EliminateRound #[.agg #[.int .i64 x13_0, .int .i64 x13_1, x13_2.v, x13_3.v]] w1 (Ret [.agg [.int .i64, .int .i64, .sl, .sl], .at .sl, .at .sl, .at .bool] fun (x14_0_0 : Int) (x14_0_1 : Int) (x14_0_2 : Sl) (x14_0_3 : Sl) (x14_1 : Sl) (x14_2 : Sl) (x14_3 : Bool) w2 =>
  NEW T.t_i_Problem #[.int .i64 0, .int .i64 0, .slice none 0 0, .slice none 0 0] w2 fun (p_q : Addr) w3 =>
  ST p_q 0 [.int .i64 x14_0_0, .int .i64 x14_0_1, x14_0_2.v, x14_0_3.v] w3 fun w4 =>
  cond (!x14_3) (
  Q false false w4) (
  LD [.int .i64, .int .i64, .sl, .sl] p_q w4 fun (x21_0 : Int) (x21_1 : Int) (x21_2 : Sl) (x21_3 : Sl) =>
  LD [.int .i64, .int .i64, .sl, .sl] p_p w4 fun (x22_0 : Int) (x22_1 : Int) (x22_2 : Sl) (x22_3 : Sl) =>
  Calls Tryz.prog F.i_isLabelMap #[.agg #[.int .i64 x21_0, .int .i64 x21_1, x21_2.v, x21_3.v], .agg #[.int .i64 x22_0, .int .i64 x22_1, x22_2.v, x22_3.v], f.v] w4 (Ret [.at .bool] fun (x24 : Bool) w5 =>
  cond x24 (
  LD [.int .i64, .int .i64, .sl, .sl] p_p w5 fun (x26_0 : Int) (x26_1 : Int) (x26_2 : Sl) (x26_3 : Sl) =>
  Calls Tryz.prog F.i_isZeroRefusal #[.agg #[.int .i64 x26_0, .int .i64 x26_1, x26_2.v, x26_3.v], pairs.v] w5 (Ret [.at .bool] fun (x28 : Bool) w6 =>
  Q x28 true w6)) (
  Q false true w5))))

theorem C_i_CheckEndless {Q : Bool → Bool → World → Prop} {p_0 : Int} {p_1 : Int} {p_2 : Sl} {p_3 : Sl} {f : Sl} {pairs : Sl} {w : World} (h : V_i_CheckEndless Q p_0 p_1 p_2 p_3 f pairs w) : Calls Tryz.prog F.i_CheckEndless #[.agg #[.int .i64 p_0, .int .i64 p_1, p_2.v, p_3.v], f.v, pairs.v] w (Ret [.at .bool, .at .bool] Q) :=
  mkC (hint := hint) (ann := annOf []) (args := [.agg #[.int .i64 p_0, .int .i64 p_1, p_2.v, p_3.v], f.v, pairs.v]) (rs := [.at .bool, .at .bool]) Tryz.func32 (by kernel_rfl) (by kernel_rfl) h

def V_l_eqIntS (Q : Bool → World → Prop) (a : Sl) (b : Sl) (w : World) : Prop :=
  cond ((a.len : Int) != b.len) (
  Q false w) (
  ∃ (I4 : Int → World → Prop) (m4 : Int → World → Nat), I4 0 w ∧ ∀ (i : Int) w1, I4 i w1 → ∀ _ _ _ _ _ _ _ _ _ _ _ _ _ _ _ _ : Value,
  cond (decide ((i : Int) < a.len)) (
  IX a i 1 fun (px19 : Addr) =>
  LD [.int .i64] px19 w1 fun (x20 : Int) =>
  IX b i 1 fun (px23 : Addr) =>
  LD [.int .i64] px23 w1 fun (x24 : Int) =>
  ∀ w2, Ext w1 w2 →
  cond ((x20 : Int) != x24) (
  Q false w2) (
  I4 (IntKind.i64.wrap (i + 1)) w2 ∧ m4 (IntKind.i64.wrap (i + 1)) w2 < m4 i w1)) (
  Q true w1))

theorem C_l_eqIntS {Q : Bool → World → Prop} {a : Sl} {b : Sl} {w : World} (h : V_l_eqIntS Q a b w) : Calls Tryz.prog F.l_eqIntS #[a.v, b.v] w (Ret [.at .bool] Q) :=
  mkC (hint := hint) (ann := annOf [(4, ⟨[(5, .int .i64)], [4, 11, 12, 13, 14, 15, 16, 17, 18, 19, 20, 21, 22, 23, 24, 25]⟩)]) (args := [a.v, b.v]) (rs := [.at .bool]) Tryz.func33 (by kernel_rfl) (by kernel_rfl) h

def V_i_PullEdgeStep (Q : Sl → Bool → World → Prop) (p_0 : Int) (p_1 : Int) (p_2 : Sl) (p_3 : Sl) (n_0 : Sl) (n_1 : Sl) (n_2 : Sl) (l : Sl) (w : World) : Prop :=
  NEW T.t_i_Problem #[.int .i64 p_0, .int .i64 p_1, p_2.v, p_3.v] w fun (p_p : Addr) w1 =>
  NEW T.t_i_Network #[n_0.v, n_1.v, n_2.v] w1 fun (p_n : Addr) w2 =>
  LD [.int .i64, .int .i64, .sl, .sl] p_p w2 fun (x12_0 : Int) (x12_1 : Int) (x12_2 : Sl) (x12_3 : Sl) =>
  Calls Tryz.prog F.i_EdgeStep #[.agg #[.int .i64 x12_0, .int .i64 x12_1, x12_2.v, x12_3.v]] w2 (Ret [.agg [.int .i64, .int .i64, .sl, .sl], .at .sl, .at .bool] fun (x13_0_0 : Int) (x13_0_1 : Int) (x13_0_2 : Sl) (x13_0_3 : Sl) (x13_1 : Sl) (x13_2 : Bool) w3 =>
  NEW T.t_i_Problem #[.int .i64 0, .int .i64 0, .slice none 0 0, .slice none 0 0] w3 fun (p_q : Addr) w4 =>
  ST p_q 0 [.int .i64 x13_0_0, .int .i64 x13_0_1, x13_0_2.v, x13_0_3.v] w4 fun w5 =>
  cond (!x13_2) (
  Q (⟨none, 0, 0⟩) false w5) (
  LD [.sl, .sl, .sl] p_n w5 fun (x20_0 : Sl) (x20_1 : Sl) (x20_2 : Sl) =>
  Calls Tryz.prog F.i_IsNetwork #[.agg #[x20_0.v, x20_1.v, x20_2.v]] w5 (Ret [.at .bool] fun (x21 : Bool) w6 =>
  cond (!x21) (
  Q (⟨none, 0, 0⟩) false w6) (
  LD [.int .i64, .int .i64, .sl, .sl] p_q w6 fun (x25_0 : Int) (x25_1 : Int) (x25_2 : Sl) (x25_3 : Sl) =>
  LD [.sl, .sl, .sl] p_n w6 fun (x26_0 : Sl) (x26_1 : Sl) (x26_2 : Sl) =>
  Calls Tryz.prog F.i_isSolution #[.agg #[.int .i64 x25_0, .int .i64 x25_1, x25_2.v, x25_3.v], .agg #[x26_0.v, x26_1.v, x26_2.v], l.v] w6 (Ret [.at .bool] fun (x28 : Bool) w7 =>
  cond (!x28) (
  Q (⟨none, 0, 0⟩) false w7) (
  LD [.int .i64, .int .i64, .sl, .sl] p_p w7 fun (x31_0_2 : Int) (x31_1_2 : Int) (x31_2_2 : Sl) (x31_3_2 : Sl) =>
  Calls Tryz.prog F.i_pullEdgeStep #[.agg #[.int .i64 x31_0_2, .int .i64 x31_1_2, x31_2_2.v, x31_3_2.v], x13_1.v, l.v] w7 (Ret [.at .sl, .at .bool] fun (x34_0_2 : Sl) (x34_1_2 : Bool) w9 =>
  Q x34_0_2 x34_1_2 w9)))))))

theorem C_i_PullEdgeStep {Q : Sl → Bool → World → Prop} {p_0 : Int} {p_1 : Int} {p_2 : Sl} {p_3 : Sl} {n_0 : Sl} {n_1 : Sl} {n_2 : Sl} {l : Sl} {w : World} (h : V_i_PullEdgeStep Q p_0 p_1 p_2 p_3 n_0 n_1 n_2 l w) : Calls Tryz.prog F.i_PullEdgeStep #[.agg #[.int .i64 p_0, .int .i64 p_1, p_2.v, p_3.v], .agg #[n_0.v, n_1.v, n_2.v], l.v] w (Ret [.at .sl, .at .bool] Q) :=
  mkC (hint := hint) (ann := annOf []) (args := [.agg #[.int .i64 p_0, .int .i64 p_1, p_2.v, p_3.v], .agg #[n_0.v, n_1.v, n_2.v], l.v]) (rs := [.at .sl, .at .bool]) Tryz.func35 (by kernel_rfl) (by kernel_rfl) h

def V_s_PullNodeStep (Q : Sl → Bool → World → Prop) (p_0 : Int) (p_1 : Int) (p_2 : Sl) (p_3 : Sl) (n_0 : Sl) (n_1 : Sl) (n_2 : Sl) (l : Sl) (w : World) : Prop :=
  NEW T.t_i_Problem #[.int .i64 p_0, .int .i64 p_1, p_2.v, p_3.v] w fun (p_p : Addr) w1 =>
  NEW T.t_i_Network #[n_0.v, n_1.v, n_2.v] w1 fun (p_n : Addr) w2 =>
  LD [.int .i64, .int .i64, .sl, .sl] p_p w2 fun (x12_0 : Int) (x12_1 : Int) (x12_2 : Sl) (x12_3 : Sl) =>
  Calls Tryz.prog F.s_NodeStep #[.agg #[.int .i64 x12_0, .int .i64 x12_1, x12_2.v, x12_3.v]] w2 (Ret [.agg [.int .i64, .int .i64, .sl, .sl], .at .sl, .at .bool] fun (x13_0_0 : Int) (x13_0_1 : Int) (x13_0_2 : Sl) (x13_0_3 : Sl) (x13_1 : Sl) (x13_2 : Bool) w3 =>
  NEW T.t_i_Problem #[.int .i64 0, .int .i64 0, .slice none 0 0, .slice none 0 0] w3 fun (p_q : Addr) w4 =>
  ST p_q 0 [.int .i64 x13_0_0, .int .i64 x13_0_1, x13_0_2.v, x13_0_3.v] w4 fun w5 =>
  cond (!x13_2) (
  Q (⟨none, 0, 0⟩) false w5) (
  LD [.int .i64, .int .i64, .sl, .sl] p_q w5 fun (x20_0 : Int) (x20_1 : Int) (x20_2 : Sl) (x20_3 : Sl) =>
  LD [.sl, .sl, .sl] p_n w5 fun (x21_0 : Sl) (x21_1 : Sl) (x21_2 : Sl) =>
  Calls Tryz.prog F.s_prAsked #[.agg #[.int .i64 x20_0, .int .i64 x20_1, x20_2.v, x20_3.v], .agg #[x21_0.v, x21_1.v, x21_2.v], l.v] w5 (Ret [.at .bool] fun (x23 : Bool) w6 =>
  cond (!x23) (
  Q (⟨none, 0, 0⟩) false w6) (
  LD [.int .i64, .int .i64, .sl, .sl] p_q w6 fun (x27_0 : Int) (x27_1 : Int) (x27_2 : Sl) (x27_3 : Sl) =>
  LD [.sl, .sl, .sl] p_n w6 fun (x28_0 : Sl) (x28_1 : Sl) (x28_2 : Sl) =>
  Calls Tryz.prog F.s_prIs #[.agg #[.int .i64 x27_0, .int .i64 x27_1, x27_2.v, x27_3.v], .agg #[x28_0.v, x28_1.v, x28_2.v], l.v] w6 (Ret [.at .bool] fun (x30 : Bool) w7 =>
  cond (!x30) (
  Q (⟨none, 0, 0⟩) false w7) (
  LD [.sl, .sl, .sl] p_n w7 fun (x34_0 : Sl) (x34_1 : Sl) (x34_2 : Sl) =>
  Calls Tryz.prog F.s_elStubless #[.agg #[x34_0.v, x34_1.v, x34_2.v]] w7 (Ret [.at .bool] fun (x35 : Bool) w8 =>
  cond (!x35) (
  Q (⟨none, 0, 0⟩) false w8) (
  LD [.int .i64, .int .i64, .sl, .sl] p_p w8 fun (x38_0_2 : Int) (x38_1_2 : Int) (x38_2_2 : Sl) (x38_3_2 : Sl) =>
  LD [.sl, .sl, .sl] p_n w8 fun (x40_0_2 : Sl) (x40_1_2 : Sl) (x40_2_2 : Sl) =>
  Calls Tryz.prog F.s_elPullNode #[.agg #[.int .i64 x38_0_2, .int .i64 x38_1_2, x38_2_2.v, x38_3_2.v], x13_1.v, .agg #[x40_0_2.v, x40_1_2.v, x40_2_2.v], l.v] w8 (Ret [.at .sl] fun (x42_2 : Sl) w10 =>
  Q x42_2 true w10)))))))))

theorem C_s_PullNodeStep {Q : Sl → Bool → World → Prop} {p_0 : Int} {p_1 : Int} {p_2 : Sl} {p_3 : Sl} {n_0 : Sl} {n_1 : Sl} {n_2 : Sl} {l : Sl} {w : World} (h : V_s_PullNodeStep Q p_0 p_1 p_2 p_3 n_0 n_1 n_2 l w) : Calls Tryz.prog F.s_PullNodeStep #[.agg #[.int .i64 p_0, .int .i64 p_1, p_2.v, p_3.v], .agg #[n_0.v, n_1.v, n_2.v], l.v] w (Ret [.at .sl, .at .bool] Q) :=
  mkC (hint := hint) (ann := annOf []) (args := [.agg #[.int .i64 p_0, .int .i64 p_1, p_2.v, p_3.v], .agg #[n_0.v, n_1.v, n_2.v], l.v]) (rs := [.at .sl, .at .bool]) Tryz.func36 (by kernel_rfl) (by kernel_rfl) h

def V_i_PullNodeStep_k1 (x2 : Sl) (Q : Sl → Bool → World → Prop) (px3 : Addr) (px4 : Addr) (x18_1 : Sl) (w10 : World) : Prop :=
  Calls Tryz.prog F.i_copyLists #[x2.v] w10 (Ret [.at .sl] fun (x42 : Sl) w11 =>
  LD [.sl, .sl, .sl] px4 w11 fun (x43_0 : Sl) (x43_1 : Sl) (x43_2 : Sl) =>
  Calls Tryz.prog F.i_Network_edges #[.agg #[x43_0.v, x43_1.v, x43_2.v]] w11 (Ret [.at .sl] fun (x44 : Sl) w12 =>
  ∃ (I6 : Int → World → Prop) (m6 : Int → World → Nat), I6 0 w12 ∧ ∀ (x46 : Int) w13, I6 x46 w13 → ∀ _ _ _ _ _ _ _ _ _ _ _ _ _ _ _ _ _ _ _ _ _ _ _ _ _ _ _ _ _ _ _ _ _ _ _ _ _ _ _ _ _ _ _ _ _ _ _ _ _ _ _ _ _ _ _ _ _ _ _ : Value,
  cond (decide ((x46 : Int) < x44.len)) (
  IX x44 x46 4 fun (px48 : Addr) =>
  LD [.int .i64, .int .i64, .int .i64, .int .i64] px48 w13 fun (x49_0 : Int) (x49_1 : Int) (x49_2 : Int) (x49_3 : Int) =>
  NEW T.t_i_edge #[.int .i64 0, .int .i64 0, .int .i64 0, .int .i64 0] w13 fun (px13 : Addr) w14 =>
  ST px13 0 [.int .i64 x49_0, .int .i64 x49_1, .int .i64 x49_2, .int .i64 x49_3] w14 fun w15 =>
  ∀ w16, Ext w15 w16 → w16.heap = w15.heap →
  LD [.int .i64, .int .i64, .sl, .sl] px3 w16 fun (x51_0 : Int) (x51_1 : Int) (x51_2 : Sl) (x51_3 : Sl) =>
  LD [.int .i64] (px13.add 0) w16 fun (x55 : Int) =>
  IX x2 x55 1 fun (px56 : Addr) =>
  LD [.sl] px56 w16 fun (x57 : Sl) =>
  LD [.int .i64] (px13.add 1) w16 fun (x59 : Int) =>
  IX x57 x59 1 fun (px60 : Addr) =>
  LD [.int .i64] px60 w16 fun (x61 : Int) =>
  LD [.int .i64] (px13.add 2) w16 fun (x64 : Int) =>
  IX x2 x64 1 fun (px65 : Addr) =>
  LD [.sl] px65 w16 fun (x66 : Sl) =>
  Ext w16 w16 ∧ (
  LD [.int .i64] (px13.add 3) w16 fun (x68 : Int) =>
  Ext w16 w16 ∧ (
  IX x66 x68 1 fun (px69 : Addr) =>
  Ext w16 w16 ∧ (
  LD [.int .i64] px69 w16 fun (x70 : Int) =>
  Ext w16 w16 ∧ (
  RUN Tryz.prog (.at .sl) (Instr.buildSlice T.t_sl_int 2 #[(0, .int .i64 x61), (1, .int .i64 x70)]) w16 fun (x71 : Sl) w17 =>
  Ext w16 w17 ∧ (
  Calls Tryz.prog F.i_listsOf #[x18_1.v, x71.v] w17 (Ret [.at .sl] fun (x72 : Sl) w18 =>
  Ext w16 w18 ∧ (
  Calls Tryz.prog F.i_Problem_edgeChoice #[.agg #[.int .i64 x51_0, .int .i64 x51_1, x51_2.v, x51_3.v], x72.v] w18 (Ret [.at .sl, .at .bool] fun (x73_0 : Sl) (x73_1 : Bool) w19 =>
  Ext w16 w19 ∧ (
  Ext w16 w19 ∧ (
  Ext w16 w19 ∧ (
  cond (!x73_1) (
  Q (⟨none, 0, 0⟩) false w19) (
  ∀ w20, Ext w19 w20 → w20.heap = w19.heap → ∃ (D20 : Nat → Prop),
  ¬ D20 (px13.add 0).block ∧ (
  LD [.int .i64] (px13.add 0) w20 fun (x80 : Int) =>
  IX x42 x80 1 fun (px81 : Addr) =>
  ¬ D20 px81.block ∧ (
  LD [.sl] px81 w20 fun (x82 : Sl) =>
  ¬ D20 (px13.add 1).block ∧ (
  LD [.int .i64] (px13.add 1) w20 fun (x84 : Int) =>
  ¬ D20 (px13.add 2).block ∧ (
  LD [.int .i64] (px13.add 2) w20 fun (x87 : Int) =>
  IX x42 x87 1 fun (px88 : Addr) =>
  ¬ D20 px88.block ∧ (
  LD [.sl] px88 w20 fun (x89 : Sl) =>
  ¬ D20 (px13.add 3).block ∧ (
  LD [.int .i64] (px13.add 3) w20 fun (x91 : Int) =>
  IX x73_0 0 1 fun (px93 : Addr) =>
  ¬ D20 px93.block ∧ (
  LD [.int .i64] px93 w20 fun (x94 : Int) =>
  Chg w20 w20 D20 ∧ (
  IX x73_0 1 1 fun (px96 : Addr) =>
  Chg w20 w20 D20 ∧ (
  LD [.int .i64] px96 w20 fun (x97 : Int) =>
  Chg w20 w20 D20 ∧ (
  IX x82 x84 1 fun (px98 : Addr) =>
  Chg w20 w20 D20 ∧ (
  ST px98 0 [.int .i64 x94] w20 fun w21 =>
  Chg w20 w21 D20 ∧ (
  IX x89 x91 1 fun (px99 : Addr) =>
  ST px99 0 [.int .i64 x97] w21 fun w22 =>
  I6 (IntKind.i64.wrap (x46 + 1)) w22 ∧ m6 (IntKind.i64.wrap (x46 + 1)) w22 < m6 x46 w13))))))))))))))))))))))))) (
  Q x42 true w13)))

def V_i_PullNodeStep (Q : Sl → Bool → World → Prop) (x0_0 : Int) (x0_1 : Int) (x0_2 : Sl) (x0_3 : Sl) (x1_0 : Sl) (x1_1 : Sl) (x1_2 : Sl) (x2 : Sl) (w : World) : Prop :=
  NEW T.t_i_Problem #[.int .i64 x0_0, .int .i64 x0_1, x0_2.v, x0_3.v] w fun (px3 : Addr) w1 =>
  NEW T.t_i_Network #[x1_0.v, x1_1.v, x1_2.v] w1 fun (px4 : Addr) w2 =>
  LD [.int .i64, .int .i64, .sl, .sl] px3 w2 fun (x17_0 : Int) (x17_1 : Int) (x17_2 : Sl) (x17_3 : Sl) =>
  Calls Tryz.prog F.i_NodeStep #[.agg #[.int .i64 x17_0, .int .i64 x17_1, x17_2.v, x17_3.v]] w2 (Ret [.agg [.int .i64, .int .i64, .sl, .sl], .at .sl, .at .bool] fun (x18_0_0 : Int) (x18_0_1 : Int) (x18_0_2 : Sl) (x18_0_3 : Sl) (x18_1 : Sl) (x18_2 : Bool) w3 =>
  NEW T.t_i_Problem #[.int .i64 0, .int .i64 0, .slice none 0 0, .slice none 0 0] w3 fun (px8 : Addr) w4 =>
  ST px8 0 [.int .i64 x18_0_0, .int .i64 x18_0_1, x18_0_2.v, x18_0_3.v] w4 fun w5 =>
  cond (!x18_2) (
  Q (⟨none, 0, 0⟩) false w5) (
  LD [.sl, .sl, .sl] px4 w5 fun (x25_0 : Sl) (x25_1 : Sl) (x25_2 : Sl) =>
  Calls Tryz.prog F.i_IsNetwork #[.agg #[x25_0.v, x25_1.v, x25_2.v]] w5 (Ret [.at .bool] fun (x26 : Bool) w6 =>
  cond (!x26) (
  Q (⟨none, 0, 0⟩) false w6) (
  LD [.sl, .sl, .sl] px4 w6 fun (x30_0 : Sl) (x30_1 : Sl) (x30_2 : Sl) =>
  Calls Tryz.prog F.i_Network_edges #[.agg #[x30_0.v, x30_1.v, x30_2.v]] w6 (Ret [.at .sl] fun (x31 : Sl) w7 =>
  Calls Tryz.prog F.slices_ContainsFunc_sl_i_edge_i_edge #[x31.v, .func (.func F.i_edge_stub) #[] #[]] w7 (Ret [.at .bool] fun (x32 : Bool) w8 =>
  cond x32 (
  Q (⟨none, 0, 0⟩) false w8) (
  LD [.int .i64, .int .i64, .sl, .sl] px8 w8 fun (x35_0 : Int) (x35_1 : Int) (x35_2 : Sl) (x35_3 : Sl) =>
  LD [.sl, .sl, .sl] px4 w8 fun (x36_0 : Sl) (x36_1 : Sl) (x36_2 : Sl) =>
  Calls Tryz.prog F.i_isSolution #[.agg #[.int .i64 x35_0, .int .i64 x35_1, x35_2.v, x35_3.v], .agg #[x36_0.v, x36_1.v, x36_2.v], x2.v] w8 (Ret [.at .bool] fun (x38 : Bool) w9 =>
  cond (!x38) (
  Q (⟨none, 0, 0⟩) false w9) (
  V_i_PullNodeStep_k1 x2 Q px3 px4 x18_1 w9)))))))))

theorem C_i_PullNodeStep {Q : Sl → Bool → World → Prop} {x0_0 : Int} {x0_1 : Int} {x0_2 : Sl} {x0_3 : Sl} {x1_0 : Sl} {x1_1 : Sl} {x1_2 : Sl} {x2 : Sl} {w : World} (h : V_i_PullNodeStep Q x0_0 x0_1 x0_2 x0_3 x1_0 x1_1 x1_2 x2 w) : Calls Tryz.prog F.i_PullNodeStep #[.agg #[.int .i64 x0_0, .int .i64 x0_1, x0_2.v, x0_3.v], .agg #[x1_0.v, x1_1.v, x1_2.v], x2.v] w (Ret [.at .sl, .at .bool] Q) :=
  mkC (hint := hint) (ann := annOf [(6, ⟨[(46, .int .i64)], [6, 7, 13, 14, 15, 47, 48, 49, 50, 51, 52, 53, 54, 55, 56, 57, 58, 59, 60, 61, 62, 63, 64, 65, 66, 67, 68, 69, 70, 71, 72, 73, 74, 75, 76, 77, 78, 79, 80, 81, 82, 83, 84, 85, 86, 87, 88, 89, 90, 91, 92, 93, 94, 95, 96, 97, 98, 99, 100]⟩)]) (args := [.agg #[.int .i64 x0_0, .int .i64 x0_1, x0_2.v, x0_3.v], .agg #[x1_0.v, x1_1.v, x1_2.v], x2.v]) (rs := [.at .sl, .at .bool]) Tryz.func37 (by kernel_rfl) (by kernel_rfl) h

def V_s_PullRound (Q : Sl → Bool → World → Prop) (p_0 : Int) (p_1 : Int) (p_2 : Sl) (p_3 : Sl) (n_0 : Sl) (n_1 : Sl) (n_2 : Sl) (l : Sl) (w : World) : Prop :=
  NEW T.t_i_Problem #[.int .i64 p_0, .int .i64 p_1, p_2.v, p_3.v] w fun (p_p : Addr) w1 =>
  NEW T.t_i_Network #[n_0.v, n_1.v, n_2.v] w1 fun (p_n : Addr) w2 =>
  LD [.int .i64, .int .i64, .sl, .sl] p_p w2 fun (x14_0 : Int) (x14_1 : Int) (x14_2 : Sl) (x14_3 : Sl) =>
  Calls Tryz.prog F.s_EdgeStep #[.agg #[.int .i64 x14_0, .int .i64 x14_1, x14_2.v, x14_3.v]] w2 (Ret [.agg [.int .i64, .int .i64, .sl, .sl], .at .sl, .at .bool] fun (x15_0_0 : Int) (x15_0_1 : Int) (x15_0_2 : Sl) (x15_0_3 : Sl) (x15_1 : Sl) (x15_2 : Bool) w3 =>
  NEW T.t_i_Problem #[.int .i64 0, .int .i64 0, .slice none 0 0, .slice none 0 0] w3 fun (p_q : Addr) w4 =>
  ST p_q 0 [.int .i64 x15_0_0, .int .i64 x15_0_1, x15_0_2.v, x15_0_3.v] w4 fun w5 =>
  cond (!x15_2) (
  Q (⟨none, 0, 0⟩) false w5) (
  LD [.int .i64, .int .i64, .sl, .sl] p_q w5 fun (x22_0 : Int) (x22_1 : Int) (x22_2 : Sl) (x22_3 : Sl) =>
  LD [.sl, .sl, .sl] p_n w5 fun (x23_0 : Sl) (x23_1 : Sl) (x23_2 : Sl) =>
  Calls Tryz.prog F.s_PullNodeStep #[.agg #[.int .i64 x22_0, .int .i64 x22_1, x22_2.v, x22_3.v], .agg #[x23_0.v, x23_1.v, x23_2.v], l.v] w5 (Ret [.at .sl, .at .bool] fun (x25_0 : Sl) (x25_1 : Bool) w6 =>
  cond (!x25_1) (
  Q (⟨none, 0, 0⟩) false w6) (
  LD [.int .i64, .int .i64, .sl, .sl] p_p w6 fun (x30_0 : Int) (x30_1 : Int) (x30_2 : Sl) (x30_3 : Sl) =>
  Calls Tryz.prog F.s_elPullEdge #[.agg #[.int .i64 x30_0, .int .i64 x30_1, x30_2.v, x30_3.v], x15_1.v, x25_0.v] w6 (Ret [.at .sl] fun (x33 : Sl) w7 =>
  Q x33 true w7)))))

theorem C_s_PullRound {Q : Sl → Bool → World → Prop} {p_0 : Int} {p_1 : Int} {p_2 : Sl} {p_3 : Sl} {n_0 : Sl} {n_1 : Sl} {n_2 : Sl} {l : Sl} {w : World} (h : V_s_PullRound Q p_0 p_1 p_2 p_3 n_0 n_1 n_2 l w) : Calls Tryz.prog F.s_PullRound #[.agg #[.int .i64 p_0, .int .i64 p_1, p_2.v, p_3.v], .agg #[n_0.v, n_1.v, n_2.v], l.v] w (Ret [.at .sl, .at .bool] Q) :=
  mkC (hint := hint) (ann := annOf []) (args := [.agg #[.int .i64 p_0, .int .i64 p_1, p_2.v, p_3.v], .agg #[n_0.v, n_1.v, n_2.v], l.v]) (rs := [.at .sl, .at .bool]) Tryz.func38 (by kernel_rfl) (by kernel_rfl) h

def V_i_PullRound (Q : Sl → Bool → World → Prop) (p_0 : Int) (p_1 : Int) (p_2 : Sl) (p_3 : Sl) (n_0 : Sl) (n_1 : Sl) (n_2 : Sl) (l : Sl) (w : World) : Prop :=
  NEW T.t_i_Problem #[.int .i64 p_0, .int .i64 p_1, p_2.v, p_3.v] w fun (p_p : Addr) w1 =>
  NEW T.t_i_Network #[n_0.v, n_1.v, n_2.v] w1 fun (p_n : Addr) w2 =>
  LD [.int .i64, .int .i64, .sl, .sl] p_p w2 fun (x13_0 : Int) (x13_1 : Int) (x13_2 : Sl) (x13_3 : Sl) =>
  Calls Tryz.prog F.i_EdgeStep #[.agg #[.int .i64 x13_0, .int .i64 x13_1, x13_2.v, x13_3.v]] w2 (Ret [.agg [.int .i64, .int .i64, .sl, .sl], .at .sl, .at .bool] fun (x14_0_0 : Int) (x14_0_1 : Int) (x14_0_2 : Sl) (x14_0_3 : Sl) (x14_1 : Sl) (x14_2 : Bool) w3 =>
  NEW T.t_i_Problem #[.int .i64 0, .int .i64 0, .slice none 0 0, .slice none 0 0] w3 fun (p_q : Addr) w4 =>
  ST p_q 0 [.int .i64 x14_0_0, .int .i64 x14_0_1, x14_0_2.v, x14_0_3.v] w4 fun w5 =>
  cond (!x14_2) (
  Q (⟨none, 0, 0⟩) false w5) (
  LD [.int .i64, .int .i64, .sl, .sl] p_q w5 fun (x21_0 : Int) (x21_1 : Int) (x21_2 : Sl) (x21_3 : Sl) =>
  LD [.sl, .sl, .sl] p_n w5 fun (x22_0 : Sl) (x22_1 : Sl) (x22_2 : Sl) =>
  Calls Tryz.prog F.i_PullNodeStep #[.agg #[.int .i64 x21_0, .int .i64 x21_1, x21_2.v, x21_3.v], .agg #[x22_0.v, x22_1.v, x22_2.v], l.v] w5 (Ret [.at .sl, .at .bool] fun (x24_0 : Sl) (x24_1 : Bool) w6 =>
  cond (!x24_1) (
  Q (⟨none, 0, 0⟩) false w6) (
  LD [.int .i64, .int .i64, .sl, .sl] p_p w6 fun (x29_0 : Int) (x29_1 : Int) (x29_2 : Sl) (x29_3 : Sl) =>
  LD [.sl, .sl, .sl] p_n w6 fun (x30_0 : Sl) (x30_1 : Sl) (x30_2 : Sl) =>
  Calls Tryz.prog F.i_PullEdgeStep #[.agg #[.int .i64 x29_0, .int .i64 x29_1, x29_2.v, x29_3.v], .agg #[x30_0.v, x30_1.v, x30_2.v], x24_0.v] w6 (Ret [.at .sl, .at .bool] fun (x32_0 : Sl) (x32_1 : Bool) w7 =>
  Q x32_0 x32_1 w7)))))

theorem C_i_PullRound {Q : Sl → Bool → World → Prop} {p_0 : Int} {p_1 : Int} {p_2 : Sl} {p_3 : Sl} {n_0 : Sl} {n_1 : Sl} {n_2 : Sl} {l : Sl} {w : World} (h : V_i_PullRound Q p_0 p_1 p_2 p_3 n_0 n_1 n_2 l w) : Calls Tryz.prog F.i_PullRound #[.agg #[.int .i64 p_0, .int .i64 p_1, p_2.v, p_3.v], .agg #[n_0.v, n_1.v, n_2.v], l.v] w (Ret [.at .sl, .at .bool] Q) :=
  mkC (hint := hint) (ann := annOf []) (args := [.agg #[.int .i64 p_0, .int .i64 p_1, p_2.v, p_3.v], .agg #[n_0.v, n_1.v, n_2.v], l.v]) (rs := [.at .sl, .at .bool]) Tryz.func39 (by kernel_rfl) (by kernel_rfl) h

def V_l_szIntS (Q : Int → World → Prop) (a : Sl) (left : Int) (w : World) : Prop :=
  cond (decide (((IntKind.i64.wrap (left - a.len)) : Int) < 0)) (
  Q (-1) w) (
  Q (IntKind.i64.wrap (left - a.len)) w)

theorem C_l_szIntS {Q : Int → World → Prop} {a : Sl} {left : Int} {w : World} (h : V_l_szIntS Q a left w) : Calls Tryz.prog F.l_szIntS #[a.v, .int .i64 left] w (Ret [.at (.int .i64)] Q) :=
  mkC (hint := hint) (ann := annOf []) (args := [a.v, .int .i64 left]) (rs := [.at (.int .i64)]) Tryz.func53 (by kernel_rfl) (by kernel_rfl) h

def V_l_szEndSS (Q : Int → World → Prop) (a : Sl) (left : Int) (w : World) : Prop :=
  cond (decide (((IntKind.i64.wrap (left - a.len)) : Int) < 0)) (
  Q (-1) w) (
  ∃ (I5 : Int → Int → World → Prop) (m5 : Int → Int → World → Nat), I5 (IntKind.i64.wrap (left - a.len)) 0 w ∧ ∀ (left_2 : Int) (i : Int) w1, I5 left_2 i w1 → ∀ _ _ _ _ _ _ _ _ _ _ _ _ _ _ _ : Value,
  cond (decide ((i : Int) < a.len)) (
  IX a i 1 fun (px20 : Addr) =>
  LD [.sl] px20 w1 fun (x21 : Sl) =>
  Calls Tryz.prog F.l_szEndS #[x21.v, .int .i64 left_2] w1 (Ret [.at (.int .i64)] fun (x23 : Int) w2 =>
  cond (decide ((x23 : Int) < 0)) (
  Q (-1) w2) (
  I5 x23 (IntKind.i64.wrap (i + 1)) w2 ∧ m5 x23 (IntKind.i64.wrap (i + 1)) w2 < m5 left_2 i w1))) (
  Q left_2 w1))

theorem C_l_szEndSS {Q : Int → World → Prop} {a : Sl} {left : Int} {w : World} (h : V_l_szEndSS Q a left w) : Calls Tryz.prog F.l_szEndSS #[a.v, .int .i64 left] w (Ret [.at (.int .i64)] Q) :=
  mkC (hint := hint) (ann := annOf [(5, ⟨[(1, .int .i64), (5, .int .i64)], [4, 12, 13, 14, 15, 16, 17, 18, 19, 20, 21, 22, 23, 24, 25]⟩)]) (args := [a.v, .int .i64 left]) (rs := [.at (.int .i64)]) Tryz.func54 (by kernel_rfl) (by kernel_rfl) h

def V_s_prAsked (Q : Bool → World → Prop) (p_0 : Int) (p_1 : Int) (p_2 : Sl) (p_3 : Sl) (n_0 : Sl) (n_1 : Sl) (n_2 : Sl) (l : Sl) (w : World) : Prop :=
  NEW T.t_i_Problem #[.int .i64 p_0, .int .i64 p_1, p_2.v, p_3.v] w fun (p_p : Addr) w1 =>
  NEW T.t_i_Network #[n_0.v, n_1.v, n_2.v] w1 fun (p_n : Addr) w2 =>
  LD [.int .i64, .int .i64, .sl, .sl] p_p w2 fun (x7_0 : Int) (x7_1 : Int) (x7_2 : Sl) (x7_3 : Sl) =>
  Calls Tryz.prog F.s_prGood #[.agg #[.int .i64 x7_0, .int .i64 x7_1, x7_2.v, x7_3.v]] w2 (Ret [.at .bool] fun (x8 : Bool) w3 =>
  cond x8 (
  LD [.sl, .sl, .sl] p_n w3 fun (x10_0 : Sl) (x10_1 : Sl) (x10_2 : Sl) =>
  Calls Tryz.prog F.s_neGood #[.agg #[x10_0.v, x10_1.v, x10_2.v]] w3 (Ret [.at .bool] fun (x11 : Bool) w4 =>
  cond x11 (
  LD [.int .i64, .int .i64, .sl, .sl] p_p w4 fun (x14_0 : Int) (x14_1 : Int) (x14_2 : Sl) (x14_3 : Sl) =>
  LD [.sl, .sl, .sl] p_n w4 fun (x15_0 : Sl) (x15_1 : Sl) (x15_2 : Sl) =>
  Calls Tryz.prog F.s_prShape #[.agg #[.int .i64 x14_0, .int .i64 x14_1, x14_2.v, x14_3.v], .agg #[x15_0.v, x15_1.v, x15_2.v], l.v] w4 (Ret [.at .bool] fun (x17 : Bool) w5 =>
  Q x17 w5)) (
  Q false w4))) (
  Q false w3))

theorem C_s_prAsked {Q : Bool → World → Prop} {p_0 : Int} {p_1 : Int} {p_2 : Sl} {p_3 : Sl} {n_0 : Sl} {n_1 : Sl} {n_2 : Sl} {l : Sl} {w : World} (h : V_s_prAsked Q p_0 p_1 p_2 p_3 n_0 n_1 n_2 l w) : Calls Tryz.prog F.s_prAsked #[.agg #[.int .i64 p_0, .int .i64 p_1, p_2.v, p_3.v], .agg #[n_0.v, n_1.v, n_2.v], l.v] w (Ret [.at .bool] Q) :=
  mkC (hint := hint) (ann := annOf []) (args := [.agg #[.int .i64 p_0, .int .i64 p_1, p_2.v, p_3.v], .agg #[n_0.v, n_1.v, n_2.v], l.v]) (rs := [.at .bool]) Tryz.func57 (by kernel_rfl) (by kernel_rfl) h

def V_s_prIs (Q : Bool → World → Prop) (p_0 : Int) (p_1 : Int) (p_2 : Sl) (p_3 : Sl) (n_0 : Sl) (n_1 : Sl) (n_2 : Sl) (l : Sl) (w : World) : Prop :=
  NEW T.t_i_Problem #[.int .i64 p_0, .int .i64 p_1, p_2.v, p_3.v] w fun (p_p : Addr) w1 =>
  NEW T.t_i_Network #[n_0.v, n_1.v, n_2.v] w1 fun (p_n : Addr) w2 =>
  LD [.int .i64, .int .i64, .sl, .sl] p_p w2 fun (x10_0 : Int) (x10_1 : Int) (x10_2 : Sl) (x10_3 : Sl) =>
  LD [.sl, .sl, .sl] p_n w2 fun (x11_0 : Sl) (x11_1 : Sl) (x11_2 : Sl) =>
  Calls Tryz.prog F.s_prFault #[.agg #[.int .i64 x10_0, .int .i64 x10_1, x10_2.v, x10_3.v], .agg #[x11_0.v, x11_1.v, x11_2.v], l.v] w2 (Ret [.at (.int .i64), .at (.int .i64)] fun (x13_0 : Int) (x13_1 : Int) w3 =>
  Q (decide ((x13_0 : Int) < 0)) w3)

theorem C_s_prIs {Q : Bool → World → Prop} {p_0 : Int} {p_1 : Int} {p_2 : Sl} {p_3 : Sl} {n_0 : Sl} {n_1 : Sl} {n_2 : Sl} {l : Sl} {w : World} (h : V_s_prIs Q p_0 p_1 p_2 p_3 n_0 n_1 n_2 l w) : Calls Tryz.prog F.s_prIs #[.agg #[.int .i64 p_0, .int .i64 p_1, p_2.v, p_3.v], .agg #[n_0.v, n_1.v, n_2.v], l.v] w (Ret [.at .bool] Q) :=
  mkC (hint := hint) (ann := annOf []) (args := [.agg #[.int .i64 p_0, .int .i64 p_1, p_2.v, p_3.v], .agg #[n_0.v, n_1.v, n_2.v], l.v]) (rs := [.at .bool]) Tryz.func58 (by kernel_rfl) (by kernel_rfl) h

end Go.Proofs.YtlmiookpmneicaaGreat
end

section
/- What each function's code computes to. Printed by a program. -/
namespace Go.Proofs.YtlmiookpmneicaaGreat
open Go.GX Go.RowKit
set_option linter.unusedVariables false
set_option maxRecDepth 100000

def V_s_l1All (Q : Bool → World → Prop) (l : Sl) (lo : Int) (hi : Int) (w : World) : Prop :=
  ∃ (I2 : Int → World → Prop) (m2 : Int → World → Nat), I2 0 w ∧ ∀ (x11 : Int) w1, I2 x11 w1 → ∀ _ _ _ _ _ _ _ _ _ _ _ : Value,
  cond (decide ((x11 : Int) < l.len)) (
  IX l x11 1 fun (px13 : Addr) =>
  LD [.int .i64] px13 w1 fun (x14 : Int) =>
  Calls Tryz.prog F.s_l1In #[.int .i64 x14, .int .i64 lo, .int .i64 hi] w1 (Ret [.at .bool] fun (x18 : Bool) w2 =>
  cond (!x18) (
  Q false w2) (
  I2 (IntKind.i64.wrap (x11 + 1)) w2 ∧ m2 (IntKind.i64.wrap (x11 + 1)) w2 < m2 x11 w1))) (
  Q true w1)

theorem C_s_l1All {Q : Bool → World → Prop} {l : Sl} {lo : Int} {hi : Int} {w : World} (h : V_s_l1All Q l lo hi w) : Calls Tryz.prog F.s_l1All #[l.v, .int .i64 lo, .int .i64 hi] w (Ret [.at .bool] Q) :=
  mkC (hint := hint) (ann := annOf [(2, ⟨[(11, .int .i64)], [6, 8, 12, 13, 14, 15, 16, 17, 18, 19, 20]⟩)]) (args := [l.v, .int .i64 lo, .int .i64 hi]) (rs := [.at .bool]) Tryz.func59 (by kernel_rfl) (by kernel_rfl) h

def V_l_toEndSS (Q : Sl → World → Prop) (a : Sl) (w : World) : Prop :=
  RUN Tryz.prog (.at .sl) (Instr.makeSlice T.t_sl_sl_i_End (.int .i64 a.len) (.int .i64 a.len)) w fun (x7 : Sl) w1 =>
  ∃ (I3 : Int → World → Prop) (m3 : Int → World → Nat), I3 0 w1 ∧ ∀ (i : Int) w2, I3 i w2 → ∀ _ _ _ _ _ _ _ _ _ _ _ _ _ _ : Value,
  cond (decide ((i : Int) < a.len)) (
  IX a i 1 fun (px18 : Addr) =>
  LD [.sl] px18 w2 fun (x19 : Sl) =>
  Calls Tryz.prog F.l_toEndS #[x19.v] w2 (Ret [.at .sl] fun (x20 : Sl) w3 =>
  IX x7 i 1 fun (px21 : Addr) =>
  ST px21 0 [x20.v] w3 fun w4 =>
  I3 (IntKind.i64.wrap (i + 1)) w4 ∧ m3 (IntKind.i64.wrap (i + 1)) w4 < m3 i w2)) (
  Q x7 w2)

theorem C_l_toEndSS {Q : Sl → World → Prop} {a : Sl} {w : World} (h : V_l_toEndSS Q a w) : Calls Tryz.prog F.l_toEndSS #[a.v] w (Ret [.at .sl] Q) :=
  mkC (hint := hint) (ann := annOf [(3, ⟨[(4, .int .i64)], [8, 9, 10, 11, 12, 13, 14, 15, 16, 17, 18, 19, 20, 21]⟩)]) (args := [a.v]) (rs := [.at .sl]) Tryz.func62 (by kernel_rfl) (by kernel_rfl) h

def V_i_IsNetwork_k1 (Q : Bool → World → Prop) (px1 : Addr) (w5 : World) : Prop :=
  LD [.sl] (px1.add 0) w5 fun (x31 : Sl) =>
  ∃ (I4 : Int → World → Prop) (m4 : Int → World → Nat), I4 0 w5 ∧ ∀ (x33 : Int) w6, I4 x33 w6 → ∀ _ _ _ _ _ _ _ _ _ _ _ _ _ _ _ _ _ _ _ _ _ _ _ _ _ _ _ _ _ _ _ _ _ _ _ _ _ _ _ _ _ _ _ _ : Value,
  cond (decide ((x33 : Int) < x31.len)) (
  IX x31 x33 1 fun (px36 : Addr) =>
  LD [.sl] px36 w6 fun (x37 : Sl) =>
  cond (decide ((x37.len : Int) > 6)) (
  Q false w6) (
  ∃ (I9 : Int → World → Prop) (m9 : Int → World → Nat), I9 0 w6 ∧ ∀ (x43 : Int) w7, I9 x43 w7 → ∀ _ _ _ _ _ _ _ _ _ _ _ _ _ _ _ _ _ _ _ _ _ _ _ _ _ _ _ _ _ _ _ : Value,
  cond (decide ((x43 : Int) < x37.len)) (
  IX x37 x43 2 fun (px46 : Addr) =>
  LD [.int .i64, .int .i64] px46 w7 fun (x47_0 : Int) (x47_1 : Int) =>
  NEW T.t_i_End #[.int .i64 0, .int .i64 0] w7 fun (px6 : Addr) w8 =>
  ST px6 0 [.int .i64 x47_0, .int .i64 x47_1] w8 fun w9 =>
  LD [.sl, .sl, .sl] px1 w9 fun (x48_0 : Sl) (x48_1 : Sl) (x48_2 : Sl) =>
  LD [.int .i64] (px6.add 0) w9 fun (x50 : Int) =>
  LD [.int .i64] (px6.add 1) w9 fun (x52 : Int) =>
  QCALL Tryz.prog F.i_Network_hasPort #[.agg #[x48_0.v, x48_1.v, x48_2.v], .int .i64 x50, .int .i64 x52] w9 [.at .bool] fun (x53 : Bool) =>
  cond (!x53) (
  ∀ w10, Ext w9 w10 →
  Q false w10) (
  LD [.sl] (px1.add 0) w9 fun (x57 : Sl) =>
  LD [.int .i64] (px6.add 0) w9 fun (x59 : Int) =>
  IX x57 x59 1 fun (px60 : Addr) =>
  LD [.sl] px60 w9 fun (x61 : Sl) =>
  LD [.int .i64] (px6.add 1) w9 fun (x63 : Int) =>
  IX x61 x63 2 fun (px64 : Addr) =>
  LD [.int .i64, .int .i64] px64 w9 fun (x65_0 : Int) (x65_1 : Int) =>
  AEQ Tryz.prog (do eqGuard .neq T.t_i_End (.tmp 65) (.tmp 68) (.agg #[.int .i64 x65_0, .int .i64 x65_1]) (.agg #[.int .i64 x33, .int .i64 x43]); binOp .neq T.t_i_End (.agg #[.int .i64 x65_0, .int .i64 x65_1]) (.agg #[.int .i64 x33, .int .i64 x43])) fun (x69 : Bool) =>
  ∀ w11, Ext w9 w11 →
  cond x69 (
  Q false w11) (
  I9 (IntKind.i64.wrap (x43 + 1)) w11 ∧ m9 (IntKind.i64.wrap (x43 + 1)) w11 < m9 x43 w7))) (
  I4 (IntKind.i64.wrap (x33 + 1)) w7 ∧ m4 (IntKind.i64.wrap (x33 + 1)) w7 < m4 x33 w6))) (
  Q true w6)

def V_i_IsNetwork (Q : Bool → World → Prop) (x0_0 : Sl) (x0_1 : Sl) (x0_2 : Sl) (w : World) : Prop :=
  NEW T.t_i_Network #[x0_0.v, x0_1.v, x0_2.v] w fun (px1 : Addr) w1 =>
  LD [.sl] (px1.add 0) w1 fun (x8 : Sl) =>
  Calls Tryz.prog F.i_within #[.int .i64 x8.len, .int .i64 1, .int .i64 40] w1 (Ret [.at .bool] fun (x10 : Bool) w2 =>
  cond (!x10) (
  Q false w2) (
  LD [.sl] (px1.add 1) w2 fun (x14 : Sl) =>
  LD [.sl] (px1.add 0) w2 fun (x16 : Sl) =>
  Calls Tryz.prog F.i_idsOk #[x14.v, .int .i64 x16.len] w2 (Ret [.at .bool] fun (x18 : Bool) w3 =>
  cond (!x18) (
  Q false w3) (
  LD [.sl] (px1.add 2) w3 fun (x23 : Sl) =>
  LD [.sl] (px1.add 0) w3 fun (x25 : Sl) =>
  Calls Tryz.prog F.i_inputsOk #[x23.v, .int .i64 x25.len] w3 (Ret [.at .bool] fun (x27 : Bool) w4 =>
  cond (!x27) (
  Q false w4) (
  V_i_IsNetwork_k1 Q px1 w4))))))

theorem C_i_IsNetwork {Q : Bool → World → Prop} {x0_0 : Sl} {x0_1 : Sl} {x0_2 : Sl} {w : World} (h : V_i_IsNetwork Q x0_0 x0_1 x0_2 w) : Calls Tryz.prog F.i_IsNetwork #[.agg #[x0_0.v, x0_1.v, x0_2.v]] w (Ret [.at .bool] Q) :=
  mkC (hint := hint) (ann := annOf [(4, ⟨[(33, .int .i64)], [2, 3, 4, 5, 6, 34, 35, 36, 37, 38, 39, 40, 41, 42, 43, 44, 45, 46, 47, 48, 49, 50, 51, 52, 53, 54, 55, 56, 57, 58, 59, 60, 61, 62, 63, 64, 65, 66, 67, 68, 69, 70, 71, 72]⟩), (9, ⟨[(43, .int .i64)], [2, 5, 6, 44, 45, 46, 47, 48, 49, 50, 51, 52, 53, 54, 55, 56, 57, 58, 59, 60, 61, 62, 63, 64, 65, 66, 67, 68, 69, 70, 71]⟩)]) (args := [.agg #[x0_0.v, x0_1.v, x0_2.v]]) (rs := [.at .bool]) Tryz.func65 (by kernel_rfl) (by kernel_rfl) h

def V_i_isSolution (Q : Bool → World → Prop) (p_0 : Int) (p_1 : Int) (p_2 : Sl) (p_3 : Sl) (n_0 : Sl) (n_1 : Sl) (n_2 : Sl) (l : Sl) (w : World) : Prop :=
  NEW T.t_i_Problem #[.int .i64 p_0, .int .i64 p_1, p_2.v, p_3.v] w fun (p_p : Addr) w1 =>
  NEW T.t_i_Network #[n_0.v, n_1.v, n_2.v] w1 fun (p_n : Addr) w2 =>
  LD [.int .i64, .int .i64, .sl, .sl] p_p w2 fun (x10_0 : Int) (x10_1 : Int) (x10_2 : Sl) (x10_3 : Sl) =>
  LD [.sl, .sl, .sl] p_n w2 fun (x11_0 : Sl) (x11_1 : Sl) (x11_2 : Sl) =>
  Calls Tryz.prog F.i_isLabeling #[.agg #[.int .i64 x10_0, .int .i64 x10_1, x10_2.v, x10_3.v], .agg #[x11_0.v, x11_1.v, x11_2.v], l.v] w2 (Ret [.at .bool] fun (x13 : Bool) w3 =>
  cond (!x13) (
  Q false w3) (
  LD [.int .i64, .int .i64, .sl, .sl] p_p w3 fun (x16_0 : Int) (x16_1 : Int) (x16_2 : Sl) (x16_3 : Sl) =>
  LD [.sl, .sl, .sl] p_n w3 fun (x17_0 : Sl) (x17_1 : Sl) (x17_2 : Sl) =>
  Calls Tryz.prog F.i_labelFault #[.agg #[.int .i64 x16_0, .int .i64 x16_1, x16_2.v, x16_3.v], .agg #[x17_0.v, x17_1.v, x17_2.v], l.v] w3 (Ret [.at (.int .i64), .at (.int .i64), .at .bool] fun (x19_0 : Int) (x19_1 : Int) (x19_2 : Bool) w4 =>
  Q (!x19_2) w4)))

theorem C_i_isSolution {Q : Bool → World → Prop} {p_0 : Int} {p_1 : Int} {p_2 : Sl} {p_3 : Sl} {n_0 : Sl} {n_1 : Sl} {n_2 : Sl} {l : Sl} {w : World} (h : V_i_isSolution Q p_0 p_1 p_2 p_3 n_0 n_1 n_2 l w) : Calls Tryz.prog F.i_isSolution #[.agg #[.int .i64 p_0, .int .i64 p_1, p_2.v, p_3.v], .agg #[n_0.v, n_1.v, n_2.v], l.v] w (Ret [.at .bool] Q) :=
  mkC (hint := hint) (ann := annOf []) (args := [.agg #[.int .i64 p_0, .int .i64 p_1, p_2.v, p_3.v], .agg #[n_0.v, n_1.v, n_2.v], l.v]) (rs := [.at .bool]) Tryz.func66 (by kernel_rfl) (by kernel_rfl) h

def V_slices_BinarySearchFunc_sl_sl_int_sl_int_sl_int (Q : Int → Bool → World → Prop) (x : Sl) (target : Sl) (cmp : Value) (w : World) : Prop :=
  ∃ (I3 : Int → Int → World → Prop) (m3 : Int → Int → World → Nat), I3 0 x.len w ∧ ∀ (i : Int) (j : Int) w1, I3 i j w1 → ∀ _ _ _ _ _ _ _ _ _ _ _ _ _ _ _ _ _ _ _ _ _ : Value,
  cond (decide ((i : Int) < j)) (
  (0 : Int) ≤ 1 ∧ (
  IX x (IntKind.i64.wrap (shrI .u64 (IntKind.u64.wrap (IntKind.i64.wrap (i + j))) 1)) 1 fun (px27 : Addr) =>
  LD [.sl] px27 w1 fun (x28 : Sl) =>
  CALLV Tryz.prog cmp #[x28.v, target.v] w1 (Ret [.at (.int .i64)] fun (x30 : Int) w2 =>
  cond (decide ((x30 : Int) < 0)) (
  I3 (IntKind.i64.wrap ((IntKind.i64.wrap (shrI .u64 (IntKind.u64.wrap (IntKind.i64.wrap (i + j))) 1)) + 1)) j w2 ∧ m3 (IntKind.i64.wrap ((IntKind.i64.wrap (shrI .u64 (IntKind.u64.wrap (IntKind.i64.wrap (i + j))) 1)) + 1)) j w2 < m3 i j w1) (
  I3 i (IntKind.i64.wrap (shrI .u64 (IntKind.u64.wrap (IntKind.i64.wrap (i + j))) 1)) w2 ∧ m3 i (IntKind.i64.wrap (shrI .u64 (IntKind.u64.wrap (IntKind.i64.wrap (i + j))) 1)) w2 < m3 i j w1)))) (
  cond (decide ((i : Int) < x.len)) (
  IX x i 1 fun (px43 : Addr) =>
  LD [.sl] px43 w1 fun (x44 : Sl) =>
  CALLV Tryz.prog cmp #[x44.v, target.v] w1 (Ret [.at (.int .i64)] fun (x46 : Int) w3 =>
  Q i ((x46 : Int) == 0) w3)) (
  Q i false w1))

theorem C_slices_BinarySearchFunc_sl_sl_int_sl_int_sl_int {Q : Int → Bool → World → Prop} {x : Sl} {target : Sl} {cmp : Value} {w : World} (h : V_slices_BinarySearchFunc_sl_sl_int_sl_int_sl_int Q x target cmp w) : Calls Tryz.prog F.slices_BinarySearchFunc_sl_sl_int_sl_int_sl_int #[x.v, target.v, cmp] w (Ret [.at (.int .i64), .at .bool] Q) :=
  mkC (hint := hint) (ann := annOf [(3, ⟨[(9, .int .i64), (10, .int .i64)], [11, 15, 16, 17, 18, 19, 20, 21, 22, 23, 24, 25, 26, 27, 28, 29, 30, 31, 32, 33, 34]⟩)]) (args := [x.v, target.v, cmp]) (rs := [.at (.int .i64), .at .bool]) Tryz.func70 (by kernel_rfl) (by kernel_rfl) h

def V_slices_Sorted_int (Q : Sl → World → Prop) (seq : Value) (w : World) : Prop :=
  Calls Tryz.prog F.slices_Collect_int #[seq] w (Ret [.at .sl] fun (x5 : Sl) w1 =>
  Calls Tryz.prog F.slices_Sort_sl_int_int #[x5.v] w1 (Ret [] fun w2 =>
  Q x5 w2))

theorem C_slices_Sorted_int {Q : Sl → World → Prop} {seq : Value} {w : World} (h : V_slices_Sorted_int Q seq w) : Calls Tryz.prog F.slices_Sorted_int #[seq] w (Ret [.at .sl] Q) :=
  mkC (hint := hint) (ann := annOf []) (args := [seq]) (rs := [.at .sl]) Tryz.func71 (by kernel_rfl) (by kernel_rfl) h

def V_slices_Values_sl_int_int (Q : Value → World → Prop) (s : Sl) (w : World) : Prop :=
  NEW T.t_sl_int #[s.v] w fun (p_s : Addr) w1 =>
  Q (.func (.func F.slices_Values_sl_int_int_1) #[] #[.pointer (some p_s)]) w1

theorem C_slices_Values_sl_int_int {Q : Value → World → Prop} {s : Sl} {w : World} (h : V_slices_Values_sl_int_int Q s w) : Calls Tryz.prog F.slices_Values_sl_int_int #[s.v] w (Ret [.at .val] Q) :=
  mkC (hint := hint) (ann := annOf []) (args := [s.v]) (rs := [.at .val]) Tryz.func72 (by kernel_rfl) (by kernel_rfl) h

def V_slices_Compare_sl_int_int (Q : Int → World → Prop) (s1 : Sl) (s2 : Sl) (w : World) : Prop :=
  ∃ (I2 : Int → World → Prop) (m2 : Int → World → Nat), I2 0 w ∧ ∀ (x11 : Int) w1, I2 x11 w1 → ∀ _ _ _ _ _ _ _ _ _ _ _ _ _ _ _ _ _ _ _ _ _ _ _ _ : Value,
  cond (decide ((x11 : Int) < s1.len)) (
  IX s1 x11 1 fun (px14 : Addr) =>
  LD [.int .i64] px14 w1 fun (x15 : Int) =>
  cond (decide ((x11 : Int) ≥ s2.len)) (
  Q 1 w1) (
  IX s2 x11 1 fun (px22 : Addr) =>
  LD [.int .i64] px22 w1 fun (x23 : Int) =>
  Calls Tryz.prog F.cmp_Compare_int #[.int .i64 x15, .int .i64 x23] w1 (Ret [.at (.int .i64)] fun (x26 : Int) w2 =>
  cond ((x26 : Int) != 0) (
  Q x26 w2) (
  I2 (IntKind.i64.wrap (x11 + 1)) w2 ∧ m2 (IntKind.i64.wrap (x11 + 1)) w2 < m2 x11 w1)))) (
  cond (decide ((s1.len : Int) < s2.len)) (
  Q (-1) w1) (
  Q 0 w1))

theorem C_slices_Compare_sl_int_int {Q : Int → World → Prop} {s1 : Sl} {s2 : Sl} {w : World} (h : V_slices_Compare_sl_int_int Q s1 s2 w) : Calls Tryz.prog F.slices_Compare_sl_int_int #[s1.v, s2.v] w (Ret [.at (.int .i64)] Q) :=
  mkC (hint := hint) (ann := annOf [(2, ⟨[(11, .int .i64)], [4, 5, 6, 7, 8, 12, 13, 14, 15, 16, 17, 18, 19, 20, 21, 22, 23, 24, 25, 26, 27, 28, 29, 30]⟩)]) (args := [s1.v, s2.v]) (rs := [.at (.int .i64)]) Tryz.func73 (by kernel_rfl) (by kernel_rfl) h

def V_l_eqEndSS (Q : Bool → World → Prop) (a : Sl) (b : Sl) (w : World) : Prop :=
  cond ((a.len : Int) != b.len) (
  Q false w) (
  ∃ (I4 : Int → World → Prop) (m4 : Int → World → Nat), I4 0 w ∧ ∀ (i : Int) w1, I4 i w1 → ∀ _ _ _ _ _ _ _ _ _ _ _ _ _ _ _ _ _ : Value,
  cond (decide ((i : Int) < a.len)) (
  IX a i 1 fun (px19 : Addr) =>
  LD [.sl] px19 w1 fun (x20 : Sl) =>
  IX b i 1 fun (px23 : Addr) =>
  LD [.sl] px23 w1 fun (x24 : Sl) =>
  QCALL Tryz.prog F.l_eqEndS #[x20.v, x24.v] w1 [.at .bool] fun (x25 : Bool) =>
  ∀ w2, Ext w1 w2 →
  cond (!x25) (
  Q false w2) (
  I4 (IntKind.i64.wrap (i + 1)) w2 ∧ m4 (IntKind.i64.wrap (i + 1)) w2 < m4 i w1)) (
  Q true w1))

theorem C_l_eqEndSS {Q : Bool → World → Prop} {a : Sl} {b : Sl} {w : World} (h : V_l_eqEndSS Q a b w) : Calls Tryz.prog F.l_eqEndSS #[a.v, b.v] w (Ret [.at .bool] Q) :=
  mkC (hint := hint) (ann := annOf [(4, ⟨[(5, .int .i64)], [4, 11, 12, 13, 14, 15, 16, 17, 18, 19, 20, 21, 22, 23, 24, 25, 26]⟩)]) (args := [a.v, b.v]) (rs := [.at .bool]) Tryz.func74 (by kernel_rfl) (by kernel_rfl) h

def V_l_markIntS (Q : Int → World → Prop) (a : Sl) (k : Int) (w : World) : Prop :=
  ∃ (I2 : Int → Int → World → Prop) (m2 : Int → Int → World → Nat), I2 k 0 w ∧ ∀ (k_2 : Int) (i : Int) w1, I2 k_2 i w1 → ∀ _ _ _ _ _ _ _ _ _ _ _ _ : Value,
  cond (decide ((i : Int) < a.len)) (
  IX a i 1 fun (px15 : Addr) =>
  ST px15 0 [.int .i64 k_2] w1 fun w2 =>
  I2 (IntKind.i64.wrap (k_2 + 1)) (IntKind.i64.wrap (i + 1)) w2 ∧ m2 (IntKind.i64.wrap (k_2 + 1)) (IntKind.i64.wrap (i + 1)) w2 < m2 k_2 i w1) (
  Q k_2 w1)

theorem C_l_markIntS {Q : Int → World → Prop} {a : Sl} {k : Int} {w : World} (h : V_l_markIntS Q a k w) : Calls Tryz.prog F.l_markIntS #[a.v, .int .i64 k] w (Ret [.at (.int .i64)] Q) :=
  mkC (hint := hint) (ann := annOf [(2, ⟨[(1, .int .i64), (5, .int .i64)], [6, 7, 8, 9, 10, 11, 12, 13, 14, 15, 16, 17]⟩)]) (args := [a.v, .int .i64 k]) (rs := [.at (.int .i64)]) Tryz.func75 (by kernel_rfl) (by kernel_rfl) h

def V_l_markEndSS (Q : Int → World → Prop) (a : Sl) (k : Int) (w : World) : Prop :=
  ∃ (I2 : Int → Int → World → Prop) (m2 : Int → Int → World → Nat), I2 k 0 w ∧ ∀ (k_2 : Int) (i : Int) w1, I2 k_2 i w1 → ∀ _ _ _ _ _ _ _ _ _ _ _ _ : Value,
  cond (decide ((i : Int) < a.len)) (
  IX a i 1 fun (px14 : Addr) =>
  LD [.sl] px14 w1 fun (x15 : Sl) =>
  Calls Tryz.prog F.l_markEndS #[x15.v, .int .i64 k_2] w1 (Ret [.at (.int .i64)] fun (x17 : Int) w2 =>
  I2 x17 (IntKind.i64.wrap (i + 1)) w2 ∧ m2 x17 (IntKind.i64.wrap (i + 1)) w2 < m2 k_2 i w1)) (
  Q k_2 w1)

theorem C_l_markEndSS {Q : Int → World → Prop} {a : Sl} {k : Int} {w : World} (h : V_l_markEndSS Q a k w) : Calls Tryz.prog F.l_markEndSS #[a.v, .int .i64 k] w (Ret [.at (.int .i64)] Q) :=
  mkC (hint := hint) (ann := annOf [(2, ⟨[(1, .int .i64), (5, .int .i64)], [6, 7, 8, 9, 10, 11, 12, 13, 14, 15, 16, 17]⟩)]) (args := [a.v, .int .i64 k]) (rs := [.at (.int .i64)]) Tryz.func76 (by kernel_rfl) (by kernel_rfl) h

def V_l_heldIntS (Q : Int → World → Prop) (a : Sl) (k : Int) (w : World) : Prop :=
  ∃ (I2 : Int → Int → World → Prop) (m2 : Int → Int → World → Nat), I2 k 0 w ∧ ∀ (k_2 : Int) (i : Int) w1, I2 k_2 i w1 → ∀ _ _ _ _ _ _ _ _ _ _ _ _ _ _ _ : Value,
  cond (decide ((i : Int) < a.len)) (
  IX a i 1 fun (px14 : Addr) =>
  LD [.int .i64] px14 w1 fun (x15 : Int) =>
  cond ((x15 : Int) != k_2) (
  Q (-1) w1) (
  I2 (IntKind.i64.wrap (k_2 + 1)) (IntKind.i64.wrap (i + 1)) w1 ∧ m2 (IntKind.i64.wrap (k_2 + 1)) (IntKind.i64.wrap (i + 1)) w1 < m2 k_2 i w1)) (
  Q k_2 w1)

theorem C_l_heldIntS {Q : Int → World → Prop} {a : Sl} {k : Int} {w : World} (h : V_l_heldIntS Q a k w) : Calls Tryz.prog F.l_heldIntS #[a.v, .int .i64 k] w (Ret [.at (.int .i64)] Q) :=
  mkC (hint := hint) (ann := annOf [(2, ⟨[(1, .int .i64), (5, .int .i64)], [4, 6, 7, 8, 9, 10, 11, 12, 13, 14, 15, 16, 17, 18, 19]⟩)]) (args := [a.v, .int .i64 k]) (rs := [.at (.int .i64)]) Tryz.func77 (by kernel_rfl) (by kernel_rfl) h

def V_i_isLabeling (Q : Bool → World → Prop) (p_0 : Int) (p_1 : Int) (p_2 : Sl) (p_3 : Sl) (n_0 : Sl) (n_1 : Sl) (n_2 : Sl) (l : Sl) (w : World) : Prop :=
  NEW T.t_i_Problem #[.int .i64 p_0, .int .i64 p_1, p_2.v, p_3.v] w fun (p_p : Addr) w1 =>
  NEW T.t_i_Network #[n_0.v, n_1.v, n_2.v] w1 fun (p_n : Addr) w2 =>
  LD [.sl, .sl, .sl] p_n w2 fun (x7_0 : Sl) (x7_1 : Sl) (x7_2 : Sl) =>
  Calls Tryz.prog F.i_portsOk #[.agg #[x7_0.v, x7_1.v, x7_2.v], l.v] w2 (Ret [.at .bool] fun (x9 : Bool) w3 =>
  cond x9 (
  Calls Tryz.prog F.slices_ContainsFunc_sl_sl_int_sl_int #[l.v, .func (.func F.i_isLabeling_1) #[] #[.pointer (some p_p)]] w3 (Ret [.at .bool] fun (x13 : Bool) w4 =>
  Q (!x13) w4)) (
  Q false w3))

theorem C_i_isLabeling {Q : Bool → World → Prop} {p_0 : Int} {p_1 : Int} {p_2 : Sl} {p_3 : Sl} {n_0 : Sl} {n_1 : Sl} {n_2 : Sl} {l : Sl} {w : World} (h : V_i_isLabeling Q p_0 p_1 p_2 p_3 n_0 n_1 n_2 l w) : Calls Tryz.prog F.i_isLabeling #[.agg #[.int .i64 p_0, .int .i64 p_1, p_2.v, p_3.v], .agg #[n_0.v, n_1.v, n_2.v], l.v] w (Ret [.at .bool] Q) :=
  mkC (hint := hint) (ann := annOf []) (args := [.agg #[.int .i64 p_0, .int .i64 p_1, p_2.v, p_3.v], .agg #[n_0.v, n_1.v, n_2.v], l.v]) (rs := [.at .bool]) Tryz.func81 (by kernel_rfl) (by kernel_rfl) h

def V_s_EliminateRound (Q : Int → Int → Sl → Sl → Sl → Sl → Bool → World → Prop) (p_0 : Int) (p_1 : Int) (p_2 : Sl) (p_3 : Sl) (w : World) : Prop :=
  NEW T.t_i_Problem #[.int .i64 p_0, .int .i64 p_1, p_2.v, p_3.v] w fun (p_p : Addr) w1 =>
  NEW T.t_i_Problem #[.int .i64 0, .int .i64 0, .slice none 0 0, .slice none 0 0] w1 fun (px2 : Addr) w2 =>
  LD [.int .i64, .int .i64, .sl, .sl] p_p w2 fun (x13_0 : Int) (x13_1 : Int) (x13_2 : Sl) (x13_3 : Sl) =>
  Calls Tryz.prog F.s_EdgeStep #[.agg #[.int .i64 x13_0, .int .i64 x13_1, x13_2.v, x13_3.v]] w2 (Ret [.agg [.int .i64, .int .i64, .sl, .sl], .at .sl, .at .bool] fun (x14_0_0 : Int) (x14_0_1 : Int) (x14_0_2 : Sl) (x14_0_3 : Sl) (x14_1 : Sl) (x14_2 : Bool) w3 =>
  NEW T.t_i_Problem #[.int .i64 0, .int .i64 0, .slice none 0 0, .slice none 0 0] w3 fun (p_q : Addr) w4 =>
  ST p_q 0 [.int .i64 x14_0_0, .int .i64 x14_0_1, x14_0_2.v, x14_0_3.v] w4 fun w5 =>
  cond (!x14_2) (
  ST px2 0 [.int .i64 0, .int .i64 0, .slice none 0 0, .slice none 0 0] w5 fun w6 =>
  LD [.int .i64, .int .i64, .sl, .sl] px2 w6 fun (r0_0 : Int) (r0_1 : Int) (r0_2 : Sl) (r0_3 : Sl) =>
  Q r0_0 r0_1 r0_2 r0_3 (⟨none, 0, 0⟩) (⟨none, 0, 0⟩) false w6) (
  LD [.int .i64, .int .i64, .sl, .sl] p_q w5 fun (x22_0 : Int) (x22_1 : Int) (x22_2 : Sl) (x22_3 : Sl) =>
  Calls Tryz.prog F.s_elNode #[.agg #[.int .i64 x22_0, .int .i64 x22_1, x22_2.v, x22_3.v]] w5 (Ret [.agg [.int .i64, .int .i64, .sl, .sl], .at .sl, .at .bool] fun (x23_0_0 : Int) (x23_0_1 : Int) (x23_0_2 : Sl) (x23_0_3 : Sl) (x23_1 : Sl) (x23_2 : Bool) w7 =>
  NEW T.t_i_Problem #[.int .i64 0, .int .i64 0, .slice none 0 0, .slice none 0 0] w7 fun (p_r : Addr) w8 =>
  ST p_r 0 [.int .i64 x23_0_0, .int .i64 x23_0_1, x23_0_2.v, x23_0_3.v] w8 fun w9 =>
  cond (!x23_2) (
  ST px2 0 [.int .i64 0, .int .i64 0, .slice none 0 0, .slice none 0 0] w9 fun w10 =>
  LD [.int .i64, .int .i64, .sl, .sl] px2 w10 fun (r0_0_2 : Int) (r0_1_2 : Int) (r0_2_2 : Sl) (r0_3_2 : Sl) =>
  Q r0_0_2 r0_1_2 r0_2_2 r0_3_2 (⟨none, 0, 0⟩) (⟨none, 0, 0⟩) false w10) (
  LD [.int .i64, .int .i64, .sl, .sl] p_r w9 fun (x30_0 : Int) (x30_1 : Int) (x30_2 : Sl) (x30_3 : Sl) =>
  ST px2 0 [.int .i64 x30_0, .int .i64 x30_1, x30_2.v, x30_3.v] w9 fun w11 =>
  LD [.int .i64, .int .i64, .sl, .sl] px2 w11 fun (r0_0_3 : Int) (r0_1_3 : Int) (r0_2_3 : Sl) (r0_3_3 : Sl) =>
  Q r0_0_3 r0_1_3 r0_2_3 r0_3_3 x14_1 x23_1 true w11))))

theorem C_s_EliminateRound {Q : Int → Int → Sl → Sl → Sl → Sl → Bool → World → Prop} {p_0 : Int} {p_1 : Int} {p_2 : Sl} {p_3 : Sl} {w : World} (h : V_s_EliminateRound Q p_0 p_1 p_2 p_3 w) : Calls Tryz.prog F.s_EliminateRound #[.agg #[.int .i64 p_0, .int .i64 p_1, p_2.v, p_3.v]] w (Ret [.agg [.int .i64, .int .i64, .sl, .sl], .at .sl, .at .sl, .at .bool] Q) :=
  mkC (hint := hint) (ann := annOf []) (args := [.agg #[.int .i64 p_0, .int .i64 p_1, p_2.v, p_3.v]]) (rs := [.agg [.int .i64, .int .i64, .sl, .sl], .at .sl, .at .sl, .at .bool]) Tryz.func83 (by kernel_rfl) (by kernel_rfl) h

def V_s_reMap (Q : Bool → World → Prop) (p_0 : Int) (p_1 : Int) (p_2 : Sl) (p_3 : Sl) (q_0 : Int) (q_1 : Int) (q_2 : Sl) (q_3 : Sl) (f : Sl) (w : World) : Prop :=
  NEW T.t_i_Problem #[.int .i64 p_0, .int .i64 p_1, p_2.v, p_3.v] w fun (p_p : Addr) w1 =>
  NEW T.t_i_Problem #[.int .i64 q_0, .int .i64 q_1, q_2.v, q_3.v] w1 fun (p_q : Addr) w2 =>
  LD [.int .i64] (p_p.add 0) w2 fun (x10 : Int) =>
  cond ((f.len : Int) == x10) (
  LD [.int .i64] (p_q.add 0) w2 fun (x15 : Int) =>
  Calls Tryz.prog F.s_l1All #[f.v, .int .i64 0, .int .i64 (IntKind.i64.wrap (x15 - 1))] w2 (Ret [.at .bool] fun (x17 : Bool) w3 =>
  cond x17 (
  LD [.sl] (p_p.add 2) w3 fun (x21 : Sl) =>
  LD [.sl] (p_q.add 2) w3 fun (x23 : Sl) =>
  Calls Tryz.prog F.s_reInto #[x21.v, x23.v, f.v] w3 (Ret [.at .bool] fun (x25 : Bool) w4 =>
  cond x25 (
  LD [.sl] (p_p.add 3) w4 fun (x29 : Sl) =>
  LD [.sl] (p_q.add 3) w4 fun (x31 : Sl) =>
  Calls Tryz.prog F.s_reInto #[x29.v, x31.v, f.v] w4 (Ret [.at .bool] fun (x33 : Bool) w5 =>
  Q x33 w5)) (
  Q false w4))) (
  Q false w3))) (
  Q false w2)

theorem C_s_reMap {Q : Bool → World → Prop} {p_0 : Int} {p_1 : Int} {p_2 : Sl} {p_3 : Sl} {q_0 : Int} {q_1 : Int} {q_2 : Sl} {q_3 : Sl} {f : Sl} {w : World} (h : V_s_reMap Q p_0 p_1 p_2 p_3 q_0 q_1 q_2 q_3 f w) : Calls Tryz.prog F.s_reMap #[.agg #[.int .i64 p_0, .int .i64 p_1, p_2.v, p_3.v], .agg #[.int .i64 q_0, .int .i64 q_1, q_2.v, q_3.v], f.v] w (Ret [.at .bool] Q) :=
  mkC (hint := hint) (ann := annOf []) (args := [.agg #[.int .i64 p_0, .int .i64 p_1, p_2.v, p_3.v], .agg #[.int .i64 q_0, .int .i64 q_1, q_2.v, q_3.v], f.v]) (rs := [.at .bool]) Tryz.func84 (by kernel_rfl) (by kernel_rfl) h

def V_s_boZero (Q : Bool → World → Prop) (p_0 : Int) (p_1 : Int) (p_2 : Sl) (p_3 : Sl) (pairs : Sl) (w : World) : Prop :=
  NEW T.t_i_Problem #[.int .i64 p_0, .int .i64 p_1, p_2.v, p_3.v] w fun (p_p : Addr) w1 =>
  LD [.int .i64, .int .i64, .sl, .sl] p_p w1 fun (x8_0 : Int) (x8_1 : Int) (x8_2 : Sl) (x8_3 : Sl) =>
  Calls Tryz.prog F.s_CheckZeroRefusal #[.agg #[.int .i64 x8_0, .int .i64 x8_1, x8_2.v, x8_3.v], pairs.v] w1 (Ret [.at .bool, .at .bool] fun (x10_0 : Bool) (x10_1 : Bool) w2 =>
  Q x10_0 w2)

theorem C_s_boZero {Q : Bool → World → Prop} {p_0 : Int} {p_1 : Int} {p_2 : Sl} {p_3 : Sl} {pairs : Sl} {w : World} (h : V_s_boZero Q p_0 p_1 p_2 p_3 pairs w) : Calls Tryz.prog F.s_boZero #[.agg #[.int .i64 p_0, .int .i64 p_1, p_2.v, p_3.v], pairs.v] w (Ret [.at .bool] Q) :=
  mkC (hint := hint) (ann := annOf []) (args := [.agg #[.int .i64 p_0, .int .i64 p_1, p_2.v, p_3.v], pairs.v]) (rs := [.at .bool]) Tryz.func85 (by kernel_rfl) (by kernel_rfl) h

def V_i_EliminateRound (Q : Int → Int → Sl → Sl → Sl → Sl → Bool → World → Prop) (p_0 : Int) (p_1 : Int) (p_2 : Sl) (p_3 : Sl) (w : World) : Prop :=
  NEW T.t_i_Problem #[.int .i64 p_0, .int .i64 p_1, p_2.v, p_3.v] w fun (p_p : Addr) w1 =>
  NEW T.t_i_Problem #[.int .i64 0, .int .i64 0, .slice none 0 0, .slice none 0 0] w1 fun (px2 : Addr) w2 =>
  LD [.int .i64, .int .i64, .sl, .sl] p_p w2 fun (x6_0 : Int) (x6_1 : Int) (x6_2 : Sl) (x6_3 : Sl) =>
  Calls Tryz.prog F.i_IsProblem #[.agg #[.int .i64 x6_0, .int .i64 x6_1, x6_2.v, x6_3.v]] w2 (Ret [.at .bool] fun (x7 : Bool) w3 =>
  cond (!x7) (
  ST px2 0 [.int .i64 0, .int .i64 0, .slice none 0 0, .slice none 0 0] w3 fun w4 =>
  LD [.int .i64, .int .i64, .sl, .sl] px2 w4 fun (r0_0 : Int) (r0_1 : Int) (r0_2 : Sl) (r0_3 : Sl) =>
  Q r0_0 r0_1 r0_2 r0_3 (⟨none, 0, 0⟩) (⟨none, 0, 0⟩) false w4) (
  LD [.int .i64, .int .i64, .sl, .sl] p_p w3 fun (x10_0 : Int) (x10_1 : Int) (x10_2 : Sl) (x10_3 : Sl) =>
  Calls Tryz.prog F.i_eliminate #[.agg #[.int .i64 x10_0, .int .i64 x10_1, x10_2.v, x10_3.v]] w3 (Ret [.agg [.int .i64, .int .i64, .sl, .sl], .at .sl, .at .sl, .at .bool] fun (x11_0_0 : Int) (x11_0_1 : Int) (x11_0_2 : Sl) (x11_0_3 : Sl) (x11_1 : Sl) (x11_2 : Sl) (x11_3 : Bool) w5 =>
  ST px2 0 [.int .i64 x11_0_0, .int .i64 x11_0_1, x11_0_2.v, x11_0_3.v] w5 fun w6 =>
  LD [.int .i64, .int .i64, .sl, .sl] px2 w6 fun (r0_0_2 : Int) (r0_1_2 : Int) (r0_2_2 : Sl) (r0_3_2 : Sl) =>
  Q r0_0_2 r0_1_2 r0_2_2 r0_3_2 x11_1 x11_2 x11_3 w6)))

theorem C_i_EliminateRound {Q : Int → Int → Sl → Sl → Sl → Sl → Bool → World → Prop} {p_0 : Int} {p_1 : Int} {p_2 : Sl} {p_3 : Sl} {w : World} (h : V_i_EliminateRound Q p_0 p_1 p_2 p_3 w) : Calls Tryz.prog F.i_EliminateRound #[.agg #[.int .i64 p_0, .int .i64 p_1, p_2.v, p_3.v]] w (Ret [.agg [.int .i64, .int .i64, .sl, .sl], .at .sl, .at .sl, .at .bool] Q) :=
  mkC (hint := hint) (ann := annOf []) (args := [.agg #[.int .i64 p_0, .int .i64 p_1, p_2.v, p_3.v]]) (rs := [.agg [.int .i64, .int .i64, .sl, .sl], .at .sl, .at .sl, .at .bool]) Tryz.func86 (by kernel_rfl) (by kernel_rfl) h

def V_i_isLabelMap_k1 (Q : Bool → World → Prop) (p_p : Addr) (p_q : Addr) (p_f : Addr) (w5 : World) : Prop :=
  LD [.sl] (p_p.add 2) w5 fun (x21 : Sl) =>
  ∃ (I4 : Int → World → Prop) (m4 : Int → World → Nat), I4 0 w5 ∧ ∀ (x23 : Int) w6, I4 x23 w6 → ∀ _ _ _ _ _ _ _ _ _ _ _ _ : Value,
  cond (decide ((x23 : Int) < x21.len)) (
  IX x21 x23 1 fun (px25 : Addr) =>
  LD [.sl] px25 w6 fun (x26 : Sl) =>
  ∀ w7, Ext w6 w7 → w7.heap = w6.heap →
  LD [.int .i64, .int .i64, .sl, .sl] p_q w7 fun (x27_0 : Int) (x27_1 : Int) (x27_2 : Sl) (x27_3 : Sl) =>
  LD [.sl] p_f w7 fun (x29 : Sl) =>
  Ext w7 w7 ∧ (
  Calls Tryz.prog F.i_images #[x26.v, x29.v] w7 (Ret [.at .sl] fun (x30 : Sl) w8 =>
  Ext w7 w8 ∧ (
  Calls Tryz.prog F.i_Problem_node #[.agg #[.int .i64 x27_0, .int .i64 x27_1, x27_2.v, x27_3.v], x30.v] w8 (Ret [.at .bool] fun (x31 : Bool) w9 =>
  Ext w7 w9 ∧ (
  Ext w7 w9 ∧ (
  cond (!x31) (
  Q false w9) (
  I4 (IntKind.i64.wrap (x23 + 1)) w9 ∧ m4 (IntKind.i64.wrap (x23 + 1)) w9 < m4 x23 w6)))))))) (
  LD [.sl] (p_p.add 3) w6 fun (x35 : Sl) =>
  Calls Tryz.prog F.slices_ContainsFunc_sl_sl_int_sl_int #[x35.v, .func (.func F.i_isLabelMap_1) #[] #[.pointer (some p_q), .pointer (some p_f)]] w6 (Ret [.at .bool] fun (x37 : Bool) w10 =>
  Q (!x37) w10))

def V_i_isLabelMap (Q : Bool → World → Prop) (p_0 : Int) (p_1 : Int) (p_2 : Sl) (p_3 : Sl) (q_0 : Int) (q_1 : Int) (q_2 : Sl) (q_3 : Sl) (f : Sl) (w : World) : Prop :=
  NEW T.t_i_Problem #[.int .i64 p_0, .int .i64 p_1, p_2.v, p_3.v] w fun (p_p : Addr) w1 =>
  NEW T.t_i_Problem #[.int .i64 q_0, .int .i64 q_1, q_2.v, q_3.v] w1 fun (p_q : Addr) w2 =>
  NEW T.t_sl_int #[f.v] w2 fun (p_f : Addr) w3 =>
  LD [.sl] p_f w3 fun (x9 : Sl) =>
  LD [.int .i64] (p_p.add 0) w3 fun (x12 : Int) =>
  cond ((x9.len : Int) != x12) (
  Q false w3) (
  LD [.int .i64, .int .i64, .sl, .sl] p_q w3 fun (x15_0 : Int) (x15_1 : Int) (x15_2 : Sl) (x15_3 : Sl) =>
  LD [.sl] p_f w3 fun (x16 : Sl) =>
  Calls Tryz.prog F.i_Problem_hasLabels #[.agg #[.int .i64 x15_0, .int .i64 x15_1, x15_2.v, x15_3.v], x16.v] w3 (Ret [.at .bool] fun (x17 : Bool) w4 =>
  cond (!x17) (
  Q false w4) (
  V_i_isLabelMap_k1 Q p_p p_q p_f w4)))

theorem C_i_isLabelMap {Q : Bool → World → Prop} {p_0 : Int} {p_1 : Int} {p_2 : Sl} {p_3 : Sl} {q_0 : Int} {q_1 : Int} {q_2 : Sl} {q_3 : Sl} {f : Sl} {w : World} (h : V_i_isLabelMap Q p_0 p_1 p_2 p_3 q_0 q_1 q_2 q_3 f w) : Calls Tryz.prog F.i_isLabelMap #[.agg #[.int .i64 p_0, .int .i64 p_1, p_2.v, p_3.v], .agg #[.int .i64 q_0, .int .i64 q_1, q_2.v, q_3.v], f.v] w (Ret [.at .bool] Q) :=
  mkC (hint := hint) (ann := annOf [(4, ⟨[(23, .int .i64)], [6, 8, 24, 25, 26, 27, 28, 29, 30, 31, 32, 33]⟩)]) (args := [.agg #[.int .i64 p_0, .int .i64 p_1, p_2.v, p_3.v], .agg #[.int .i64 q_0, .int .i64 q_1, q_2.v, q_3.v], f.v]) (rs := [.at .bool]) Tryz.func87 (by kernel_rfl) (by kernel_rfl) h

def V_i_isZeroRefusal (Q : Bool → World → Prop) (p_0 : Int) (p_1 : Int) (p_2 : Sl) (p_3 : Sl) (pairs : Sl) (w : World) : Prop :=
  NEW T.t_i_Problem #[.int .i64 p_0, .int .i64 p_1, p_2.v, p_3.v] w fun (p_p : Addr) w1 =>
  LD [.sl] (p_p.add 2) w1 fun (x10 : Sl) =>
  cond ((pairs.len : Int) != x10.len) (
  Q false w1) (
  ∃ (I4 : Int → World → Prop) (m4 : Int → World → Nat), I4 0 w1 ∧ ∀ (x15 : Int) w2, I4 x15 w2 → ∀ _ _ _ _ _ _ _ _ _ _ _ _ _ _ _ _ _ _ _ _ _ _ _ _ _ _ _ _ _ _ _ _ _ _ _ _ _ _ _ _ _ _ _ _ _ : Value,
  cond (decide ((x15 : Int) < pairs.len)) (
  IX pairs x15 1 fun (px18 : Addr) =>
  LD [.sl] px18 w2 fun (x19 : Sl) =>
  cond ((x19.len : Int) != 2) (
  ∀ w3, Ext w2 w3 →
  Q false w3) (
  LD [.sl] (p_p.add 2) w2 fun (x25 : Sl) =>
  IX x25 x15 1 fun (px27 : Addr) =>
  LD [.sl] px27 w2 fun (x28 : Sl) =>
  IX x19 0 1 fun (px30 : Addr) =>
  LD [.int .i64] px30 w2 fun (x31 : Int) =>
  QCALL Tryz.prog F.slices_Contains_sl_int_int #[x28.v, .int .i64 x31] w2 [.at .bool] fun (x32 : Bool) =>
  cond (!x32) (
  ∀ w4, Ext w2 w4 →
  Q false w4) (
  LD [.sl] (p_p.add 2) w2 fun (x37 : Sl) =>
  IX x37 x15 1 fun (px39 : Addr) =>
  LD [.sl] px39 w2 fun (x40 : Sl) =>
  IX x19 1 1 fun (px42 : Addr) =>
  LD [.int .i64] px42 w2 fun (x43 : Int) =>
  QCALL Tryz.prog F.slices_Contains_sl_int_int #[x40.v, .int .i64 x43] w2 [.at .bool] fun (x44 : Bool) =>
  cond (!x44) (
  ∀ w5, Ext w2 w5 →
  Q false w5) (
  LD [.int .i64, .int .i64, .sl, .sl] p_p w2 fun (x48_0 : Int) (x48_1 : Int) (x48_2 : Sl) (x48_3 : Sl) =>
  IX x19 0 1 fun (px50 : Addr) =>
  LD [.int .i64] px50 w2 fun (x51 : Int) =>
  IX x19 1 1 fun (px53 : Addr) =>
  LD [.int .i64] px53 w2 fun (x54 : Int) =>
  QCALL Tryz.prog F.i_Problem_edge #[.agg #[.int .i64 x48_0, .int .i64 x48_1, x48_2.v, x48_3.v], .int .i64 x51, .int .i64 x54] w2 [.at .bool] fun (x55 : Bool) =>
  ∀ w6, Ext w2 w6 →
  cond x55 (
  Q false w6) (
  I4 (IntKind.i64.wrap (x15 + 1)) w6 ∧ m4 (IntKind.i64.wrap (x15 + 1)) w6 < m4 x15 w2))))) (
  Q true w2))

theorem C_i_isZeroRefusal {Q : Bool → World → Prop} {p_0 : Int} {p_1 : Int} {p_2 : Sl} {p_3 : Sl} {pairs : Sl} {w : World} (h : V_i_isZeroRefusal Q p_0 p_1 p_2 p_3 pairs w) : Calls Tryz.prog F.i_isZeroRefusal #[.agg #[.int .i64 p_0, .int .i64 p_1, p_2.v, p_3.v], pairs.v] w (Ret [.at .bool] Q) :=
  mkC (hint := hint) (ann := annOf [(4, ⟨[(15, .int .i64)], [4, 5, 6, 16, 17, 18, 19, 20, 21, 22, 23, 24, 25, 26, 27, 28, 29, 30, 31, 32, 33, 34, 35, 36, 37, 38, 39, 40, 41, 42, 43, 44, 45, 46, 47, 48, 49, 50, 51, 52, 53, 54, 55, 56, 57]⟩)]) (args := [.agg #[.int .i64 p_0, .int .i64 p_1, p_2.v, p_3.v], pairs.v]) (rs := [.at .bool]) Tryz.func88 (by kernel_rfl) (by kernel_rfl) h

def V_s_EdgeStep (Q : Int → Int → Sl → Sl → Sl → Bool → World → Prop) (p_0 : Int) (p_1 : Int) (p_2 : Sl) (p_3 : Sl) (w : World) : Prop :=
  NEW T.t_i_Problem #[.int .i64 p_0, .int .i64 p_1, p_2.v, p_3.v] w fun (p_p : Addr) w1 =>
  NEW T.t_i_Problem #[.int .i64 0, .int .i64 0, .slice none 0 0, .slice none 0 0] w1 fun (px2 : Addr) w2 =>
  LD [.int .i64, .int .i64, .sl, .sl] p_p w2 fun (x5_0 : Int) (x5_1 : Int) (x5_2 : Sl) (x5_3 : Sl) =>
  Calls Tryz.prog F.s_prGood #[.agg #[.int .i64 x5_0, .int .i64 x5_1, x5_2.v, x5_3.v]] w2 (Ret [.at .bool] fun (x6 : Bool) w3 =>
  cond (!x6) (
  ST px2 0 [.int .i64 0, .int .i64 0, .slice none 0 0, .slice none 0 0] w3 fun w4 =>
  LD [.int .i64, .int .i64, .sl, .sl] px2 w4 fun (r0_0 : Int) (r0_1 : Int) (r0_2 : Sl) (r0_3 : Sl) =>
  Q r0_0 r0_1 r0_2 r0_3 (⟨none, 0, 0⟩) false w4) (
  LD [.int .i64, .int .i64, .sl, .sl] p_p w3 fun (x9_0 : Int) (x9_1 : Int) (x9_2 : Sl) (x9_3 : Sl) =>
  Calls Tryz.prog F.s_elEdge #[.agg #[.int .i64 x9_0, .int .i64 x9_1, x9_2.v, x9_3.v]] w3 (Ret [.agg [.int .i64, .int .i64, .sl, .sl], .at .sl, .at .bool] fun (x10_0_0 : Int) (x10_0_1 : Int) (x10_0_2 : Sl) (x10_0_3 : Sl) (x10_1 : Sl) (x10_2 : Bool) w5 =>
  ST px2 0 [.int .i64 x10_0_0, .int .i64 x10_0_1, x10_0_2.v, x10_0_3.v] w5 fun w6 =>
  LD [.int .i64, .int .i64, .sl, .sl] px2 w6 fun (r0_0_2 : Int) (r0_1_2 : Int) (r0_2_2 : Sl) (r0_3_2 : Sl) =>
  Q r0_0_2 r0_1_2 r0_2_2 r0_3_2 x10_1 x10_2 w6)))

theorem C_s_EdgeStep {Q : Int → Int → Sl → Sl → Sl → Bool → World → Prop} {p_0 : Int} {p_1 : Int} {p_2 : Sl} {p_3 : Sl} {w : World} (h : V_s_EdgeStep Q p_0 p_1 p_2 p_3 w) : Calls Tryz.prog F.s_EdgeStep #[.agg #[.int .i64 p_0, .int .i64 p_1, p_2.v, p_3.v]] w (Ret [.agg [.int .i64, .int .i64, .sl, .sl], .at .sl, .at .bool] Q) :=
  mkC (hint := hint) (ann := annOf []) (args := [.agg #[.int .i64 p_0, .int .i64 p_1, p_2.v, p_3.v]]) (rs := [.agg [.int .i64, .int .i64, .sl, .sl], .at .sl, .at .bool]) Tryz.func89 (by kernel_rfl) (by kernel_rfl) h

end Go.Proofs.YtlmiookpmneicaaGreat
end

section
/- What each function's code computes to. Printed by a program. -/
namespace Go.Proofs.YtlmiookpmneicaaGreat
open Go.GX Go.RowKit
set_option linter.unusedVariables false
set_option maxRecDepth 100000

def V_s_elPullEdge_k4 (I3 : Sl → Int → World → Prop) (m3 : Sl → Int → World → Nat) (x17 : Int) (w2 : World) (out : Sl) (chosen_2 : Sl) (w10 : World) : Prop :=
  RUN Tryz.prog (.at .sl) (Instr.buildSlice T.t_sl_sl_int 1 #[(0, chosen_2.v)]) w10 fun (x56 : Sl) w11 =>
  RUN Tryz.prog (.at .sl) (bsem .append #[T.t_sl_sl_int, T.t_sl_sl_int] T.t_sl_sl_int #[out.v, x56.v]) w11 fun (x57 : Sl) w12 =>
  I3 x57 (IntKind.i64.wrap (x17 + 1)) w12 ∧ m3 x57 (IntKind.i64.wrap (x17 + 1)) w12 < m3 out x17 w2

def V_s_elPullEdge_k5 (I3 : Sl → Int → World → Prop) (m3 : Sl → Int → World → Nat) (x17 : Int) (w2 : World) (x28_0 : Sl) (out : Sl) (x23 : Sl) (x39 : Bool) (w5 : World) : Prop :=
  cond x39 (
  ∃ (I10 : Sl → Int → World → Prop) (m10 : Sl → Int → World → Nat), I10 (⟨none, 0, 0⟩) 0 w5 ∧ ∀ (chosen : Sl) (x42 : Int) w6, I10 chosen x42 w6 → ∀ _ _ _ _ _ _ _ _ _ _ _ _ : Value,
  cond (decide ((x42 : Int) < x23.len)) (
  IX x23 x42 1 fun (px44 : Addr) =>
  LD [.int .i64] px44 w6 fun (x45 : Int) =>
  Calls Tryz.prog F.s_elLabels #[.int .i64 x45] w6 (Ret [.at .sl] fun (x48 : Sl) w7 =>
  IX x48 0 1 fun (px49 : Addr) =>
  LD [.int .i64] px49 w7 fun (x50 : Int) =>
  RUN Tryz.prog (.at .sl) (Instr.buildSlice T.t_sl_int 1 #[(0, .int .i64 x50)]) w7 fun (x51 : Sl) w8 =>
  RUN Tryz.prog (.at .sl) (bsem .append #[T.t_sl_int, T.t_sl_int] T.t_sl_int #[chosen.v, x51.v]) w8 fun (x52 : Sl) w9 =>
  I10 x52 (IntKind.i64.wrap (x42 + 1)) w9 ∧ m10 x52 (IntKind.i64.wrap (x42 + 1)) w9 < m10 chosen x42 w6)) (
  V_s_elPullEdge_k4 I3 m3 x17 w2 out chosen w6)) (
  V_s_elPullEdge_k4 I3 m3 x17 w2 out x28_0 w5)

def V_s_elPullEdge (Q : Sl → World → Prop) (p_0 : Int) (p_1 : Int) (p_2 : Sl) (p_3 : Sl) (sets : Sl) (l : Sl) (w : World) : Prop :=
  NEW T.t_i_Problem #[.int .i64 p_0, .int .i64 p_1, p_2.v, p_3.v] w fun (p_p : Addr) w1 =>
  ∃ (I3 : Sl → Int → World → Prop) (m3 : Sl → Int → World → Nat), I3 (⟨none, 0, 0⟩) 0 w1 ∧ ∀ (out : Sl) (x17 : Int) w2, I3 out x17 w2 → ∀ _ _ _ _ _ _ _ _ _ _ _ _ _ _ _ _ _ _ _ _ _ _ _ _ _ _ _ _ _ _ _ _ _ _ _ _ _ _ _ _ _ _ _ _ _ _ : Value,
  cond (decide ((x17 : Int) < l.len)) (
  IX l x17 1 fun (px19 : Addr) =>
  LD [.sl] px19 w2 fun (x20 : Sl) =>
  Calls Tryz.prog F.s_coThrough #[sets.v, x20.v] w2 (Ret [.at .sl] fun (x23 : Sl) w3 =>
  LD [.sl] (p_p.add 2) w3 fun (x26 : Sl) =>
  Calls Tryz.prog F.s_elChoice #[x26.v, x23.v, .slice none 0 0] w3 (Ret [.at .sl, .at .bool] fun (x28_0 : Sl) (x28_1 : Bool) w4 =>
  LD [.int .i64] (p_p.add 1) w4 fun (x34 : Int) =>
  cond ((x20.len : Int) != x34) (
  V_s_elPullEdge_k5 I3 m3 x17 w2 x28_0 out x23 true w4) (
  V_s_elPullEdge_k5 I3 m3 x17 w2 x28_0 out x23 (!x28_1) w4)))) (
  Q out w2)

theorem C_s_elPullEdge {Q : Sl → World → Prop} {p_0 : Int} {p_1 : Int} {p_2 : Sl} {p_3 : Sl} {sets : Sl} {l : Sl} {w : World} (h : V_s_elPullEdge Q p_0 p_1 p_2 p_3 sets l w) : Calls Tryz.prog F.s_elPullEdge #[.agg #[.int .i64 p_0, .int .i64 p_1, p_2.v, p_3.v], sets.v, l.v] w (Ret [.at .sl] Q) :=
  mkC (hint := hint) (ann := annOf [(3, ⟨[(7, .sl), (17, .int .i64)], [9, 10, 11, 12, 14, 18, 19, 20, 21, 22, 23, 24, 25, 26, 27, 28, 29, 30, 31, 32, 33, 34, 35, 36, 37, 38, 39, 40, 41, 42, 43, 44, 45, 46, 47, 48, 49, 50, 51, 52, 53, 54, 55, 56, 57, 58]⟩), (10, ⟨[(11, .sl), (42, .int .i64)], [14, 43, 44, 45, 46, 47, 48, 49, 50, 51, 52, 53]⟩)]) (args := [.agg #[.int .i64 p_0, .int .i64 p_1, p_2.v, p_3.v], sets.v, l.v]) (rs := [.at .sl]) Tryz.func90 (by kernel_rfl) (by kernel_rfl) h

def V_i_EdgeStep (Q : Int → Int → Sl → Sl → Sl → Bool → World → Prop) (p_0 : Int) (p_1 : Int) (p_2 : Sl) (p_3 : Sl) (w : World) : Prop :=
  NEW T.t_i_Problem #[.int .i64 p_0, .int .i64 p_1, p_2.v, p_3.v] w fun (p_p : Addr) w1 =>
  NEW T.t_i_Problem #[.int .i64 0, .int .i64 0, .slice none 0 0, .slice none 0 0] w1 fun (px2 : Addr) w2 =>
  LD [.int .i64, .int .i64, .sl, .sl] p_p w2 fun (x5_0 : Int) (x5_1 : Int) (x5_2 : Sl) (x5_3 : Sl) =>
  Calls Tryz.prog F.i_IsProblem #[.agg #[.int .i64 x5_0, .int .i64 x5_1, x5_2.v, x5_3.v]] w2 (Ret [.at .bool] fun (x6 : Bool) w3 =>
  cond (!x6) (
  ST px2 0 [.int .i64 0, .int .i64 0, .slice none 0 0, .slice none 0 0] w3 fun w4 =>
  LD [.int .i64, .int .i64, .sl, .sl] px2 w4 fun (r0_0 : Int) (r0_1 : Int) (r0_2 : Sl) (r0_3 : Sl) =>
  Q r0_0 r0_1 r0_2 r0_3 (⟨none, 0, 0⟩) false w4) (
  LD [.int .i64, .int .i64, .sl, .sl] p_p w3 fun (x9_0 : Int) (x9_1 : Int) (x9_2 : Sl) (x9_3 : Sl) =>
  Calls Tryz.prog F.i_edgeStep #[.agg #[.int .i64 x9_0, .int .i64 x9_1, x9_2.v, x9_3.v]] w3 (Ret [.agg [.int .i64, .int .i64, .sl, .sl], .at .sl, .at .bool] fun (x10_0_0 : Int) (x10_0_1 : Int) (x10_0_2 : Sl) (x10_0_3 : Sl) (x10_1 : Sl) (x10_2 : Bool) w5 =>
  ST px2 0 [.int .i64 x10_0_0, .int .i64 x10_0_1, x10_0_2.v, x10_0_3.v] w5 fun w6 =>
  LD [.int .i64, .int .i64, .sl, .sl] px2 w6 fun (r0_0_2 : Int) (r0_1_2 : Int) (r0_2_2 : Sl) (r0_3_2 : Sl) =>
  Q r0_0_2 r0_1_2 r0_2_2 r0_3_2 x10_1 x10_2 w6)))

theorem C_i_EdgeStep {Q : Int → Int → Sl → Sl → Sl → Bool → World → Prop} {p_0 : Int} {p_1 : Int} {p_2 : Sl} {p_3 : Sl} {w : World} (h : V_i_EdgeStep Q p_0 p_1 p_2 p_3 w) : Calls Tryz.prog F.i_EdgeStep #[.agg #[.int .i64 p_0, .int .i64 p_1, p_2.v, p_3.v]] w (Ret [.agg [.int .i64, .int .i64, .sl, .sl], .at .sl, .at .bool] Q) :=
  mkC (hint := hint) (ann := annOf []) (args := [.agg #[.int .i64 p_0, .int .i64 p_1, p_2.v, p_3.v]]) (rs := [.agg [.int .i64, .int .i64, .sl, .sl], .at .sl, .at .bool]) Tryz.func91 (by kernel_rfl) (by kernel_rfl) h

def V_i_pullEdgeStep (Q : Sl → Bool → World → Prop) (p_0 : Int) (p_1 : Int) (p_2 : Sl) (p_3 : Sl) (sets : Sl) (l : Sl) (w : World) : Prop :=
  NEW T.t_i_Problem #[.int .i64 p_0, .int .i64 p_1, p_2.v, p_3.v] w fun (p_p : Addr) w1 =>
  ∃ (I3 : Sl → Int → World → Prop) (m3 : Sl → Int → World → Nat), I3 (⟨none, 0, 0⟩) 0 w1 ∧ ∀ (out : Sl) (x15 : Int) w2, I3 out x15 w2 → ∀ _ _ _ _ _ _ _ _ _ _ _ _ _ _ _ _ _ _ _ _ _ _ _ : Value,
  cond (decide ((x15 : Int) < l.len)) (
  IX l x15 1 fun (px17 : Addr) =>
  LD [.sl] px17 w2 fun (x18 : Sl) =>
  Calls Tryz.prog F.i_listsOf #[sets.v, x18.v] w2 (Ret [.at .sl] fun (x22 : Sl) w3 =>
  Calls Tryz.prog F.i_firstChoice #[x22.v, .func (.func F.i_pullEdgeStep_1) #[] #[.pointer (some p_p)]] w3 (Ret [.at .sl, .at .bool] fun (x24_0 : Sl) (x24_1 : Bool) w4 =>
  cond (!x24_1) (
  Q (⟨none, 0, 0⟩) false w4) (
  RUN Tryz.prog (.at .sl) (Instr.buildSlice T.t_sl_sl_int 1 #[(0, x24_0.v)]) w4 fun (x31 : Sl) w5 =>
  RUN Tryz.prog (.at .sl) (bsem .append #[T.t_sl_sl_int, T.t_sl_sl_int] T.t_sl_sl_int #[out.v, x31.v]) w5 fun (x32 : Sl) w6 =>
  I3 x32 (IntKind.i64.wrap (x15 + 1)) w6 ∧ m3 x32 (IntKind.i64.wrap (x15 + 1)) w6 < m3 out x15 w2)))) (
  Q out true w2)

theorem C_i_pullEdgeStep {Q : Sl → Bool → World → Prop} {p_0 : Int} {p_1 : Int} {p_2 : Sl} {p_3 : Sl} {sets : Sl} {l : Sl} {w : World} (h : V_i_pullEdgeStep Q p_0 p_1 p_2 p_3 sets l w) : Calls Tryz.prog F.i_pullEdgeStep #[.agg #[.int .i64 p_0, .int .i64 p_1, p_2.v, p_3.v], sets.v, l.v] w (Ret [.at .sl, .at .bool] Q) :=
  mkC (hint := hint) (ann := annOf [(3, ⟨[(8, .sl), (15, .int .i64)], [6, 7, 10, 11, 12, 16, 17, 18, 19, 20, 21, 22, 23, 24, 25, 26, 27, 28, 29, 30, 31, 32, 33]⟩)]) (args := [.agg #[.int .i64 p_0, .int .i64 p_1, p_2.v, p_3.v], sets.v, l.v]) (rs := [.at .sl, .at .bool]) Tryz.func92 (by kernel_rfl) (by kernel_rfl) h

def V_s_NodeStep (Q : Int → Int → Sl → Sl → Sl → Bool → World → Prop) (p_0 : Int) (p_1 : Int) (p_2 : Sl) (p_3 : Sl) (w : World) : Prop :=
  NEW T.t_i_Problem #[.int .i64 p_0, .int .i64 p_1, p_2.v, p_3.v] w fun (p_p : Addr) w1 =>
  NEW T.t_i_Problem #[.int .i64 0, .int .i64 0, .slice none 0 0, .slice none 0 0] w1 fun (px2 : Addr) w2 =>
  LD [.int .i64, .int .i64, .sl, .sl] p_p w2 fun (x5_0 : Int) (x5_1 : Int) (x5_2 : Sl) (x5_3 : Sl) =>
  Calls Tryz.prog F.s_prGood #[.agg #[.int .i64 x5_0, .int .i64 x5_1, x5_2.v, x5_3.v]] w2 (Ret [.at .bool] fun (x6 : Bool) w3 =>
  cond (!x6) (
  ST px2 0 [.int .i64 0, .int .i64 0, .slice none 0 0, .slice none 0 0] w3 fun w4 =>
  LD [.int .i64, .int .i64, .sl, .sl] px2 w4 fun (r0_0 : Int) (r0_1 : Int) (r0_2 : Sl) (r0_3 : Sl) =>
  Q r0_0 r0_1 r0_2 r0_3 (⟨none, 0, 0⟩) false w4) (
  LD [.int .i64, .int .i64, .sl, .sl] p_p w3 fun (x9_0 : Int) (x9_1 : Int) (x9_2 : Sl) (x9_3 : Sl) =>
  Calls Tryz.prog F.s_elNode #[.agg #[.int .i64 x9_0, .int .i64 x9_1, x9_2.v, x9_3.v]] w3 (Ret [.agg [.int .i64, .int .i64, .sl, .sl], .at .sl, .at .bool] fun (x10_0_0 : Int) (x10_0_1 : Int) (x10_0_2 : Sl) (x10_0_3 : Sl) (x10_1 : Sl) (x10_2 : Bool) w5 =>
  ST px2 0 [.int .i64 x10_0_0, .int .i64 x10_0_1, x10_0_2.v, x10_0_3.v] w5 fun w6 =>
  LD [.int .i64, .int .i64, .sl, .sl] px2 w6 fun (r0_0_2 : Int) (r0_1_2 : Int) (r0_2_2 : Sl) (r0_3_2 : Sl) =>
  Q r0_0_2 r0_1_2 r0_2_2 r0_3_2 x10_1 x10_2 w6)))

theorem C_s_NodeStep {Q : Int → Int → Sl → Sl → Sl → Bool → World → Prop} {p_0 : Int} {p_1 : Int} {p_2 : Sl} {p_3 : Sl} {w : World} (h : V_s_NodeStep Q p_0 p_1 p_2 p_3 w) : Calls Tryz.prog F.s_NodeStep #[.agg #[.int .i64 p_0, .int .i64 p_1, p_2.v, p_3.v]] w (Ret [.agg [.int .i64, .int .i64, .sl, .sl], .at .sl, .at .bool] Q) :=
  mkC (hint := hint) (ann := annOf []) (args := [.agg #[.int .i64 p_0, .int .i64 p_1, p_2.v, p_3.v]]) (rs := [.agg [.int .i64, .int .i64, .sl, .sl], .at .sl, .at .bool]) Tryz.func93 (by kernel_rfl) (by kernel_rfl) h

def V_s_elStubless (Q : Bool → World → Prop) (n_0 : Sl) (n_1 : Sl) (n_2 : Sl) (w : World) : Prop :=
  NEW T.t_i_Network #[n_0.v, n_1.v, n_2.v] w fun (p_n : Addr) w1 =>
  LD [.sl] (p_n.add 0) w1 fun (x8 : Sl) =>
  ∃ (I2 : Int → World → Prop) (m2 : Int → World → Nat), I2 0 w1 ∧ ∀ (x10 : Int) w2, I2 x10 w2 → ∀ _ _ _ _ _ _ _ _ _ _ _ _ _ _ _ _ _ _ _ _ _ _ _ : Value,
  cond (decide ((x10 : Int) < x8.len)) (
  IX x8 x10 1 fun (px13 : Addr) =>
  LD [.sl] px13 w2 fun (x14 : Sl) =>
  ∃ (I5 : Int → World → Prop) (m5 : Int → World → Nat), I5 0 w2 ∧ ∀ (x17 : Int) w3, I5 x17 w3 → ∀ _ _ _ _ _ _ _ _ _ _ _ _ _ : Value,
  cond (decide ((x17 : Int) < x14.len)) (
  IX x14 x17 2 fun (px20 : Addr) =>
  LD [.int .i64, .int .i64] px20 w3 fun (x21_0 : Int) (x21_1 : Int) =>
  NEW T.t_i_End #[.int .i64 0, .int .i64 0] w3 fun (p_e : Addr) w4 =>
  ST p_e 0 [.int .i64 x21_0, .int .i64 x21_1] w4 fun w5 =>
  LD [.int .i64, .int .i64] p_e w5 fun (x22_0 : Int) (x22_1 : Int) =>
  AEQ Tryz.prog (do eqGuard .eql T.t_i_End (.tmp 22) (.tmp 25) (.agg #[.int .i64 x22_0, .int .i64 x22_1]) (.agg #[.int .i64 x10, .int .i64 x17]); binOp .eql T.t_i_End (.agg #[.int .i64 x22_0, .int .i64 x22_1]) (.agg #[.int .i64 x10, .int .i64 x17])) fun (x26 : Bool) =>
  cond x26 (
  Q false w5) (
  I5 (IntKind.i64.wrap (x17 + 1)) w5 ∧ m5 (IntKind.i64.wrap (x17 + 1)) w5 < m5 x17 w3)) (
  I2 (IntKind.i64.wrap (x10 + 1)) w3 ∧ m2 (IntKind.i64.wrap (x10 + 1)) w3 < m2 x10 w2)) (
  Q true w2)

theorem C_s_elStubless {Q : Bool → World → Prop} {n_0 : Sl} {n_1 : Sl} {n_2 : Sl} {w : World} (h : V_s_elStubless Q n_0 n_1 n_2 w) : Calls Tryz.prog F.s_elStubless #[.agg #[n_0.v, n_1.v, n_2.v]] w (Ret [.at .bool] Q) :=
  mkC (hint := hint) (ann := annOf [(2, ⟨[(10, .int .i64)], [2, 3, 4, 5, 6, 11, 12, 13, 14, 15, 16, 17, 18, 19, 20, 21, 22, 23, 24, 25, 26, 27, 28]⟩), (5, ⟨[(17, .int .i64)], [2, 5, 6, 18, 19, 20, 21, 22, 23, 24, 25, 26, 27]⟩)]) (args := [.agg #[n_0.v, n_1.v, n_2.v]]) (rs := [.at .bool]) Tryz.func94 (by kernel_rfl) (by kernel_rfl) h

def V_s_elPullNode (Q : Sl → World → Prop) (x0_0 : Int) (x0_1 : Int) (x0_2 : Sl) (x0_3 : Sl) (x1 : Sl) (x2_0 : Sl) (x2_1 : Sl) (x2_2 : Sl) (x3 : Sl) (w : World) : Prop :=
  NEW T.t_i_Problem #[.int .i64 x0_0, .int .i64 x0_1, x0_2.v, x0_3.v] w fun (px4 : Addr) w1 =>
  NEW T.t_i_Network #[x2_0.v, x2_1.v, x2_2.v] w1 fun (px6 : Addr) w2 =>
  ∃ (I3 : Sl → Int → World → Prop) (m3 : Sl → Int → World → Nat), I3 (⟨none, 0, 0⟩) 0 w2 ∧ ∀ (x9 : Sl) (x18 : Int) w3, I3 x9 x18 w3 → ∀ _ _ _ _ _ _ _ _ _ _ _ : Value,
  cond (decide ((x18 : Int) < x3.len)) (
  IX x3 x18 1 fun (px20 : Addr) =>
  LD [.sl] px20 w3 fun (x21 : Sl) =>
  RUN Tryz.prog (.at .sl) (Instr.makeSlice T.t_sl_int (.int .i64 x21.len) (.int .i64 x21.len)) w3 fun (x25 : Sl) w4 =>
  RUN Tryz.prog (.at .sl) (Instr.buildSlice T.t_sl_sl_int 1 #[(0, x25.v)]) w4 fun (x26 : Sl) w5 =>
  RUN Tryz.prog (.at .sl) (bsem .append #[T.t_sl_sl_int, T.t_sl_sl_int] T.t_sl_sl_int #[x9.v, x26.v]) w5 fun (x27 : Sl) w6 =>
  I3 x27 (IntKind.i64.wrap (x18 + 1)) w6 ∧ m3 x27 (IntKind.i64.wrap (x18 + 1)) w6 < m3 x9 x18 w3) (
  LD [.sl, .sl, .sl] px6 w3 fun (x29_0 : Sl) (x29_1 : Sl) (x29_2 : Sl) =>
  Calls Tryz.prog F.s_neEdges #[.agg #[x29_0.v, x29_1.v, x29_2.v]] w3 (Ret [.at .sl] fun (x30 : Sl) w7 =>
  ∃ (I8 : Int → World → Prop) (m8 : Int → World → Nat), I8 0 w7 ∧ ∀ (x32 : Int) w8, I8 x32 w8 → ∀ _ _ _ _ _ _ _ _ _ _ _ _ _ _ _ _ _ _ _ _ _ _ _ _ _ _ _ _ _ _ _ _ _ _ _ _ _ _ _ _ _ _ _ _ _ _ _ _ _ _ _ _ _ _ _ _ _ _ _ _ _ _ _ _ _ _ _ _ : Value,
  cond (decide ((x32 : Int) < x30.len)) (
  IX x30 x32 1 fun (px34 : Addr) =>
  LD [.sl] px34 w8 fun (x35 : Sl) =>
  ∀ w9, Ext w8 w9 → w9.heap = w8.heap →
  LD [.sl] (px4.add 3) w9 fun (x38 : Sl) =>
  IX x35 0 1 fun (px42 : Addr) =>
  LD [.int .i64] px42 w9 fun (x43 : Int) =>
  IX x3 x43 1 fun (px44 : Addr) =>
  LD [.sl] px44 w9 fun (x45 : Sl) =>
  IX x35 1 1 fun (px47 : Addr) =>
  LD [.int .i64] px47 w9 fun (x48 : Int) =>
  IX x45 x48 1 fun (px49 : Addr) =>
  LD [.int .i64] px49 w9 fun (x50 : Int) =>
  IX x1 x50 1 fun (px51 : Addr) =>
  LD [.int .i64] px51 w9 fun (x52 : Int) =>
  IX x35 2 1 fun (px56 : Addr) =>
  LD [.int .i64] px56 w9 fun (x57 : Int) =>
  IX x3 x57 1 fun (px58 : Addr) =>
  LD [.sl] px58 w9 fun (x59 : Sl) =>
  Ext w9 w9 ∧ (
  IX x35 3 1 fun (px61 : Addr) =>
  Ext w9 w9 ∧ (
  LD [.int .i64] px61 w9 fun (x62 : Int) =>
  Ext w9 w9 ∧ (
  IX x59 x62 1 fun (px63 : Addr) =>
  Ext w9 w9 ∧ (
  LD [.int .i64] px63 w9 fun (x64 : Int) =>
  Ext w9 w9 ∧ (
  IX x1 x64 1 fun (px65 : Addr) =>
  Ext w9 w9 ∧ (
  LD [.int .i64] px65 w9 fun (x66 : Int) =>
  Ext w9 w9 ∧ (
  RUN Tryz.prog (.at .sl) (Instr.buildSlice T.t_sl_int 2 #[(0, .int .i64 x52), (1, .int .i64 x66)]) w9 fun (x67 : Sl) w10 =>
  Ext w9 w10 ∧ (
  Calls Tryz.prog F.s_elChoice #[x38.v, x67.v, .slice none 0 0] w10 (Ret [.at .sl, .at .bool] fun (x68_0 : Sl) (x68_1 : Bool) w11 =>
  Ext w9 w11 ∧ (
  Ext w9 w11 ∧ (
  Ext w9 w11 ∧ (
  ∀ w12, Ext w11 w12 → w12.heap = w11.heap → ∃ (D12 : Nat → Prop),
  IX x35 0 1 fun (px73 : Addr) =>
  ¬ D12 px73.block ∧ (
  LD [.int .i64] px73 w12 fun (x74 : Int) =>
  IX x9 x74 1 fun (px75 : Addr) =>
  ¬ D12 px75.block ∧ (
  LD [.sl] px75 w12 fun (x76 : Sl) =>
  IX x35 1 1 fun (px78 : Addr) =>
  ¬ D12 px78.block ∧ (
  LD [.int .i64] px78 w12 fun (x79 : Int) =>
  Chg w12 w12 D12 ∧ (
  IX x68_0 0 1 fun (px81 : Addr) =>
  Chg w12 w12 D12 ∧ (
  LD [.int .i64] px81 w12 fun (x82 : Int) =>
  Chg w12 w12 D12 ∧ (
  IX x76 x79 1 fun (px83 : Addr) =>
  ST px83 0 [.int .i64 x82] w12 fun w13 =>
  ∀ w14, Ext w13 w14 → w14.heap = w13.heap → ∃ (D14 : Nat → Prop),
  IX x35 2 1 fun (px86 : Addr) =>
  ¬ D14 px86.block ∧ (
  LD [.int .i64] px86 w14 fun (x87 : Int) =>
  IX x9 x87 1 fun (px88 : Addr) =>
  ¬ D14 px88.block ∧ (
  LD [.sl] px88 w14 fun (x89 : Sl) =>
  IX x35 3 1 fun (px91 : Addr) =>
  ¬ D14 px91.block ∧ (
  LD [.int .i64] px91 w14 fun (x92 : Int) =>
  Chg w14 w14 D14 ∧ (
  IX x68_0 1 1 fun (px94 : Addr) =>
  Chg w14 w14 D14 ∧ (
  LD [.int .i64] px94 w14 fun (x95 : Int) =>
  Chg w14 w14 D14 ∧ (
  IX x89 x92 1 fun (px96 : Addr) =>
  ST px96 0 [.int .i64 x95] w14 fun w15 =>
  I8 (IntKind.i64.wrap (x32 + 1)) w15 ∧ m8 (IntKind.i64.wrap (x32 + 1)) w15 < m8 x32 w8))))))))))))))))))))))))) (
  Q x9 w8)))

theorem C_s_elPullNode {Q : Sl → World → Prop} {x0_0 : Int} {x0_1 : Int} {x0_2 : Sl} {x0_3 : Sl} {x1 : Sl} {x2_0 : Sl} {x2_1 : Sl} {x2_2 : Sl} {x3 : Sl} {w : World} (h : V_s_elPullNode Q x0_0 x0_1 x0_2 x0_3 x1 x2_0 x2_1 x2_2 x3 w) : Calls Tryz.prog F.s_elPullNode #[.agg #[.int .i64 x0_0, .int .i64 x0_1, x0_2.v, x0_3.v], x1.v, .agg #[x2_0.v, x2_1.v, x2_2.v], x3.v] w (Ret [.at .sl] Q) :=
  mkC (hint := hint) (ann := annOf [(3, ⟨[(9, .sl), (18, .int .i64)], [11, 19, 20, 21, 22, 23, 24, 25, 26, 27, 28]⟩), (8, ⟨[(32, .int .i64)], [13, 14, 15, 33, 34, 35, 36, 37, 38, 39, 40, 41, 42, 43, 44, 45, 46, 47, 48, 49, 50, 51, 52, 53, 54, 55, 56, 57, 58, 59, 60, 61, 62, 63, 64, 65, 66, 67, 68, 69, 70, 71, 72, 73, 74, 75, 76, 77, 78, 79, 80, 81, 82, 83, 84, 85, 86, 87, 88, 89, 90, 91, 92, 93, 94, 95, 96, 97]⟩)]) (args := [.agg #[.int .i64 x0_0, .int .i64 x0_1, x0_2.v, x0_3.v], x1.v, .agg #[x2_0.v, x2_1.v, x2_2.v], x3.v]) (rs := [.at .sl]) Tryz.func95 (by kernel_rfl) (by kernel_rfl) h

def V_i_NodeStep (Q : Int → Int → Sl → Sl → Sl → Bool → World → Prop) (p_0 : Int) (p_1 : Int) (p_2 : Sl) (p_3 : Sl) (w : World) : Prop :=
  NEW T.t_i_Problem #[.int .i64 p_0, .int .i64 p_1, p_2.v, p_3.v] w fun (p_p : Addr) w1 =>
  NEW T.t_i_Problem #[.int .i64 0, .int .i64 0, .slice none 0 0, .slice none 0 0] w1 fun (px2 : Addr) w2 =>
  LD [.int .i64, .int .i64, .sl, .sl] p_p w2 fun (x5_0 : Int) (x5_1 : Int) (x5_2 : Sl) (x5_3 : Sl) =>
  Calls Tryz.prog F.i_IsProblem #[.agg #[.int .i64 x5_0, .int .i64 x5_1, x5_2.v, x5_3.v]] w2 (Ret [.at .bool] fun (x6 : Bool) w3 =>
  cond (!x6) (
  ST px2 0 [.int .i64 0, .int .i64 0, .slice none 0 0, .slice none 0 0] w3 fun w4 =>
  LD [.int .i64, .int .i64, .sl, .sl] px2 w4 fun (r0_0 : Int) (r0_1 : Int) (r0_2 : Sl) (r0_3 : Sl) =>
  Q r0_0 r0_1 r0_2 r0_3 (⟨none, 0, 0⟩) false w4) (
  LD [.int .i64, .int .i64, .sl, .sl] p_p w3 fun (x9_0 : Int) (x9_1 : Int) (x9_2 : Sl) (x9_3 : Sl) =>
  Calls Tryz.prog F.i_nodeStep #[.agg #[.int .i64 x9_0, .int .i64 x9_1, x9_2.v, x9_3.v]] w3 (Ret [.agg [.int .i64, .int .i64, .sl, .sl], .at .sl, .at .bool] fun (x10_0_0 : Int) (x10_0_1 : Int) (x10_0_2 : Sl) (x10_0_3 : Sl) (x10_1 : Sl) (x10_2 : Bool) w5 =>
  ST px2 0 [.int .i64 x10_0_0, .int .i64 x10_0_1, x10_0_2.v, x10_0_3.v] w5 fun w6 =>
  LD [.int .i64, .int .i64, .sl, .sl] px2 w6 fun (r0_0_2 : Int) (r0_1_2 : Int) (r0_2_2 : Sl) (r0_3_2 : Sl) =>
  Q r0_0_2 r0_1_2 r0_2_2 r0_3_2 x10_1 x10_2 w6)))

theorem C_i_NodeStep {Q : Int → Int → Sl → Sl → Sl → Bool → World → Prop} {p_0 : Int} {p_1 : Int} {p_2 : Sl} {p_3 : Sl} {w : World} (h : V_i_NodeStep Q p_0 p_1 p_2 p_3 w) : Calls Tryz.prog F.i_NodeStep #[.agg #[.int .i64 p_0, .int .i64 p_1, p_2.v, p_3.v]] w (Ret [.agg [.int .i64, .int .i64, .sl, .sl], .at .sl, .at .bool] Q) :=
  mkC (hint := hint) (ann := annOf []) (args := [.agg #[.int .i64 p_0, .int .i64 p_1, p_2.v, p_3.v]]) (rs := [.agg [.int .i64, .int .i64, .sl, .sl], .at .sl, .at .bool]) Tryz.func96 (by kernel_rfl) (by kernel_rfl) h

def V_slices_ContainsFunc_sl_i_edge_i_edge (Q : Bool → World → Prop) (s : Sl) (f : Value) (w : World) : Prop :=
  Calls Tryz.prog F.slices_IndexFunc_sl_i_edge_i_edge #[s.v, f] w (Ret [.at (.int .i64)] fun (x7 : Int) w1 =>
  Q (decide ((x7 : Int) ≥ 0)) w1)

theorem C_slices_ContainsFunc_sl_i_edge_i_edge {Q : Bool → World → Prop} {s : Sl} {f : Value} {w : World} (h : V_slices_ContainsFunc_sl_i_edge_i_edge Q s f w) : Calls Tryz.prog F.slices_ContainsFunc_sl_i_edge_i_edge #[s.v, f] w (Ret [.at .bool] Q) :=
  mkC (hint := hint) (ann := annOf []) (args := [s.v, f]) (rs := [.at .bool]) Tryz.func97 (by kernel_rfl) (by kernel_rfl) h

def V_i_Network_edges_k5 (I6 : Sl → Int → World → Prop) (m6 : Sl → Int → World → Nat) (out_2 : Sl) (x18 : Int) (w3 : World) (out_3 : Sl) (w10 : World) : Prop :=
  I6 out_3 (IntKind.i64.wrap (x18 + 1)) w10 ∧ m6 out_3 (IntKind.i64.wrap (x18 + 1)) w10 < m6 out_2 x18 w3

def V_i_Network_edges (Q : Sl → World → Prop) (n_0 : Sl) (n_1 : Sl) (n_2 : Sl) (w : World) : Prop :=
  NEW T.t_i_Network #[n_0.v, n_1.v, n_2.v] w fun (p_n : Addr) w1 =>
  LD [.sl] (p_n.add 0) w1 fun (x9 : Sl) =>
  ∃ (I3 : Sl → Int → World → Prop) (m3 : Sl → Int → World → Nat), I3 (⟨none, 0, 0⟩) 0 w1 ∧ ∀ (out : Sl) (x11 : Int) w2, I3 out x11 w2 → ∀ _ _ _ _ _ _ _ _ _ _ _ _ _ _ _ _ _ _ _ _ _ _ _ _ _ _ _ _ _ _ _ _ _ _ _ _ _ _ _ _ _ _ _ : Value,
  cond (decide ((x11 : Int) < x9.len)) (
  IX x9 x11 1 fun (px14 : Addr) =>
  LD [.sl] px14 w2 fun (x15 : Sl) =>
  ∃ (I6 : Sl → Int → World → Prop) (m6 : Sl → Int → World → Nat), I6 out 0 w2 ∧ ∀ (out_2 : Sl) (x18 : Int) w3, I6 out_2 x18 w3 → ∀ _ _ _ _ _ _ _ _ _ _ _ _ _ _ _ _ _ _ _ _ _ _ _ _ _ _ _ _ _ _ _ _ _ : Value,
  cond (decide ((x18 : Int) < x15.len)) (
  IX x15 x18 2 fun (px21 : Addr) =>
  LD [.int .i64, .int .i64] px21 w3 fun (x22_0 : Int) (x22_1 : Int) =>
  NEW T.t_i_End #[.int .i64 0, .int .i64 0] w3 fun (p_e : Addr) w4 =>
  ST p_e 0 [.int .i64 x22_0, .int .i64 x22_1] w4 fun w5 =>
  LD [.int .i64] (p_e.add 0) w5 fun (x25 : Int) =>
  cond (decide ((x11 : Int) < x25)) (
  LD [.int .i64] (p_e.add 0) w5 fun (x43 : Int) =>
  LD [.int .i64] (p_e.add 1) w5 fun (x45 : Int) =>
  RUN Tryz.prog (.at .sl) (Instr.buildSlice T.t_sl_i_edge 1 #[(0, .agg #[.int .i64 x11, .int .i64 x18, .int .i64 x43, .int .i64 x45])]) w5 fun (x47 : Sl) w6 =>
  RUN Tryz.prog (.at .sl) (bsem .append #[T.t_sl_i_edge, T.t_sl_i_edge] T.t_sl_i_edge #[out_2.v, x47.v]) w6 fun (x48 : Sl) w7 =>
  V_i_Network_edges_k5 I6 m6 out_2 x18 w3 x48 w7) (
  LD [.int .i64] (p_e.add 0) w5 fun (x30 : Int) =>
  cond ((x11 : Int) == x30) (
  LD [.int .i64] (p_e.add 1) w5 fun (x35 : Int) =>
  cond (decide ((x18 : Int) ≤ x35)) (
  LD [.int .i64] (p_e.add 0) w5 fun (x43_2 : Int) =>
  LD [.int .i64] (p_e.add 1) w5 fun (x45_2 : Int) =>
  RUN Tryz.prog (.at .sl) (Instr.buildSlice T.t_sl_i_edge 1 #[(0, .agg #[.int .i64 x11, .int .i64 x18, .int .i64 x43_2, .int .i64 x45_2])]) w5 fun (x47_2 : Sl) w8 =>
  RUN Tryz.prog (.at .sl) (bsem .append #[T.t_sl_i_edge, T.t_sl_i_edge] T.t_sl_i_edge #[out_2.v, x47_2.v]) w8 fun (x48_2 : Sl) w9 =>
  V_i_Network_edges_k5 I6 m6 out_2 x18 w3 x48_2 w9) (
  V_i_Network_edges_k5 I6 m6 out_2 x18 w3 out_2 w5)) (
  V_i_Network_edges_k5 I6 m6 out_2 x18 w3 out_2 w5))) (
  I3 out_2 (IntKind.i64.wrap (x11 + 1)) w3 ∧ m3 out_2 (IntKind.i64.wrap (x11 + 1)) w3 < m3 out x11 w2)) (
  Q out w2)

theorem C_i_Network_edges {Q : Sl → World → Prop} {n_0 : Sl} {n_1 : Sl} {n_2 : Sl} {w : World} (h : V_i_Network_edges Q n_0 n_1 n_2 w) : Calls Tryz.prog F.i_Network_edges #[.agg #[n_0.v, n_1.v, n_2.v]] w (Ret [.at .sl] Q) :=
  mkC (hint := hint) (ann := annOf [(3, ⟨[(3, .sl), (11, .int .i64)], [4, 5, 6, 7, 12, 13, 14, 15, 16, 17, 18, 19, 20, 21, 22, 23, 24, 25, 26, 27, 28, 29, 30, 31, 32, 33, 34, 35, 36, 37, 38, 39, 40, 41, 42, 43, 44, 45, 46, 47, 48, 49, 50]⟩), (6, ⟨[(3, .sl), (18, .int .i64)], [6, 7, 19, 20, 21, 22, 23, 24, 25, 26, 27, 28, 29, 30, 31, 32, 33, 34, 35, 36, 37, 38, 39, 40, 41, 42, 43, 44, 45, 46, 47, 48, 49]⟩)]) (args := [.agg #[n_0.v, n_1.v, n_2.v]]) (rs := [.at .sl]) Tryz.func98 (by kernel_rfl) (by kernel_rfl) h

def V_i_edge_stub (Q : Bool → World → Prop) (e_0 : Int) (e_1 : Int) (e_2 : Int) (e_3 : Int) (w : World) : Prop :=
  NEW T.t_i_edge #[.int .i64 e_0, .int .i64 e_1, .int .i64 e_2, .int .i64 e_3] w fun (p_e : Addr) w1 =>
  LD [.int .i64] (p_e.add 0) w1 fun (x4 : Int) =>
  LD [.int .i64] (p_e.add 2) w1 fun (x6 : Int) =>
  cond ((x4 : Int) == x6) (
  LD [.int .i64] (p_e.add 1) w1 fun (x10 : Int) =>
  LD [.int .i64] (p_e.add 3) w1 fun (x12 : Int) =>
  Q ((x10 : Int) == x12) w1) (
  Q false w1)

theorem C_i_edge_stub {Q : Bool → World → Prop} {e_0 : Int} {e_1 : Int} {e_2 : Int} {e_3 : Int} {w : World} (h : V_i_edge_stub Q e_0 e_1 e_2 e_3 w) : Calls Tryz.prog F.i_edge_stub #[.agg #[.int .i64 e_0, .int .i64 e_1, .int .i64 e_2, .int .i64 e_3]] w (Ret [.at .bool] Q) :=
  mkC (hint := hint) (ann := annOf []) (args := [.agg #[.int .i64 e_0, .int .i64 e_1, .int .i64 e_2, .int .i64 e_3]]) (rs := [.at .bool]) Tryz.func99 (by kernel_rfl) (by kernel_rfl) h

def V_i_copyLists (Q : Sl → World → Prop) (l : Sl) (w : World) : Prop :=
  RUN Tryz.prog (.at .sl) (Instr.makeSlice T.t_sl_sl_int (.int .i64 l.len) (.int .i64 l.len)) w fun (x7 : Sl) w1 =>
  ∃ (I3 : Int → World → Prop) (m3 : Int → World → Nat), I3 0 w1 ∧ ∀ (x10 : Int) w2, I3 x10 w2 → ∀ _ _ _ _ _ _ _ _ _ _ _ _ : Value,
  cond (decide ((x10 : Int) < l.len)) (
  IX l x10 1 fun (px17 : Addr) =>
  LD [.sl] px17 w2 fun (x18 : Sl) =>
  Calls Tryz.prog F.slices_Clone_sl_int_int #[x18.v] w2 (Ret [.at .sl] fun (x19 : Sl) w3 =>
  IX x7 x10 1 fun (px20 : Addr) =>
  ST px20 0 [x19.v] w3 fun w4 =>
  I3 (IntKind.i64.wrap (x10 + 1)) w4 ∧ m3 (IntKind.i64.wrap (x10 + 1)) w4 < m3 x10 w2)) (
  Q x7 w2)

theorem C_i_copyLists {Q : Sl → World → Prop} {l : Sl} {w : World} (h : V_i_copyLists Q l w) : Calls Tryz.prog F.i_copyLists #[l.v] w (Ret [.at .sl] Q) :=
  mkC (hint := hint) (ann := annOf [(3, ⟨[(10, .int .i64)], [4, 11, 12, 13, 14, 15, 16, 17, 18, 19, 20, 21]⟩)]) (args := [l.v]) (rs := [.at .sl]) Tryz.func100 (by kernel_rfl) (by kernel_rfl) h

def V_i_Problem_edgeChoice (Q : Sl → Bool → World → Prop) (p_0 : Int) (p_1 : Int) (p_2 : Sl) (p_3 : Sl) (lists : Sl) (w : World) : Prop :=
  NEW T.t_i_Problem #[.int .i64 p_0, .int .i64 p_1, p_2.v, p_3.v] w fun (p_p : Addr) w1 =>
  Calls Tryz.prog F.i_firstChoice #[lists.v, .func (.func F.i_Problem_edgeChoice_1) #[] #[.pointer (some p_p)]] w1 (Ret [.at .sl, .at .bool] fun (x8_0 : Sl) (x8_1 : Bool) w2 =>
  Q x8_0 x8_1 w2)

theorem C_i_Problem_edgeChoice {Q : Sl → Bool → World → Prop} {p_0 : Int} {p_1 : Int} {p_2 : Sl} {p_3 : Sl} {lists : Sl} {w : World} (h : V_i_Problem_edgeChoice Q p_0 p_1 p_2 p_3 lists w) : Calls Tryz.prog F.i_Problem_edgeChoice #[.agg #[.int .i64 p_0, .int .i64 p_1, p_2.v, p_3.v], lists.v] w (Ret [.at .sl, .at .bool] Q) :=
  mkC (hint := hint) (ann := annOf []) (args := [.agg #[.int .i64 p_0, .int .i64 p_1, p_2.v, p_3.v], lists.v]) (rs := [.at .sl, .at .bool]) Tryz.func101 (by kernel_rfl) (by kernel_rfl) h

def V_i_listsOf (Q : Sl → World → Prop) (sets : Sl) (numbers : Sl) (w : World) : Prop :=
  ∃ (I3 : Sl → Int → World → Prop) (m3 : Sl → Int → World → Nat), I3 (⟨none, 0, 0⟩) 0 w ∧ ∀ (out : Sl) (x10 : Int) w1, I3 out x10 w1 → ∀ _ _ _ _ _ _ _ _ _ _ _ _ _ : Value,
  cond (decide ((x10 : Int) < numbers.len)) (
  IX numbers x10 1 fun (px12 : Addr) =>
  LD [.int .i64] px12 w1 fun (x13 : Int) =>
  IX sets x13 1 fun (px17 : Addr) =>
  LD [.int .i64] px17 w1 fun (x18 : Int) =>
  Calls Tryz.prog F.i_labelsIn #[.int .i64 x18] w1 (Ret [.at .sl] fun (x19 : Sl) w2 =>
  RUN Tryz.prog (.at .sl) (Instr.buildSlice T.t_sl_sl_int 1 #[(0, x19.v)]) w2 fun (x20 : Sl) w3 =>
  RUN Tryz.prog (.at .sl) (bsem .append #[T.t_sl_sl_int, T.t_sl_sl_int] T.t_sl_sl_int #[out.v, x20.v]) w3 fun (x21 : Sl) w4 =>
  I3 x21 (IntKind.i64.wrap (x10 + 1)) w4 ∧ m3 x21 (IntKind.i64.wrap (x10 + 1)) w4 < m3 out x10 w1)) (
  Q out w1)

theorem C_i_listsOf {Q : Sl → World → Prop} {sets : Sl} {numbers : Sl} {w : World} (h : V_i_listsOf Q sets numbers w) : Calls Tryz.prog F.i_listsOf #[sets.v, numbers.v] w (Ret [.at .sl] Q) :=
  mkC (hint := hint) (ann := annOf [(3, ⟨[(5, .sl), (10, .int .i64)], [7, 11, 12, 13, 14, 15, 16, 17, 18, 19, 20, 21, 22]⟩)]) (args := [sets.v, numbers.v]) (rs := [.at .sl]) Tryz.func102 (by kernel_rfl) (by kernel_rfl) h

def V_s_l1In (Q : Bool → World → Prop) (n : Int) (lo : Int) (hi : Int) (w : World) : Prop :=
  cond (decide ((n : Int) ≥ lo)) (
  Q (decide ((n : Int) ≤ hi)) w) (
  Q false w)

theorem C_s_l1In {Q : Bool → World → Prop} {n : Int} {lo : Int} {hi : Int} {w : World} (h : V_s_l1In Q n lo hi w) : Calls Tryz.prog F.s_l1In #[.int .i64 n, .int .i64 lo, .int .i64 hi] w (Ret [.at .bool] Q) :=
  mkC (hint := hint) (ann := annOf []) (args := [.int .i64 n, .int .i64 lo, .int .i64 hi]) (rs := [.at .bool]) Tryz.func111 (by kernel_rfl) (by kernel_rfl) h

def V_i_within (Q : Bool → World → Prop) (n : Int) (low : Int) (high : Int) (w : World) : Prop :=
  cond (decide ((low : Int) ≤ n)) (
  Q (decide ((n : Int) ≤ high)) w) (
  Q false w)

theorem C_i_within {Q : Bool → World → Prop} {n : Int} {low : Int} {high : Int} {w : World} (h : V_i_within Q n low high w) : Calls Tryz.prog F.i_within #[.int .i64 n, .int .i64 low, .int .i64 high] w (Ret [.at .bool] Q) :=
  mkC (hint := hint) (ann := annOf []) (args := [.int .i64 n, .int .i64 low, .int .i64 high]) (rs := [.at .bool]) Tryz.func113 (by kernel_rfl) (by kernel_rfl) h

end Go.Proofs.YtlmiookpmneicaaGreat
end

section
/- What each function's code computes to. Printed by a program. -/
namespace Go.Proofs.YtlmiookpmneicaaGreat
open Go.GX Go.RowKit
set_option linter.unusedVariables false
set_option maxRecDepth 100000

def V_l_szEndS (Q : Int → World → Prop) (a : Sl) (left : Int) (w : World) : Prop :=
  cond (decide (((IntKind.i64.wrap (left - a.len)) : Int) < 0)) (
  Q (-1) w) (
  Q (IntKind.i64.wrap (left - a.len)) w)

theorem C_l_szEndS {Q : Int → World → Prop} {a : Sl} {left : Int} {w : World} (h : V_l_szEndS Q a left w) : Calls Tryz.prog F.l_szEndS #[a.v, .int .i64 left] w (Ret [.at (.int .i64)] Q) :=
  mkC (hint := hint) (ann := annOf []) (args := [a.v, .int .i64 left]) (rs := [.at (.int .i64)]) Tryz.func120 (by kernel_rfl) (by kernel_rfl) h

def V_s_prGood (Q : Bool → World → Prop) (p_0 : Int) (p_1 : Int) (p_2 : Sl) (p_3 : Sl) (w : World) : Prop :=
  NEW T.t_i_Problem #[.int .i64 p_0, .int .i64 p_1, p_2.v, p_3.v] w fun (p_p : Addr) w1 =>
  LD [.int .i64] (p_p.add 0) w1 fun (x4 : Int) =>
  Calls Tryz.prog F.s_l1In #[.int .i64 x4, .int .i64 1, .int .i64 8] w1 (Ret [.at .bool] fun (x5 : Bool) w2 =>
  cond x5 (
  LD [.int .i64] (p_p.add 1) w2 fun (x8 : Int) =>
  Calls Tryz.prog F.s_l1In #[.int .i64 x8, .int .i64 1, .int .i64 4] w2 (Ret [.at .bool] fun (x9 : Bool) w3 =>
  cond x9 (
  LD [.sl] (p_p.add 2) w3 fun (x13 : Sl) =>
  LD [.int .i64] (p_p.add 1) w3 fun (x15 : Int) =>
  LD [.int .i64] (p_p.add 0) w3 fun (x17 : Int) =>
  Calls Tryz.prog F.s_prLists #[x13.v, .int .i64 x15, .int .i64 x17] w3 (Ret [.at .bool] fun (x18 : Bool) w4 =>
  cond x18 (
  LD [.sl] (p_p.add 3) w4 fun (x22 : Sl) =>
  LD [.int .i64] (p_p.add 0) w4 fun (x24 : Int) =>
  Calls Tryz.prog F.s_prLists #[x22.v, .int .i64 2, .int .i64 x24] w4 (Ret [.at .bool] fun (x25 : Bool) w5 =>
  Q x25 w5)) (
  Q false w4))) (
  Q false w3))) (
  Q false w2))

theorem C_s_prGood {Q : Bool → World → Prop} {p_0 : Int} {p_1 : Int} {p_2 : Sl} {p_3 : Sl} {w : World} (h : V_s_prGood Q p_0 p_1 p_2 p_3 w) : Calls Tryz.prog F.s_prGood #[.agg #[.int .i64 p_0, .int .i64 p_1, p_2.v, p_3.v]] w (Ret [.at .bool] Q) :=
  mkC (hint := hint) (ann := annOf []) (args := [.agg #[.int .i64 p_0, .int .i64 p_1, p_2.v, p_3.v]]) (rs := [.at .bool]) Tryz.func121 (by kernel_rfl) (by kernel_rfl) h

def V_s_prNode (Q : Bool → World → Prop) (p_0 : Int) (p_1 : Int) (p_2 : Sl) (p_3 : Sl) (l : Sl) (w : World) : Prop :=
  NEW T.t_i_Problem #[.int .i64 p_0, .int .i64 p_1, p_2.v, p_3.v] w fun (p_p : Addr) w1 =>
  ∀ w2, Ext w1 w2 → w2.heap = w1.heap →
  LD [.sl] (p_p.add 2) w2 fun (x6 : Sl) =>
  Ext w2 w2 ∧ (
  Calls Tryz.prog F.s_prSorted #[l.v] w2 (Ret [.at .sl] fun (x8 : Sl) w3 =>
  Ext w2 w3 ∧ (
  Calls Tryz.prog F.s_prHas #[x6.v, x8.v] w3 (Ret [.at .bool] fun (x9 : Bool) w4 =>
  Ext w2 w4 ∧ (
  Q x9 w4)))))

theorem C_s_prNode {Q : Bool → World → Prop} {p_0 : Int} {p_1 : Int} {p_2 : Sl} {p_3 : Sl} {l : Sl} {w : World} (h : V_s_prNode Q p_0 p_1 p_2 p_3 l w) : Calls Tryz.prog F.s_prNode #[.agg #[.int .i64 p_0, .int .i64 p_1, p_2.v, p_3.v], l.v] w (Ret [.at .bool] Q) :=
  mkC (hint := hint) (ann := annOf []) (args := [.agg #[.int .i64 p_0, .int .i64 p_1, p_2.v, p_3.v], l.v]) (rs := [.at .bool]) Tryz.func122 (by kernel_rfl) (by kernel_rfl) h

def V_s_prEdge (Q : Bool → World → Prop) (p_0 : Int) (p_1 : Int) (p_2 : Sl) (p_3 : Sl) (a : Int) (b : Int) (w : World) : Prop :=
  NEW T.t_i_Problem #[.int .i64 p_0, .int .i64 p_1, p_2.v, p_3.v] w fun (p_p : Addr) w1 =>
  ∀ w2, Ext w1 w2 → w2.heap = w1.heap →
  LD [.sl] (p_p.add 3) w2 fun (x8 : Sl) =>
  Calls Tryz.prog F.s_l1Least #[.int .i64 a, .int .i64 b] w2 (Ret [.at (.int .i64)] fun (x11 : Int) w3 =>
  Ext w2 w3 ∧ (
  Calls Tryz.prog F.s_l1Most #[.int .i64 a, .int .i64 b] w3 (Ret [.at (.int .i64)] fun (x14 : Int) w4 =>
  Ext w2 w4 ∧ (
  RUN Tryz.prog (.at .sl) (Instr.buildSlice T.t_sl_int 2 #[(0, .int .i64 x11), (1, .int .i64 x14)]) w4 fun (x15 : Sl) w5 =>
  Ext w2 w5 ∧ (
  Calls Tryz.prog F.s_prHas #[x8.v, x15.v] w5 (Ret [.at .bool] fun (x16 : Bool) w6 =>
  Ext w2 w6 ∧ (
  Q x16 w6)))))))

theorem C_s_prEdge {Q : Bool → World → Prop} {p_0 : Int} {p_1 : Int} {p_2 : Sl} {p_3 : Sl} {a : Int} {b : Int} {w : World} (h : V_s_prEdge Q p_0 p_1 p_2 p_3 a b w) : Calls Tryz.prog F.s_prEdge #[.agg #[.int .i64 p_0, .int .i64 p_1, p_2.v, p_3.v], .int .i64 a, .int .i64 b] w (Ret [.at .bool] Q) :=
  mkC (hint := hint) (ann := annOf []) (args := [.agg #[.int .i64 p_0, .int .i64 p_1, p_2.v, p_3.v], .int .i64 a, .int .i64 b]) (rs := [.at .bool]) Tryz.func123 (by kernel_rfl) (by kernel_rfl) h

def V_s_neGood_k1 (Q : Bool → World → Prop) (px1 : Addr) (w5 : World) : Prop :=
  LD [.sl] (px1.add 0) w5 fun (x37 : Sl) =>
  ∃ (I4 : Int → World → Prop) (m4 : Int → World → Nat), I4 0 w5 ∧ ∀ (x39 : Int) w6, I4 x39 w6 → ∀ _ _ _ _ _ _ _ _ _ _ _ _ _ _ _ _ _ _ _ _ _ _ _ _ _ _ _ _ _ _ _ _ _ _ _ _ _ _ _ _ _ _ _ _ _ _ _ _ _ _ _ _ _ _ _ _ _ _ _ : Value,
  cond (decide ((x39 : Int) < x37.len)) (
  IX x37 x39 1 fun (px42 : Addr) =>
  LD [.sl] px42 w6 fun (x43 : Sl) =>
  cond (decide ((x43.len : Int) > 6)) (
  Q false w6) (
  ∃ (I9 : Int → World → Prop) (m9 : Int → World → Nat), I9 0 w6 ∧ ∀ (x49 : Int) w7, I9 x49 w7 → ∀ _ _ _ _ _ _ _ _ _ _ _ _ _ _ _ _ _ _ _ _ _ _ _ _ _ _ _ _ _ _ _ _ _ _ _ _ _ _ _ _ _ _ _ _ _ _ : Value,
  cond (decide ((x49 : Int) < x43.len)) (
  IX x43 x49 2 fun (px52 : Addr) =>
  LD [.int .i64, .int .i64] px52 w7 fun (x53_0 : Int) (x53_1 : Int) =>
  NEW T.t_i_End #[.int .i64 0, .int .i64 0] w7 fun (px6 : Addr) w8 =>
  ST px6 0 [.int .i64 x53_0, .int .i64 x53_1] w8 fun w9 =>
  LD [.int .i64] (px6.add 0) w9 fun (x55 : Int) =>
  LD [.sl] (px1.add 0) w9 fun (x57 : Sl) =>
  QCALL Tryz.prog F.s_l1In #[.int .i64 x55, .int .i64 0, .int .i64 (IntKind.i64.wrap (x57.len - 1))] w9 [.at .bool] fun (x60 : Bool) =>
  cond (!x60) (
  ∀ w10, Ext w9 w10 →
  Q false w10) (
  LD [.int .i64] (px6.add 1) w9 fun (x64 : Int) =>
  LD [.sl] (px1.add 0) w9 fun (x66 : Sl) =>
  LD [.int .i64] (px6.add 0) w9 fun (x68 : Int) =>
  IX x66 x68 1 fun (px69 : Addr) =>
  LD [.sl] px69 w9 fun (x70 : Sl) =>
  QCALL Tryz.prog F.s_l1In #[.int .i64 x64, .int .i64 0, .int .i64 (IntKind.i64.wrap (x70.len - 1))] w9 [.at .bool] fun (x73 : Bool) =>
  cond (!x73) (
  ∀ w11, Ext w9 w11 →
  Q false w11) (
  LD [.sl] (px1.add 0) w9 fun (x78 : Sl) =>
  LD [.int .i64] (px6.add 0) w9 fun (x80 : Int) =>
  IX x78 x80 1 fun (px81 : Addr) =>
  LD [.sl] px81 w9 fun (x82 : Sl) =>
  LD [.int .i64] (px6.add 1) w9 fun (x84 : Int) =>
  IX x82 x84 2 fun (px85 : Addr) =>
  LD [.int .i64, .int .i64] px85 w9 fun (x86_0 : Int) (x86_1 : Int) =>
  AEQ Tryz.prog (do eqGuard .neq T.t_i_End (.tmp 86) (.tmp 89) (.agg #[.int .i64 x86_0, .int .i64 x86_1]) (.agg #[.int .i64 x39, .int .i64 x49]); binOp .neq T.t_i_End (.agg #[.int .i64 x86_0, .int .i64 x86_1]) (.agg #[.int .i64 x39, .int .i64 x49])) fun (x90 : Bool) =>
  ∀ w12, Ext w9 w12 →
  cond x90 (
  Q false w12) (
  I9 (IntKind.i64.wrap (x49 + 1)) w12 ∧ m9 (IntKind.i64.wrap (x49 + 1)) w12 < m9 x49 w7)))) (
  I4 (IntKind.i64.wrap (x39 + 1)) w7 ∧ m4 (IntKind.i64.wrap (x39 + 1)) w7 < m4 x39 w6))) (
  Q true w6)

def V_s_neGood (Q : Bool → World → Prop) (x0_0 : Sl) (x0_1 : Sl) (x0_2 : Sl) (w : World) : Prop :=
  NEW T.t_i_Network #[x0_0.v, x0_1.v, x0_2.v] w fun (px1 : Addr) w1 =>
  LD [.sl] (px1.add 0) w1 fun (x8 : Sl) =>
  Calls Tryz.prog F.s_l1In #[.int .i64 x8.len, .int .i64 1, .int .i64 40] w1 (Ret [.at .bool] fun (x10 : Bool) w2 =>
  cond (!x10) (
  Q false w2) (
  LD [.sl] (px1.add 1) w2 fun (x14 : Sl) =>
  LD [.sl] (px1.add 0) w2 fun (x16 : Sl) =>
  Calls Tryz.prog F.s_neIds #[x14.v, .int .i64 x16.len] w2 (Ret [.at .bool] fun (x18 : Bool) w3 =>
  cond (!x18) (
  Q false w3) (
  LD [.sl] (px1.add 2) w3 fun (x23 : Sl) =>
  LD [.sl] (px1.add 0) w3 fun (x26 : Sl) =>
  cond ((x23.len : Int) != x26.len) (
  Q false w3) (
  LD [.sl] (px1.add 2) w3 fun (x32 : Sl) =>
  Calls Tryz.prog F.s_l1All #[x32.v, .int .i64 0, .int .i64 9] w3 (Ret [.at .bool] fun (x33 : Bool) w4 =>
  cond (!x33) (
  Q false w4) (
  V_s_neGood_k1 Q px1 w4)))))))

theorem C_s_neGood {Q : Bool → World → Prop} {x0_0 : Sl} {x0_1 : Sl} {x0_2 : Sl} {w : World} (h : V_s_neGood Q x0_0 x0_1 x0_2 w) : Calls Tryz.prog F.s_neGood #[.agg #[x0_0.v, x0_1.v, x0_2.v]] w (Ret [.at .bool] Q) :=
  mkC (hint := hint) (ann := annOf [(4, ⟨[(39, .int .i64)], [2, 3, 4, 5, 6, 40, 41, 42, 43, 44, 45, 46, 47, 48, 49, 50, 51, 52, 53, 54, 55, 56, 57, 58, 59, 60, 61, 62, 63, 64, 65, 66, 67, 68, 69, 70, 71, 72, 73, 74, 75, 76, 77, 78, 79, 80, 81, 82, 83, 84, 85, 86, 87, 88, 89, 90, 91, 92, 93]⟩), (9, ⟨[(49, .int .i64)], [2, 5, 6, 50, 51, 52, 53, 54, 55, 56, 57, 58, 59, 60, 61, 62, 63, 64, 65, 66, 67, 68, 69, 70, 71, 72, 73, 74, 75, 76, 77, 78, 79, 80, 81, 82, 83, 84, 85, 86, 87, 88, 89, 90, 91, 92]⟩)]) (args := [.agg #[x0_0.v, x0_1.v, x0_2.v]]) (rs := [.at .bool]) Tryz.func124 (by kernel_rfl) (by kernel_rfl) h

def V_s_prShape (Q : Bool → World → Prop) (p_0 : Int) (p_1 : Int) (p_2 : Sl) (p_3 : Sl) (n_0 : Sl) (n_1 : Sl) (n_2 : Sl) (l : Sl) (w : World) : Prop :=
  NEW T.t_i_Problem #[.int .i64 p_0, .int .i64 p_1, p_2.v, p_3.v] w fun (p_p : Addr) w1 =>
  NEW T.t_i_Network #[n_0.v, n_1.v, n_2.v] w1 fun (p_n : Addr) w2 =>
  LD [.sl] (p_n.add 0) w2 fun (x12 : Sl) =>
  cond ((l.len : Int) != x12.len) (
  Q false w2) (
  ∃ (I4 : Int → World → Prop) (m4 : Int → World → Nat), I4 0 w2 ∧ ∀ (x17 : Int) w3, I4 x17 w3 → ∀ _ _ _ _ _ _ _ _ _ _ _ _ _ _ _ _ _ _ _ _ _ _ _ _ _ : Value,
  cond (decide ((x17 : Int) < l.len)) (
  IX l x17 1 fun (px20 : Addr) =>
  LD [.sl] px20 w3 fun (x21 : Sl) =>
  LD [.sl] (p_n.add 0) w3 fun (x25 : Sl) =>
  IX x25 x17 1 fun (px27 : Addr) =>
  LD [.sl] px27 w3 fun (x28 : Sl) =>
  cond ((x21.len : Int) != x28.len) (
  Q false w3) (
  LD [.int .i64] (p_p.add 0) w3 fun (x34 : Int) =>
  Calls Tryz.prog F.s_l1All #[x21.v, .int .i64 0, .int .i64 (IntKind.i64.wrap (x34 - 1))] w3 (Ret [.at .bool] fun (x36 : Bool) w4 =>
  cond (!x36) (
  Q false w4) (
  I4 (IntKind.i64.wrap (x17 + 1)) w4 ∧ m4 (IntKind.i64.wrap (x17 + 1)) w4 < m4 x17 w3)))) (
  Q true w3))

theorem C_s_prShape {Q : Bool → World → Prop} {p_0 : Int} {p_1 : Int} {p_2 : Sl} {p_3 : Sl} {n_0 : Sl} {n_1 : Sl} {n_2 : Sl} {l : Sl} {w : World} (h : V_s_prShape Q p_0 p_1 p_2 p_3 n_0 n_1 n_2 l w) : Calls Tryz.prog F.s_prShape #[.agg #[.int .i64 p_0, .int .i64 p_1, p_2.v, p_3.v], .agg #[n_0.v, n_1.v, n_2.v], l.v] w (Ret [.at .bool] Q) :=
  mkC (hint := hint) (ann := annOf [(4, ⟨[(17, .int .i64)], [6, 7, 8, 18, 19, 20, 21, 22, 23, 24, 25, 26, 27, 28, 29, 30, 31, 32, 33, 34, 35, 36, 37, 38, 39]⟩)]) (args := [.agg #[.int .i64 p_0, .int .i64 p_1, p_2.v, p_3.v], .agg #[n_0.v, n_1.v, n_2.v], l.v]) (rs := [.at .bool]) Tryz.func125 (by kernel_rfl) (by kernel_rfl) h

def V_s_prFault_k4 (I2 : Int → World → Prop) (m2 : Int → World → Nat) (w3 : World) (x2 : Sl) (Q : Int → Int → World → Prop) (px3 : Addr) (px4 : Addr) (x15 : Int) (x19 : Sl) (w6 : World) : Prop :=
  ∃ (I7 : Int → World → Prop) (m7 : Int → World → Nat), I7 0 w6 ∧ ∀ (x37 : Int) w7, I7 x37 w7 → ∀ _ _ _ _ _ _ _ _ _ _ _ _ _ _ _ _ _ _ _ _ _ _ _ _ _ _ _ _ _ _ _ _ _ _ _ _ : Value,
  cond (decide ((x37 : Int) < x19.len)) (
  IX x19 x37 2 fun (px40 : Addr) =>
  LD [.int .i64, .int .i64] px40 w7 fun (x41_0 : Int) (x41_1 : Int) =>
  NEW T.t_i_End #[.int .i64 0, .int .i64 0] w7 fun (px11 : Addr) w8 =>
  ST px11 0 [.int .i64 x41_0, .int .i64 x41_1] w8 fun w9 =>
  LD [.sl, .sl, .sl] px4 w9 fun (x42_0 : Sl) (x42_1 : Sl) (x42_2 : Sl) =>
  QCALL Tryz.prog F.s_neFirst #[.agg #[x42_0.v, x42_1.v, x42_2.v], .int .i64 x15, .int .i64 x37] w9 [.at .bool] fun (x45 : Bool) =>
  cond x45 (
  LD [.int .i64, .int .i64, .sl, .sl] px3 w9 fun (x47_0 : Int) (x47_1 : Int) (x47_2 : Sl) (x47_3 : Sl) =>
  IX x2 x15 1 fun (px50 : Addr) =>
  LD [.sl] px50 w9 fun (x51 : Sl) =>
  IX x51 x37 1 fun (px53 : Addr) =>
  LD [.int .i64] px53 w9 fun (x54 : Int) =>
  LD [.int .i64] (px11.add 0) w9 fun (x57 : Int) =>
  IX x2 x57 1 fun (px58 : Addr) =>
  LD [.sl] px58 w9 fun (x59 : Sl) =>
  LD [.int .i64] (px11.add 1) w9 fun (x61 : Int) =>
  IX x59 x61 1 fun (px62 : Addr) =>
  LD [.int .i64] px62 w9 fun (x63 : Int) =>
  QCALL Tryz.prog F.s_prEdge #[.agg #[.int .i64 x47_0, .int .i64 x47_1, x47_2.v, x47_3.v], .int .i64 x54, .int .i64 x63] w9 [.at .bool] fun (x64 : Bool) =>
  ∀ w10, Ext w9 w10 →
  cond (!x64) (
  Q x15 x37 w10) (
  I7 (IntKind.i64.wrap (x37 + 1)) w10 ∧ m7 (IntKind.i64.wrap (x37 + 1)) w10 < m7 x37 w7)) (
  ∀ w11, Ext w9 w11 →
  I7 (IntKind.i64.wrap (x37 + 1)) w11 ∧ m7 (IntKind.i64.wrap (x37 + 1)) w11 < m7 x37 w7)) (
  I2 (IntKind.i64.wrap (x15 + 1)) w7 ∧ m2 (IntKind.i64.wrap (x15 + 1)) w7 < m2 x15 w3)

def V_s_prFault (Q : Int → Int → World → Prop) (x0_0 : Int) (x0_1 : Int) (x0_2 : Sl) (x0_3 : Sl) (x1_0 : Sl) (x1_1 : Sl) (x1_2 : Sl) (x2 : Sl) (w : World) : Prop :=
  NEW T.t_i_Problem #[.int .i64 x0_0, .int .i64 x0_1, x0_2.v, x0_3.v] w fun (px3 : Addr) w1 =>
  NEW T.t_i_Network #[x1_0.v, x1_1.v, x1_2.v] w1 fun (px4 : Addr) w2 =>
  LD [.sl] (px4.add 0) w2 fun (x13 : Sl) =>
  ∃ (I2 : Int → World → Prop) (m2 : Int → World → Nat), I2 0 w2 ∧ ∀ (x15 : Int) w3, I2 x15 w3 → ∀ _ _ _ _ _ _ _ _ _ _ _ _ _ _ _ _ _ _ _ _ _ _ _ _ _ _ _ _ _ _ _ _ _ _ _ _ _ _ _ _ _ _ _ _ _ _ _ _ _ _ _ _ _ _ _ _ _ _ _ _ _ : Value,
  cond (decide ((x15 : Int) < x13.len)) (
  IX x13 x15 1 fun (px18 : Addr) =>
  LD [.sl] px18 w3 fun (x19 : Sl) =>
  LD [.int .i64] (px3.add 1) w3 fun (x23 : Int) =>
  cond ((x19.len : Int) == x23) (
  LD [.int .i64, .int .i64, .sl, .sl] px3 w3 fun (x26_0 : Int) (x26_1 : Int) (x26_2 : Sl) (x26_3 : Sl) =>
  IX x2 x15 1 fun (px29 : Addr) =>
  LD [.sl] px29 w3 fun (x30 : Sl) =>
  QCALL Tryz.prog F.s_prNode #[.agg #[.int .i64 x26_0, .int .i64 x26_1, x26_2.v, x26_3.v], x30.v] w3 [.at .bool] fun (x31 : Bool) =>
  ∀ w4, Ext w3 w4 →
  cond (!x31) (
  Q x15 (-1) w4) (
  V_s_prFault_k4 I2 m2 w3 x2 Q px3 px4 x15 x19 w4)) (
  ∀ w5, Ext w3 w5 →
  V_s_prFault_k4 I2 m2 w3 x2 Q px3 px4 x15 x19 w5)) (
  Q (-1) (-1) w3)

theorem C_s_prFault {Q : Int → Int → World → Prop} {x0_0 : Int} {x0_1 : Int} {x0_2 : Sl} {x0_3 : Sl} {x1_0 : Sl} {x1_1 : Sl} {x1_2 : Sl} {x2 : Sl} {w : World} (h : V_s_prFault Q x0_0 x0_1 x0_2 x0_3 x1_0 x1_1 x1_2 x2 w) : Calls Tryz.prog F.s_prFault #[.agg #[.int .i64 x0_0, .int .i64 x0_1, x0_2.v, x0_3.v], .agg #[x1_0.v, x1_1.v, x1_2.v], x2.v] w (Ret [.at (.int .i64), .at (.int .i64)] Q) :=
  mkC (hint := hint) (ann := annOf [(2, ⟨[(15, .int .i64)], [6, 7, 8, 9, 10, 11, 16, 17, 18, 19, 20, 21, 22, 23, 24, 25, 26, 27, 28, 29, 30, 31, 32, 33, 34, 35, 36, 37, 38, 39, 40, 41, 42, 43, 44, 45, 46, 47, 48, 49, 50, 51, 52, 53, 54, 55, 56, 57, 58, 59, 60, 61, 62, 63, 64, 65, 66, 67, 68, 69, 70]⟩), (7, ⟨[(37, .int .i64)], [6, 7, 10, 11, 38, 39, 40, 41, 42, 43, 44, 45, 46, 47, 48, 49, 50, 51, 52, 53, 54, 55, 56, 57, 58, 59, 60, 61, 62, 63, 64, 65, 66, 67, 68, 69]⟩)]) (args := [.agg #[.int .i64 x0_0, .int .i64 x0_1, x0_2.v, x0_3.v], .agg #[x1_0.v, x1_1.v, x1_2.v], x2.v]) (rs := [.at (.int .i64), .at (.int .i64)]) Tryz.func126 (by kernel_rfl) (by kernel_rfl) h

def V_s_l1Same (Q : Bool → World → Prop) (a : Sl) (b : Sl) (w : World) : Prop :=
  cond ((a.len : Int) != b.len) (
  Q false w) (
  ∃ (I4 : Int → World → Prop) (m4 : Int → World → Nat), I4 0 w ∧ ∀ (x13 : Int) w1, I4 x13 w1 → ∀ _ _ _ _ _ _ _ _ _ _ _ _ _ _ : Value,
  cond (decide ((x13 : Int) < a.len)) (
  IX a x13 1 fun (px18 : Addr) =>
  LD [.int .i64] px18 w1 fun (x19 : Int) =>
  IX b x13 1 fun (px22 : Addr) =>
  LD [.int .i64] px22 w1 fun (x23 : Int) =>
  ∀ w2, Ext w1 w2 →
  cond ((x19 : Int) != x23) (
  Q false w2) (
  I4 (IntKind.i64.wrap (x13 + 1)) w2 ∧ m4 (IntKind.i64.wrap (x13 + 1)) w2 < m4 x13 w1)) (
  Q true w1))

theorem C_s_l1Same {Q : Bool → World → Prop} {a : Sl} {b : Sl} {w : World} (h : V_s_l1Same Q a b w) : Calls Tryz.prog F.s_l1Same #[a.v, b.v] w (Ret [.at .bool] Q) :=
  mkC (hint := hint) (ann := annOf [(4, ⟨[(13, .int .i64)], [4, 5, 14, 15, 16, 17, 18, 19, 20, 21, 22, 23, 24, 25]⟩)]) (args := [a.v, b.v]) (rs := [.at .bool]) Tryz.func127 (by kernel_rfl) (by kernel_rfl) h

def V_s_prSorted (Q : Sl → World → Prop) (l : Sl) (w : World) : Prop :=
  Calls Tryz.prog F.s_l1Own #[l.v] w (Ret [.at .sl] fun (x8 : Sl) w1 =>
  ∃ (I3 : Int → World → Prop) (m3 : Int → World → Nat), I3 0 w1 ∧ ∀ (x11 : Int) w2, I3 x11 w2 → ∀ _ _ _ _ _ _ _ _ _ _ _ _ _ _ _ _ _ _ _ _ _ _ _ _ _ _ _ _ _ _ _ _ _ _ _ _ _ _ _ _ : Value,
  cond (decide ((x11 : Int) < x8.len)) (
  ∃ (I6 : Int → World → Prop) (m6 : Int → World → Nat), I6 x11 w2 ∧ ∀ (k : Int) w3, I6 k w3 → ∀ _ _ _ _ _ _ _ _ _ _ _ _ _ _ _ _ _ _ _ _ _ _ _ _ _ _ _ _ _ _ _ _ _ _ : Value,
  cond (decide ((k : Int) > 0)) (
  IX x8 (IntKind.i64.wrap (k - 1)) 1 fun (px21 : Addr) =>
  LD [.int .i64] px21 w3 fun (x22 : Int) =>
  IX x8 k 1 fun (px25 : Addr) =>
  LD [.int .i64] px25 w3 fun (x26 : Int) =>
  ∀ w4, Ext w3 w4 →
  cond (decide ((x22 : Int) > x26)) (
  IX x8 k 1 fun (px33_2 : Addr) =>
  LD [.int .i64] px33_2 w4 fun (x34_2 : Int) =>
  IX x8 (IntKind.i64.wrap (k - 1)) 1 fun (px40_2 : Addr) =>
  LD [.int .i64] px40_2 w4 fun (x41_2 : Int) =>
  IX x8 k 1 fun (px42_2 : Addr) =>
  ST px42_2 0 [.int .i64 x41_2] w4 fun w8 =>
  IX x8 (IntKind.i64.wrap (k - 1)) 1 fun (px47_2 : Addr) =>
  ST px47_2 0 [.int .i64 x34_2] w8 fun w9 =>
  I6 (IntKind.i64.wrap (k - 1)) w9 ∧ m6 (IntKind.i64.wrap (k - 1)) w9 < m6 k w3) (
  I3 (IntKind.i64.wrap (x11 + 1)) w4 ∧ m3 (IntKind.i64.wrap (x11 + 1)) w4 < m3 x11 w2)) (
  ∀ w5, Ext w3 w5 →
  I3 (IntKind.i64.wrap (x11 + 1)) w5 ∧ m3 (IntKind.i64.wrap (x11 + 1)) w5 < m3 x11 w2)) (
  Q x8 w2))

theorem C_s_prSorted {Q : Sl → World → Prop} {l : Sl} {w : World} (h : V_s_prSorted Q l w) : Calls Tryz.prog F.s_prSorted #[l.v] w (Ret [.at .sl] Q) :=
  mkC (hint := hint) (ann := annOf [(3, ⟨[(11, .int .i64)], [4, 5, 6, 12, 13, 14, 15, 16, 17, 18, 19, 20, 21, 22, 23, 24, 25, 26, 27, 28, 29, 30, 31, 32, 33, 34, 35, 36, 37, 38, 39, 40, 41, 42, 43, 44, 45, 46, 47, 48]⟩), (6, ⟨[(5, .int .i64)], [6, 15, 16, 17, 18, 19, 20, 21, 22, 23, 24, 25, 26, 27, 28, 29, 30, 31, 32, 33, 34, 35, 36, 37, 38, 39, 40, 41, 42, 43, 44, 45, 46, 47]⟩)]) (args := [l.v]) (rs := [.at .sl]) Tryz.func128 (by kernel_rfl) (by kernel_rfl) h

def V_l_toEndS (Q : Sl → World → Prop) (a : Sl) (w : World) : Prop :=
  RUN Tryz.prog (.at .sl) (Instr.makeSlice T.t_sl_i_End (.int .i64 a.len) (.int .i64 a.len)) w fun (x7 : Sl) w1 =>
  ∃ (I3 : Int → World → Prop) (m3 : Int → World → Nat), I3 0 w1 ∧ ∀ (i : Int) w2, I3 i w2 → ∀ _ _ _ _ _ _ _ _ _ _ _ _ _ _ : Value,
  cond (decide ((i : Int) < a.len)) (
  IX a i 2 fun (px18 : Addr) =>
  LD [.int .i64, .int .i64] px18 w2 fun (x19_0 : Int) (x19_1 : Int) =>
  Calls Tryz.prog F.l_toEnd #[.agg #[.int .i64 x19_0, .int .i64 x19_1]] w2 (Ret [.agg [.int .i64, .int .i64]] fun (x20_0 : Int) (x20_1 : Int) w3 =>
  IX x7 i 2 fun (px21 : Addr) =>
  ST px21 0 [.int .i64 x20_0, .int .i64 x20_1] w3 fun w4 =>
  I3 (IntKind.i64.wrap (i + 1)) w4 ∧ m3 (IntKind.i64.wrap (i + 1)) w4 < m3 i w2)) (
  Q x7 w2)

theorem C_l_toEndS {Q : Sl → World → Prop} {a : Sl} {w : World} (h : V_l_toEndS Q a w) : Calls Tryz.prog F.l_toEndS #[a.v] w (Ret [.at .sl] Q) :=
  mkC (hint := hint) (ann := annOf [(3, ⟨[(4, .int .i64)], [8, 9, 10, 11, 12, 13, 14, 15, 16, 17, 18, 19, 20, 21]⟩)]) (args := [a.v]) (rs := [.at .sl]) Tryz.func129 (by kernel_rfl) (by kernel_rfl) h

def V_i_IsProblem (Q : Bool → World → Prop) (p_0 : Int) (p_1 : Int) (p_2 : Sl) (p_3 : Sl) (w : World) : Prop :=
  NEW T.t_i_Problem #[.int .i64 p_0, .int .i64 p_1, p_2.v, p_3.v] w fun (p_p : Addr) w1 =>
  LD [.int .i64] (p_p.add 0) w1 fun (x4 : Int) =>
  Calls Tryz.prog F.i_within #[.int .i64 x4, .int .i64 1, .int .i64 8] w1 (Ret [.at .bool] fun (x5 : Bool) w2 =>
  cond x5 (
  LD [.int .i64] (p_p.add 1) w2 fun (x8 : Int) =>
  Calls Tryz.prog F.i_within #[.int .i64 x8, .int .i64 1, .int .i64 4] w2 (Ret [.at .bool] fun (x9 : Bool) w3 =>
  cond x9 (
  LD [.sl] (p_p.add 2) w3 fun (x13 : Sl) =>
  LD [.int .i64] (p_p.add 1) w3 fun (x15 : Int) =>
  LD [.int .i64] (p_p.add 0) w3 fun (x17 : Int) =>
  Calls Tryz.prog F.i_configurationsOk #[x13.v, .int .i64 x15, .int .i64 x17] w3 (Ret [.at .bool] fun (x18 : Bool) w4 =>
  cond x18 (
  LD [.sl] (p_p.add 3) w4 fun (x22 : Sl) =>
  LD [.int .i64] (p_p.add 0) w4 fun (x24 : Int) =>
  Calls Tryz.prog F.i_configurationsOk #[x22.v, .int .i64 2, .int .i64 x24] w4 (Ret [.at .bool] fun (x25 : Bool) w5 =>
  Q x25 w5)) (
  Q false w4))) (
  Q false w3))) (
  Q false w2))

theorem C_i_IsProblem {Q : Bool → World → Prop} {p_0 : Int} {p_1 : Int} {p_2 : Sl} {p_3 : Sl} {w : World} (h : V_i_IsProblem Q p_0 p_1 p_2 p_3 w) : Calls Tryz.prog F.i_IsProblem #[.agg #[.int .i64 p_0, .int .i64 p_1, p_2.v, p_3.v]] w (Ret [.at .bool] Q) :=
  mkC (hint := hint) (ann := annOf []) (args := [.agg #[.int .i64 p_0, .int .i64 p_1, p_2.v, p_3.v]]) (rs := [.at .bool]) Tryz.func130 (by kernel_rfl) (by kernel_rfl) h

def V_i_Problem_hasLabels (Q : Bool → World → Prop) (p_0 : Int) (p_1 : Int) (p_2 : Sl) (p_3 : Sl) (labels : Sl) (w : World) : Prop :=
  NEW T.t_i_Problem #[.int .i64 p_0, .int .i64 p_1, p_2.v, p_3.v] w fun (p_p : Addr) w1 =>
  LD [.int .i64] (p_p.add 0) w1 fun (x7 : Int) =>
  Calls Tryz.prog F.i_allWithin #[labels.v, .int .i64 0, .int .i64 (IntKind.i64.wrap (x7 - 1))] w1 (Ret [.at .bool] fun (x9 : Bool) w2 =>
  Q x9 w2)

theorem C_i_Problem_hasLabels {Q : Bool → World → Prop} {p_0 : Int} {p_1 : Int} {p_2 : Sl} {p_3 : Sl} {labels : Sl} {w : World} (h : V_i_Problem_hasLabels Q p_0 p_1 p_2 p_3 labels w) : Calls Tryz.prog F.i_Problem_hasLabels #[.agg #[.int .i64 p_0, .int .i64 p_1, p_2.v, p_3.v], labels.v] w (Ret [.at .bool] Q) :=
  mkC (hint := hint) (ann := annOf []) (args := [.agg #[.int .i64 p_0, .int .i64 p_1, p_2.v, p_3.v], labels.v]) (rs := [.at .bool]) Tryz.func131 (by kernel_rfl) (by kernel_rfl) h

def V_i_Problem_node (Q : Bool → World → Prop) (p_0 : Int) (p_1 : Int) (p_2 : Sl) (p_3 : Sl) (labels : Sl) (w : World) : Prop :=
  NEW T.t_i_Problem #[.int .i64 p_0, .int .i64 p_1, p_2.v, p_3.v] w fun (p_p : Addr) w1 =>
  LD [.sl] (p_p.add 2) w1 fun (x6 : Sl) =>
  Calls Tryz.prog F.i_hasConfiguration #[x6.v, labels.v] w1 (Ret [.at .bool] fun (x8 : Bool) w2 =>
  Q x8 w2)

theorem C_i_Problem_node {Q : Bool → World → Prop} {p_0 : Int} {p_1 : Int} {p_2 : Sl} {p_3 : Sl} {labels : Sl} {w : World} (h : V_i_Problem_node Q p_0 p_1 p_2 p_3 labels w) : Calls Tryz.prog F.i_Problem_node #[.agg #[.int .i64 p_0, .int .i64 p_1, p_2.v, p_3.v], labels.v] w (Ret [.at .bool] Q) :=
  mkC (hint := hint) (ann := annOf []) (args := [.agg #[.int .i64 p_0, .int .i64 p_1, p_2.v, p_3.v], labels.v]) (rs := [.at .bool]) Tryz.func132 (by kernel_rfl) (by kernel_rfl) h

def V_i_Problem_edge (Q : Bool → World → Prop) (p_0 : Int) (p_1 : Int) (p_2 : Sl) (p_3 : Sl) (a : Int) (b : Int) (w : World) : Prop :=
  NEW T.t_i_Problem #[.int .i64 p_0, .int .i64 p_1, p_2.v, p_3.v] w fun (p_p : Addr) w1 =>
  LD [.sl] (p_p.add 3) w1 fun (x8 : Sl) =>
  RUN Tryz.prog (.at .sl) (Instr.buildSlice T.t_sl_int 2 #[(0, .int .i64 a), (1, .int .i64 b)]) w1 fun (x11 : Sl) w2 =>
  Calls Tryz.prog F.i_hasConfiguration #[x8.v, x11.v] w2 (Ret [.at .bool] fun (x12 : Bool) w3 =>
  Q x12 w3)

theorem C_i_Problem_edge {Q : Bool → World → Prop} {p_0 : Int} {p_1 : Int} {p_2 : Sl} {p_3 : Sl} {a : Int} {b : Int} {w : World} (h : V_i_Problem_edge Q p_0 p_1 p_2 p_3 a b w) : Calls Tryz.prog F.i_Problem_edge #[.agg #[.int .i64 p_0, .int .i64 p_1, p_2.v, p_3.v], .int .i64 a, .int .i64 b] w (Ret [.at .bool] Q) :=
  mkC (hint := hint) (ann := annOf []) (args := [.agg #[.int .i64 p_0, .int .i64 p_1, p_2.v, p_3.v], .int .i64 a, .int .i64 b]) (rs := [.at .bool]) Tryz.func133 (by kernel_rfl) (by kernel_rfl) h

def V_i_idsOk (Q : Bool → World → Prop) (ids : Sl) (nodes : Int) (w : World) : Prop :=
  cond ((ids.len : Int) == 0) (
  Q true w) (
  Calls Tryz.prog F.slices_Clone_sl_int_int #[ids.v] w (Ret [.at .sl] fun (x10 : Sl) w1 =>
  Calls Tryz.prog F.slices_Sort_sl_int_int #[x10.v] w1 (Ret [] fun w2 =>
  cond ((ids.len : Int) == nodes) (
  Calls Tryz.prog F.i_increasing #[x10.v, .int .i64 1, .int .i64 999999] w2 (Ret [.at .bool] fun (x19 : Bool) w3 =>
  Q x19 w3)) (
  Q false w2))))

theorem C_i_idsOk {Q : Bool → World → Prop} {ids : Sl} {nodes : Int} {w : World} (h : V_i_idsOk Q ids nodes w) : Calls Tryz.prog F.i_idsOk #[ids.v, .int .i64 nodes] w (Ret [.at .bool] Q) :=
  mkC (hint := hint) (ann := annOf []) (args := [ids.v, .int .i64 nodes]) (rs := [.at .bool]) Tryz.func134 (by kernel_rfl) (by kernel_rfl) h

def V_i_inputsOk (Q : Bool → World → Prop) (inputs : Sl) (nodes : Int) (w : World) : Prop :=
  cond ((inputs.len : Int) == nodes) (
  Calls Tryz.prog F.i_allWithin #[inputs.v, .int .i64 0, .int .i64 9] w (Ret [.at .bool] fun (x11 : Bool) w1 =>
  Q x11 w1)) (
  Q false w)

theorem C_i_inputsOk {Q : Bool → World → Prop} {inputs : Sl} {nodes : Int} {w : World} (h : V_i_inputsOk Q inputs nodes w) : Calls Tryz.prog F.i_inputsOk #[inputs.v, .int .i64 nodes] w (Ret [.at .bool] Q) :=
  mkC (hint := hint) (ann := annOf []) (args := [inputs.v, .int .i64 nodes]) (rs := [.at .bool]) Tryz.func135 (by kernel_rfl) (by kernel_rfl) h

def V_i_Network_hasPort (Q : Bool → World → Prop) (n_0 : Sl) (n_1 : Sl) (n_2 : Sl) (v : Int) (i : Int) (w : World) : Prop :=
  NEW T.t_i_Network #[n_0.v, n_1.v, n_2.v] w fun (p_n : Addr) w1 =>
  LD [.sl, .sl, .sl] p_n w1 fun (x7_0 : Sl) (x7_1 : Sl) (x7_2 : Sl) =>
  Calls Tryz.prog F.i_Network_hasNode #[.agg #[x7_0.v, x7_1.v, x7_2.v], .int .i64 v] w1 (Ret [.at .bool] fun (x9 : Bool) w2 =>
  cond x9 (
  LD [.sl] (p_n.add 0) w2 fun (x13 : Sl) =>
  IX x13 v 1 fun (px15 : Addr) =>
  LD [.sl] px15 w2 fun (x16 : Sl) =>
  Calls Tryz.prog F.i_within #[.int .i64 i, .int .i64 0, .int .i64 (IntKind.i64.wrap (x16.len - 1))] w2 (Ret [.at .bool] fun (x19 : Bool) w3 =>
  Q x19 w3)) (
  Q false w2))

theorem C_i_Network_hasPort {Q : Bool → World → Prop} {n_0 : Sl} {n_1 : Sl} {n_2 : Sl} {v : Int} {i : Int} {w : World} (h : V_i_Network_hasPort Q n_0 n_1 n_2 v i w) : Calls Tryz.prog F.i_Network_hasPort #[.agg #[n_0.v, n_1.v, n_2.v], .int .i64 v, .int .i64 i] w (Ret [.at .bool] Q) :=
  mkC (hint := hint) (ann := annOf []) (args := [.agg #[n_0.v, n_1.v, n_2.v], .int .i64 v, .int .i64 i]) (rs := [.at .bool]) Tryz.func136 (by kernel_rfl) (by kernel_rfl) h

def V_i_labelFault_k7 (I7 : Int → World → Prop) (m7 : Int → World → Nat) (x39 : Int) (w6 : World) (w12 : World) : Prop :=
  I7 (IntKind.i64.wrap (x39 + 1)) w12 ∧ m7 (IntKind.i64.wrap (x39 + 1)) w12 < m7 x39 w6

def V_i_labelFault_k8 (I7 : Int → World → Prop) (m7 : Int → World → Nat) (w6 : World) (x2 : Sl) (Q : Int → Int → Bool → World → Prop) (px3 : Addr) (x16 : Int) (x20 : Sl) (x39 : Int) (px12 : Addr) (x13 : Bool) (w9 : World) : Prop :=
  cond x13 (
  LD [.int .i64, .int .i64, .sl, .sl] px3 w9 fun (x62_0 : Int) (x62_1 : Int) (x62_2 : Sl) (x62_3 : Sl) =>
  IX x20 x39 1 fun (px65 : Addr) =>
  LD [.int .i64] px65 w9 fun (x66 : Int) =>
  LD [.int .i64] (px12.add 0) w9 fun (x69 : Int) =>
  IX x2 x69 1 fun (px70 : Addr) =>
  LD [.sl] px70 w9 fun (x71 : Sl) =>
  LD [.int .i64] (px12.add 1) w9 fun (x73 : Int) =>
  IX x71 x73 1 fun (px74 : Addr) =>
  LD [.int .i64] px74 w9 fun (x75 : Int) =>
  QCALL Tryz.prog F.i_Problem_edge #[.agg #[.int .i64 x62_0, .int .i64 x62_1, x62_2.v, x62_3.v], .int .i64 x66, .int .i64 x75] w9 [.at .bool] fun (x76 : Bool) =>
  ∀ w10, Ext w9 w10 →
  cond (!x76) (
  Q x16 x39 true w10) (
  V_i_labelFault_k7 I7 m7 x39 w6 w10)) (
  ∀ w11, Ext w9 w11 →
  V_i_labelFault_k7 I7 m7 x39 w6 w11)

def V_i_labelFault_k4 (I2 : Int → World → Prop) (m2 : Int → World → Nat) (w3 : World) (x2 : Sl) (Q : Int → Int → Bool → World → Prop) (px3 : Addr) (px4 : Addr) (x16 : Int) (x20 : Sl) (w5 : World) : Prop :=
  LD [.sl] (px4.add 0) w5 fun (x34 : Sl) =>
  IX x34 x16 1 fun (px36 : Addr) =>
  LD [.sl] px36 w5 fun (x37 : Sl) =>
  ∃ (I7 : Int → World → Prop) (m7 : Int → World → Nat), I7 0 w5 ∧ ∀ (x39 : Int) w6, I7 x39 w6 → ∀ _ _ _ _ _ _ _ _ _ _ _ _ _ _ _ _ _ _ _ _ _ _ _ _ _ _ _ _ _ _ _ _ _ _ _ _ _ _ _ _ _ _ _ _ _ _ _ _ : Value,
  cond (decide ((x39 : Int) < x37.len)) (
  IX x37 x39 2 fun (px42 : Addr) =>
  LD [.int .i64, .int .i64] px42 w6 fun (x43_0 : Int) (x43_1 : Int) =>
  NEW T.t_i_End #[.int .i64 0, .int .i64 0] w6 fun (px12 : Addr) w7 =>
  ST px12 0 [.int .i64 x43_0, .int .i64 x43_1] w7 fun w8 =>
  LD [.int .i64] (px12.add 0) w8 fun (x46 : Int) =>
  cond (decide ((x16 : Int) < x46)) (
  V_i_labelFault_k8 I7 m7 w6 x2 Q px3 x16 x20 x39 px12 true w8) (
  LD [.int .i64] (px12.add 0) w8 fun (x51 : Int) =>
  cond ((x16 : Int) == x51) (
  LD [.int .i64] (px12.add 1) w8 fun (x56 : Int) =>
  V_i_labelFault_k8 I7 m7 w6 x2 Q px3 x16 x20 x39 px12 (decide ((x39 : Int) ≤ x56)) w8) (
  V_i_labelFault_k8 I7 m7 w6 x2 Q px3 x16 x20 x39 px12 false w8))) (
  I2 (IntKind.i64.wrap (x16 + 1)) w6 ∧ m2 (IntKind.i64.wrap (x16 + 1)) w6 < m2 x16 w3)

def V_i_labelFault (Q : Int → Int → Bool → World → Prop) (x0_0 : Int) (x0_1 : Int) (x0_2 : Sl) (x0_3 : Sl) (x1_0 : Sl) (x1_1 : Sl) (x1_2 : Sl) (x2 : Sl) (w : World) : Prop :=
  NEW T.t_i_Problem #[.int .i64 x0_0, .int .i64 x0_1, x0_2.v, x0_3.v] w fun (px3 : Addr) w1 =>
  NEW T.t_i_Network #[x1_0.v, x1_1.v, x1_2.v] w1 fun (px4 : Addr) w2 =>
  ∃ (I2 : Int → World → Prop) (m2 : Int → World → Nat), I2 0 w2 ∧ ∀ (x16 : Int) w3, I2 x16 w3 → ∀ _ _ _ _ _ _ _ _ _ _ _ _ _ _ _ _ _ _ _ _ _ _ _ _ _ _ _ _ _ _ _ _ _ _ _ _ _ _ _ _ _ _ _ _ _ _ _ _ _ _ _ _ _ _ _ _ _ _ _ _ _ _ _ _ _ _ _ _ _ _ _ _ _ _ : Value,
  cond (decide ((x16 : Int) < x2.len)) (
  IX x2 x16 1 fun (px19 : Addr) =>
  LD [.sl] px19 w3 fun (x20 : Sl) =>
  LD [.int .i64] (px3.add 1) w3 fun (x24 : Int) =>
  cond ((x20.len : Int) == x24) (
  LD [.int .i64, .int .i64, .sl, .sl] px3 w3 fun (x27_0 : Int) (x27_1 : Int) (x27_2 : Sl) (x27_3 : Sl) =>
  Calls Tryz.prog F.i_Problem_node #[.agg #[.int .i64 x27_0, .int .i64 x27_1, x27_2.v, x27_3.v], x20.v] w3 (Ret [.at .bool] fun (x29 : Bool) w4 =>
  cond (!x29) (
  Q x16 (-1) true w4) (
  V_i_labelFault_k4 I2 m2 w3 x2 Q px3 px4 x16 x20 w4))) (
  V_i_labelFault_k4 I2 m2 w3 x2 Q px3 px4 x16 x20 w3)) (
  Q 0 0 false w3)

theorem C_i_labelFault {Q : Int → Int → Bool → World → Prop} {x0_0 : Int} {x0_1 : Int} {x0_2 : Sl} {x0_3 : Sl} {x1_0 : Sl} {x1_1 : Sl} {x1_2 : Sl} {x2 : Sl} {w : World} (h : V_i_labelFault Q x0_0 x0_1 x0_2 x0_3 x1_0 x1_1 x1_2 x2 w) : Calls Tryz.prog F.i_labelFault #[.agg #[.int .i64 x0_0, .int .i64 x0_1, x0_2.v, x0_3.v], .agg #[x1_0.v, x1_1.v, x1_2.v], x2.v] w (Ret [.at (.int .i64), .at (.int .i64), .at .bool] Q) :=
  mkC (hint := hint) (ann := annOf [(2, ⟨[(16, .int .i64)], [6, 7, 8, 9, 10, 11, 12, 13, 17, 18, 19, 20, 21, 22, 23, 24, 25, 26, 27, 28, 29, 30, 31, 32, 33, 34, 35, 36, 37, 38, 39, 40, 41, 42, 43, 44, 45, 46, 47, 48, 49, 50, 51, 52, 53, 54, 55, 56, 57, 58, 59, 60, 61, 62, 63, 64, 65, 66, 67, 68, 69, 70, 71, 72, 73, 74, 75, 76, 77, 78, 79, 80, 81, 82]⟩), (7, ⟨[(39, .int .i64)], [6, 7, 8, 11, 12, 13, 40, 41, 42, 43, 44, 45, 46, 47, 48, 49, 50, 51, 52, 53, 54, 55, 56, 57, 58, 59, 60, 61, 62, 63, 64, 65, 66, 67, 68, 69, 70, 71, 72, 73, 74, 75, 76, 77, 78, 79, 80, 81]⟩)]) (args := [.agg #[.int .i64 x0_0, .int .i64 x0_1, x0_2.v, x0_3.v], .agg #[x1_0.v, x1_1.v, x1_2.v], x2.v]) (rs := [.at (.int .i64), .at (.int .i64), .at .bool]) Tryz.func137 (by kernel_rfl) (by kernel_rfl) h

def V_slices_Collect_int (Q : Sl → World → Prop) (seq : Value) (w : World) : Prop :=
  Calls Tryz.prog F.slices_AppendSeq_sl_int_int #[.slice none 0 0, seq] w (Ret [.at .sl] fun (x4 : Sl) w1 =>
  Q x4 w1)

theorem C_slices_Collect_int {Q : Sl → World → Prop} {seq : Value} {w : World} (h : V_slices_Collect_int Q seq w) : Calls Tryz.prog F.slices_Collect_int #[seq] w (Ret [.at .sl] Q) :=
  mkC (hint := hint) (ann := annOf []) (args := [seq]) (rs := [.at .sl]) Tryz.func139 (by kernel_rfl) (by kernel_rfl) h

def V_l_eqEndS (Q : Bool → World → Prop) (a : Sl) (b : Sl) (w : World) : Prop :=
  cond ((a.len : Int) != b.len) (
  Q false w) (
  ∃ (I4 : Int → World → Prop) (m4 : Int → World → Nat), I4 0 w ∧ ∀ (i : Int) w1, I4 i w1 → ∀ _ _ _ _ _ _ _ _ _ _ _ _ _ _ _ _ _ : Value,
  cond (decide ((i : Int) < a.len)) (
  IX a i 2 fun (px19 : Addr) =>
  LD [.int .i64, .int .i64] px19 w1 fun (x20_0 : Int) (x20_1 : Int) =>
  IX b i 2 fun (px23 : Addr) =>
  LD [.int .i64, .int .i64] px23 w1 fun (x24_0 : Int) (x24_1 : Int) =>
  QCALL Tryz.prog F.l_eqEnd #[.agg #[.int .i64 x20_0, .int .i64 x20_1], .agg #[.int .i64 x24_0, .int .i64 x24_1]] w1 [.at .bool] fun (x25 : Bool) =>
  ∀ w2, Ext w1 w2 →
  cond (!x25) (
  Q false w2) (
  I4 (IntKind.i64.wrap (i + 1)) w2 ∧ m4 (IntKind.i64.wrap (i + 1)) w2 < m4 i w1)) (
  Q true w1))

theorem C_l_eqEndS {Q : Bool → World → Prop} {a : Sl} {b : Sl} {w : World} (h : V_l_eqEndS Q a b w) : Calls Tryz.prog F.l_eqEndS #[a.v, b.v] w (Ret [.at .bool] Q) :=
  mkC (hint := hint) (ann := annOf [(4, ⟨[(5, .int .i64)], [4, 11, 12, 13, 14, 15, 16, 17, 18, 19, 20, 21, 22, 23, 24, 25, 26]⟩)]) (args := [a.v, b.v]) (rs := [.at .bool]) Tryz.func143 (by kernel_rfl) (by kernel_rfl) h

def V_l_markEndS (Q : Int → World → Prop) (a : Sl) (k : Int) (w : World) : Prop :=
  ∃ (I2 : Int → Int → World → Prop) (m2 : Int → Int → World → Nat), I2 k 0 w ∧ ∀ (k_2 : Int) (i : Int) w1, I2 k_2 i w1 → ∀ _ _ _ _ _ _ _ _ _ _ _ _ _ _ _ _ _ _ _ _ : Value,
  cond (decide ((i : Int) < a.len)) (
  IX a i 2 fun (px15 : Addr) =>
  ST (px15.add 0) 0 [.int .i64 k_2] w1 fun w2 =>
  IX a i 2 fun (px22 : Addr) =>
  ST (px22.add 1) 0 [.int .i64 (IntKind.i64.wrap (k_2 + 1))] w2 fun w3 =>
  I2 (IntKind.i64.wrap ((IntKind.i64.wrap (k_2 + 1)) + 1)) (IntKind.i64.wrap (i + 1)) w3 ∧ m2 (IntKind.i64.wrap ((IntKind.i64.wrap (k_2 + 1)) + 1)) (IntKind.i64.wrap (i + 1)) w3 < m2 k_2 i w1) (
  Q k_2 w1)

theorem C_l_markEndS {Q : Int → World → Prop} {a : Sl} {k : Int} {w : World} (h : V_l_markEndS Q a k w) : Calls Tryz.prog F.l_markEndS #[a.v, .int .i64 k] w (Ret [.at (.int .i64)] Q) :=
  mkC (hint := hint) (ann := annOf [(2, ⟨[(1, .int .i64), (5, .int .i64)], [6, 7, 8, 9, 10, 11, 12, 13, 14, 15, 16, 17, 18, 19, 20, 21, 22, 23, 24, 25]⟩)]) (args := [a.v, .int .i64 k]) (rs := [.at (.int .i64)]) Tryz.func144 (by kernel_rfl) (by kernel_rfl) h

def V_i_allowedBy (Q : Sl → World → Prop) (labels : Int) (size1 : Int) (good_f : Fn) (good_t : Array Value) (good_c : Array Value) (w : World) : Prop :=
  NEW T.t_func_sl_int_bool #[.func good_f good_t good_c] w fun (p_good : Addr) w1 =>
  Calls Tryz.prog F.i_multisets #[.int .i64 labels, .int .i64 size1] w1 (Ret [.at .sl] fun (x9 : Sl) w2 =>
  Calls Tryz.prog F.slices_DeleteFunc_sl_sl_int_sl_int #[x9.v, .func (.func F.i_allowedBy_1) #[] #[.pointer (some p_good)]] w2 (Ret [.at .sl] fun (x11 : Sl) w3 =>
  Q x11 w3))

theorem C_i_allowedBy {Q : Sl → World → Prop} {labels : Int} {size1 : Int} {good_f : Fn} {good_t : Array Value} {good_c : Array Value} {w : World} (h : V_i_allowedBy Q labels size1 good_f good_t good_c w) : Calls Tryz.prog F.i_allowedBy #[.int .i64 labels, .int .i64 size1, .func good_f good_t good_c] w (Ret [.at .sl] Q) :=
  mkC (hint := hint) (ann := annOf []) (args := [.int .i64 labels, .int .i64 size1, .func good_f good_t good_c]) (rs := [.at .sl]) Tryz.func146 (by kernel_rfl) (by kernel_rfl) h

def V_i_portsOk (Q : Bool → World → Prop) (n_0 : Sl) (n_1 : Sl) (n_2 : Sl) (l : Sl) (w : World) : Prop :=
  NEW T.t_i_Network #[n_0.v, n_1.v, n_2.v] w fun (p_n : Addr) w1 =>
  LD [.sl] (p_n.add 0) w1 fun (x10 : Sl) =>
  cond ((l.len : Int) != x10.len) (
  Q false w1) (
  ∃ (I4 : Int → World → Prop) (m4 : Int → World → Nat), I4 0 w1 ∧ ∀ (x15 : Int) w2, I4 x15 w2 → ∀ _ _ _ _ _ _ _ _ _ _ _ _ _ _ _ _ _ : Value,
  cond (decide ((x15 : Int) < l.len)) (
  IX l x15 1 fun (px18 : Addr) =>
  LD [.sl] px18 w2 fun (x19 : Sl) =>
  LD [.sl] (p_n.add 0) w2 fun (x23 : Sl) =>
  IX x23 x15 1 fun (px25 : Addr) =>
  LD [.sl] px25 w2 fun (x26 : Sl) =>
  cond ((x19.len : Int) != x26.len) (
  Q false w2) (
  I4 (IntKind.i64.wrap (x15 + 1)) w2 ∧ m4 (IntKind.i64.wrap (x15 + 1)) w2 < m4 x15 w2)) (
  Q true w2))

theorem C_i_portsOk {Q : Bool → World → Prop} {n_0 : Sl} {n_1 : Sl} {n_2 : Sl} {l : Sl} {w : World} (h : V_i_portsOk Q n_0 n_1 n_2 l w) : Calls Tryz.prog F.i_portsOk #[.agg #[n_0.v, n_1.v, n_2.v], l.v] w (Ret [.at .bool] Q) :=
  mkC (hint := hint) (ann := annOf [(4, ⟨[(15, .int .i64)], [4, 5, 6, 16, 17, 18, 19, 20, 21, 22, 23, 24, 25, 26, 27, 28, 29]⟩)]) (args := [.agg #[n_0.v, n_1.v, n_2.v], l.v]) (rs := [.at .bool]) Tryz.func149 (by kernel_rfl) (by kernel_rfl) h

def V_slices_ContainsFunc_sl_sl_int_sl_int (Q : Bool → World → Prop) (s : Sl) (f : Value) (w : World) : Prop :=
  Calls Tryz.prog F.slices_IndexFunc_sl_sl_int_sl_int #[s.v, f] w (Ret [.at (.int .i64)] fun (x7 : Int) w1 =>
  Q (decide ((x7 : Int) ≥ 0)) w1)

theorem C_slices_ContainsFunc_sl_sl_int_sl_int {Q : Bool → World → Prop} {s : Sl} {f : Value} {w : World} (h : V_slices_ContainsFunc_sl_sl_int_sl_int Q s f w) : Calls Tryz.prog F.slices_ContainsFunc_sl_sl_int_sl_int #[s.v, f] w (Ret [.at .bool] Q) :=
  mkC (hint := hint) (ann := annOf []) (args := [s.v, f]) (rs := [.at .bool]) Tryz.func150 (by kernel_rfl) (by kernel_rfl) h

def V_i_isLabeling_1 (Q : Bool → World → Prop) (labels : Sl) (cap0 : Addr) (w : World) : Prop :=
  LD [.int .i64, .int .i64, .sl, .sl] cap0 w fun (x4_0 : Int) (x4_1 : Int) (x4_2 : Sl) (x4_3 : Sl) =>
  Calls Tryz.prog F.i_Problem_hasLabels #[.agg #[.int .i64 x4_0, .int .i64 x4_1, x4_2.v, x4_3.v], labels.v] w (Ret [.at .bool] fun (x6 : Bool) w1 =>
  Q (!x6) w1)

theorem C_i_isLabeling_1 {Q : Bool → World → Prop} {labels : Sl} {cap0 : Addr} {w : World} (h : V_i_isLabeling_1 Q labels cap0 w) : Calls Tryz.prog F.i_isLabeling_1 #[labels.v, .pointer (some cap0)] w (Ret [.at .bool] Q) :=
  mkC (hint := hint) (ann := annOf []) (args := [labels.v, .pointer (some cap0)]) (rs := [.at .bool]) Tryz.func151 (by kernel_rfl) (by kernel_rfl) h

def V_s_elNode_k5 (I6 : Sl → Int → World → Prop) (m6 : Sl → Int → World → Nat) (x6 : Sl) (x33 : Int) (w10 : World) (x6_2 : Sl) (w21 : World) : Prop :=
  I6 x6_2 (IntKind.i64.wrap (x33 + 1)) w21 ∧ m6 x6_2 (IntKind.i64.wrap (x33 + 1)) w21 < m6 x6 x33 w10

def V_s_elNode_k9 (I6 : Sl → Int → World → Prop) (m6 : Sl → Int → World → Nat) (x33 : Int) (w10 : World) (px5 : Addr) (x6 : Sl) (x9 : Sl) (x51 : Int) (w15 : World) : Prop :=
  RUN Tryz.prog (.at .sl) (Instr.buildSlice T.t_sl_int 1 #[(0, .int .i64 x51)]) w15 fun (x71 : Sl) w16 =>
  RUN Tryz.prog (.at .sl) (bsem .append #[T.t_sl_int, T.t_sl_int] T.t_sl_int #[x9.v, x71.v]) w16 fun (x72 : Sl) w17 =>
  LD [.int .i64, .int .i64, .sl, .sl, .sl] px5 w17 fun (x73_0 : Int) (x73_1 : Int) (x73_2 : Sl) (x73_3 : Sl) (x73_4 : Sl) =>
  Calls Tryz.prog F.s_elTable_full #[.agg #[.int .i64 x73_0, .int .i64 x73_1, x73_2.v, x73_3.v, x73_4.v], x72.v] w17 (Ret [.at .bool] fun (x75 : Bool) w18 =>
  cond x75 (
  RUN Tryz.prog (.at .sl) (Instr.buildSlice T.t_sl_sl_int 1 #[(0, x72.v)]) w18 fun (x78 : Sl) w19 =>
  RUN Tryz.prog (.at .sl) (bsem .append #[T.t_sl_sl_int, T.t_sl_sl_int] T.t_sl_sl_int #[x6.v, x78.v]) w19 fun (x79 : Sl) w20 =>
  V_s_elNode_k5 I6 m6 x6 x33 w10 x79 w20) (
  V_s_elNode_k5 I6 m6 x6 x33 w10 x6 w18))

def V_s_elNode_k1 (Q : Int → Int → Sl → Sl → Sl → Bool → World → Prop) (px1 : Addr) (px2 : Addr) (w4 : World) : Prop :=
  LD [.int .i64, .int .i64, .sl, .sl] px1 w4 fun (x22_0 : Int) (x22_1 : Int) (x22_2 : Sl) (x22_3 : Sl) =>
  Calls Tryz.prog F.s_elTabled #[.agg #[.int .i64 x22_0, .int .i64 x22_1, x22_2.v, x22_3.v]] w4 (Ret [.agg [.int .i64, .int .i64, .sl, .sl, .sl]] fun (x23_0 : Int) (x23_1 : Int) (x23_2 : Sl) (x23_3 : Sl) (x23_4 : Sl) w5 =>
  NEW T.t_s_elTable #[.int .i64 0, .int .i64 0, .slice none 0 0, .slice none 0 0, .slice none 0 0] w5 fun (px5 : Addr) w6 =>
  ST px5 0 [.int .i64 x23_0, .int .i64 x23_1, x23_2.v, x23_3.v, x23_4.v] w6 fun w7 =>
  ∀ w8, Ext w7 w8 → w8.heap = w7.heap →
  LD [.int .i64] (px1.add 0) w8 fun (x25 : Int) =>
  (0 : Int) ≤ x25 ∧ (
  LD [.int .i64] (px1.add 1) w8 fun (x29 : Int) =>
  Calls Tryz.prog F.s_reChoices #[.int .i64 (IntKind.i64.wrap ((shlI .i64 1 x25) - 1)), .int .i64 (IntKind.i64.wrap (x29 - 1))] w8 (Ret [.at .sl] fun (x31 : Sl) w9 =>
  Ext w8 w9 ∧ (
  Ext w8 w9 ∧ (
  ∃ (I6 : Sl → Int → World → Prop) (m6 : Sl → Int → World → Nat), I6 (⟨none, 0, 0⟩) 0 w9 ∧ ∀ (x6 : Sl) (x33 : Int) w10, I6 x6 x33 w10 → ∀ _ _ _ _ _ _ _ _ _ _ _ _ _ _ _ _ _ _ _ _ _ _ _ _ _ _ _ _ _ _ _ _ _ _ _ _ _ _ _ _ _ _ _ _ _ _ _ _ _ _ _ : Value,
  cond (decide ((x33 : Int) < x31.len)) (
  IX x31 x33 1 fun (px35 : Addr) =>
  LD [.sl] px35 w10 fun (x36 : Sl) =>
  ∃ (I10 : Sl → Int → World → Prop) (m10 : Sl → Int → World → Nat), I10 (⟨none, 0, 0⟩) 0 w10 ∧ ∀ (x9 : Sl) (x39 : Int) w11, I10 x9 x39 w11 → ∀ _ _ _ _ _ _ _ _ _ _ : Value,
  cond (decide ((x39 : Int) < x36.len)) (
  IX x36 x39 1 fun (px41 : Addr) =>
  LD [.int .i64] px41 w11 fun (x42 : Int) =>
  RUN Tryz.prog (.at .sl) (Instr.buildSlice T.t_sl_int 1 #[(0, .int .i64 (IntKind.i64.wrap (x42 + 1)))]) w11 fun (x46 : Sl) w12 =>
  RUN Tryz.prog (.at .sl) (bsem .append #[T.t_sl_int, T.t_sl_int] T.t_sl_int #[x9.v, x46.v]) w12 fun (x47 : Sl) w13 =>
  I10 x47 (IntKind.i64.wrap (x39 + 1)) w13 ∧ m10 x47 (IntKind.i64.wrap (x39 + 1)) w13 < m10 x9 x39 w11) (
  LD [.int .i64, .int .i64, .sl, .sl, .sl] px5 w11 fun (x49_0 : Int) (x49_1 : Int) (x49_2 : Sl) (x49_3 : Sl) (x49_4 : Sl) =>
  Calls Tryz.prog F.s_elTable_rest #[.agg #[.int .i64 x49_0, .int .i64 x49_1, x49_2.v, x49_3.v, x49_4.v], x9.v, .int .i64 0] w11 (Ret [.at (.int .i64)] fun (x51 : Int) w14 =>
  cond ((x51 : Int) == 0) (
  V_s_elNode_k5 I6 m6 x6 x33 w10 x6 w14) (
  cond (decide ((x9.len : Int) > 0)) (
  IX x9 (IntKind.i64.wrap (x9.len - 1)) 1 fun (px64 : Addr) =>
  LD [.int .i64] px64 w14 fun (x65 : Int) =>
  cond (decide ((x51 : Int) < x65)) (
  V_s_elNode_k5 I6 m6 x6 x33 w10 x6 w14) (
  V_s_elNode_k9 I6 m6 x33 w10 px5 x6 x9 x51 w14)) (
  V_s_elNode_k9 I6 m6 x33 w10 px5 x6 x9 x51 w14))))) (
  LD [.int .i64, .int .i64, .sl, .sl] px1 w10 fun (x81_0 : Int) (x81_1 : Int) (x81_2 : Sl) (x81_3 : Sl) =>
  Calls Tryz.prog F.s_elMade #[.agg #[.int .i64 x81_0, .int .i64 x81_1, x81_2.v, x81_3.v], x6.v, .bool false] w10 (Ret [.agg [.int .i64, .int .i64, .sl, .sl], .at .sl, .at .bool] fun (x83_0_0 : Int) (x83_0_1 : Int) (x83_0_2 : Sl) (x83_0_3 : Sl) (x83_1 : Sl) (x83_2 : Bool) w22 =>
  ST px2 0 [.int .i64 x83_0_0, .int .i64 x83_0_1, x83_0_2.v, x83_0_3.v] w22 fun w23 =>
  LD [.int .i64, .int .i64, .sl, .sl] px2 w23 fun (r0_0_2 : Int) (r0_1_2 : Int) (r0_2_2 : Sl) (r0_3_2 : Sl) =>
  Q r0_0_2 r0_1_2 r0_2_2 r0_3_2 x83_1 x83_2 w23)))))))

def V_s_elNode (Q : Int → Int → Sl → Sl → Sl → Bool → World → Prop) (x0_0 : Int) (x0_1 : Int) (x0_2 : Sl) (x0_3 : Sl) (w : World) : Prop :=
  NEW T.t_i_Problem #[.int .i64 x0_0, .int .i64 x0_1, x0_2.v, x0_3.v] w fun (px1 : Addr) w1 =>
  NEW T.t_i_Problem #[.int .i64 0, .int .i64 0, .slice none 0 0, .slice none 0 0] w1 fun (px2 : Addr) w2 =>
  LD [.int .i64] (px1.add 1) w2 fun (x14 : Int) =>
  cond ((x14 : Int) == 4) (
  LD [.int .i64] (px1.add 0) w2 fun (x18 : Int) =>
  cond (decide ((x18 : Int) > 6)) (
  ST px2 0 [.int .i64 0, .int .i64 0, .slice none 0 0, .slice none 0 0] w2 fun w3 =>
  LD [.int .i64, .int .i64, .sl, .sl] px2 w3 fun (r0_0 : Int) (r0_1 : Int) (r0_2 : Sl) (r0_3 : Sl) =>
  Q r0_0 r0_1 r0_2 r0_3 (⟨none, 0, 0⟩) false w3) (
  V_s_elNode_k1 Q px1 px2 w2)) (
  V_s_elNode_k1 Q px1 px2 w2)

theorem C_s_elNode {Q : Int → Int → Sl → Sl → Sl → Bool → World → Prop} {x0_0 : Int} {x0_1 : Int} {x0_2 : Sl} {x0_3 : Sl} {w : World} (h : V_s_elNode Q x0_0 x0_1 x0_2 x0_3 w) : Calls Tryz.prog F.s_elNode #[.agg #[.int .i64 x0_0, .int .i64 x0_1, x0_2.v, x0_3.v]] w (Ret [.agg [.int .i64, .int .i64, .sl, .sl], .at .sl, .at .bool] Q) :=
  mkC (hint := hint) (ann := annOf [(6, ⟨[(6, .sl), (33, .int .i64)], [8, 9, 11, 12, 34, 35, 36, 37, 38, 39, 40, 41, 42, 43, 44, 45, 46, 47, 48, 49, 50, 51, 52, 53, 54, 55, 56, 57, 58, 59, 60, 61, 62, 63, 64, 65, 66, 67, 68, 69, 70, 71, 72, 73, 74, 75, 76, 77, 78, 79, 80]⟩), (10, ⟨[(9, .sl), (39, .int .i64)], [11, 40, 41, 42, 43, 44, 45, 46, 47, 48]⟩)]) (args := [.agg #[.int .i64 x0_0, .int .i64 x0_1, x0_2.v, x0_3.v]]) (rs := [.agg [.int .i64, .int .i64, .sl, .sl], .at .sl, .at .bool]) Tryz.func152 (by kernel_rfl) (by kernel_rfl) h

def V_s_reInto (Q : Bool → World → Prop) (l : Sl) (m : Sl) (f : Sl) (w : World) : Prop :=
  ∃ (I2 : Int → World → Prop) (m2 : Int → World → Nat), I2 0 w ∧ ∀ (x11 : Int) w1, I2 x11 w1 → ∀ _ _ _ _ _ _ _ _ _ _ _ _ _ : Value,
  cond (decide ((x11 : Int) < l.len)) (
  IX l x11 1 fun (px13 : Addr) =>
  LD [.sl] px13 w1 fun (x14 : Sl) =>
  Calls Tryz.prog F.s_coThrough #[f.v, x14.v] w1 (Ret [.at .sl] fun (x18 : Sl) w2 =>
  Calls Tryz.prog F.s_prSorted #[x18.v] w2 (Ret [.at .sl] fun (x19 : Sl) w3 =>
  Calls Tryz.prog F.s_prHas #[m.v, x19.v] w3 (Ret [.at .bool] fun (x20 : Bool) w4 =>
  cond (!x20) (
  Q false w4) (
  I2 (IntKind.i64.wrap (x11 + 1)) w4 ∧ m2 (IntKind.i64.wrap (x11 + 1)) w4 < m2 x11 w1))))) (
  Q true w1)

theorem C_s_reInto {Q : Bool → World → Prop} {l : Sl} {m : Sl} {f : Sl} {w : World} (h : V_s_reInto Q l m f w) : Calls Tryz.prog F.s_reInto #[l.v, m.v, f.v] w (Ret [.at .bool] Q) :=
  mkC (hint := hint) (ann := annOf [(2, ⟨[(11, .int .i64)], [6, 8, 12, 13, 14, 15, 16, 17, 18, 19, 20, 21, 22]⟩)]) (args := [l.v, m.v, f.v]) (rs := [.at .bool]) Tryz.func153 (by kernel_rfl) (by kernel_rfl) h

def V_s_CheckZeroRefusal (Q : Bool → Bool → World → Prop) (p_0 : Int) (p_1 : Int) (p_2 : Sl) (p_3 : Sl) (pairs : Sl) (w : World) : Prop :=
  NEW T.t_i_Problem #[.int .i64 p_0, .int .i64 p_1, p_2.v, p_3.v] w fun (p_p : Addr) w1 =>
  LD [.int .i64, .int .i64, .sl, .sl] p_p w1 fun (x8_0 : Int) (x8_1 : Int) (x8_2 : Sl) (x8_3 : Sl) =>
  Calls Tryz.prog F.s_prGood #[.agg #[.int .i64 x8_0, .int .i64 x8_1, x8_2.v, x8_3.v]] w1 (Ret [.at .bool] fun (x9 : Bool) w2 =>
  cond (!x9) (
  Q false false w2) (
  LD [.sl] (p_p.add 2) w2 fun (x14 : Sl) =>
  cond ((pairs.len : Int) != x14.len) (
  Q false true w2) (
  LD [.sl] (p_p.add 2) w2 fun (x18 : Sl) =>
  ∃ (I6 : Int → World → Prop) (m6 : Int → World → Nat), I6 0 w2 ∧ ∀ (x20 : Int) w3, I6 x20 w3 → ∀ _ _ _ _ _ _ _ _ _ _ _ _ _ _ _ _ _ _ : Value,
  cond (decide ((x20 : Int) < x18.len)) (
  IX x18 x20 1 fun (px23 : Addr) =>
  LD [.sl] px23 w3 fun (x24 : Sl) =>
  LD [.int .i64, .int .i64, .sl, .sl] p_p w3 fun (x25_0 : Int) (x25_1 : Int) (x25_2 : Sl) (x25_3 : Sl) =>
  IX pairs x20 1 fun (px28 : Addr) =>
  LD [.sl] px28 w3 fun (x29 : Sl) =>
  QCALL Tryz.prog F.s_zeTwo #[.agg #[.int .i64 x25_0, .int .i64 x25_1, x25_2.v, x25_3.v], x29.v, x24.v, x24.v] w3 [.at .bool] fun (x32 : Bool) =>
  ∀ w4, Ext w3 w4 →
  cond (!x32) (
  Q false true w4) (
  I6 (IntKind.i64.wrap (x20 + 1)) w4 ∧ m6 (IntKind.i64.wrap (x20 + 1)) w4 < m6 x20 w3)) (
  Q true true w3))))

theorem C_s_CheckZeroRefusal {Q : Bool → Bool → World → Prop} {p_0 : Int} {p_1 : Int} {p_2 : Sl} {p_3 : Sl} {pairs : Sl} {w : World} (h : V_s_CheckZeroRefusal Q p_0 p_1 p_2 p_3 pairs w) : Calls Tryz.prog F.s_CheckZeroRefusal #[.agg #[.int .i64 p_0, .int .i64 p_1, p_2.v, p_3.v], pairs.v] w (Ret [.at .bool, .at .bool] Q) :=
  mkC (hint := hint) (ann := annOf [(6, ⟨[(20, .int .i64)], [4, 5, 6, 7, 21, 22, 23, 24, 25, 26, 27, 28, 29, 30, 31, 32, 33, 34]⟩)]) (args := [.agg #[.int .i64 p_0, .int .i64 p_1, p_2.v, p_3.v], pairs.v]) (rs := [.at .bool, .at .bool]) Tryz.func154 (by kernel_rfl) (by kernel_rfl) h

def V_i_eliminate (Q : Int → Int → Sl → Sl → Sl → Sl → Bool → World → Prop) (p_0 : Int) (p_1 : Int) (p_2 : Sl) (p_3 : Sl) (w : World) : Prop :=
  NEW T.t_i_Problem #[.int .i64 p_0, .int .i64 p_1, p_2.v, p_3.v] w fun (p_p : Addr) w1 =>
  NEW T.t_i_Problem #[.int .i64 0, .int .i64 0, .slice none 0 0, .slice none 0 0] w1 fun (px2 : Addr) w2 =>
  LD [.int .i64, .int .i64, .sl, .sl] p_p w2 fun (x12_0 : Int) (x12_1 : Int) (x12_2 : Sl) (x12_3 : Sl) =>
  Calls Tryz.prog F.i_edgeStep #[.agg #[.int .i64 x12_0, .int .i64 x12_1, x12_2.v, x12_3.v]] w2 (Ret [.agg [.int .i64, .int .i64, .sl, .sl], .at .sl, .at .bool] fun (x13_0_0 : Int) (x13_0_1 : Int) (x13_0_2 : Sl) (x13_0_3 : Sl) (x13_1 : Sl) (x13_2 : Bool) w3 =>
  NEW T.t_i_Problem #[.int .i64 0, .int .i64 0, .slice none 0 0, .slice none 0 0] w3 fun (p_q : Addr) w4 =>
  ST p_q 0 [.int .i64 x13_0_0, .int .i64 x13_0_1, x13_0_2.v, x13_0_3.v] w4 fun w5 =>
  cond (!x13_2) (
  ST px2 0 [.int .i64 0, .int .i64 0, .slice none 0 0, .slice none 0 0] w5 fun w6 =>
  LD [.int .i64, .int .i64, .sl, .sl] px2 w6 fun (r0_0 : Int) (r0_1 : Int) (r0_2 : Sl) (r0_3 : Sl) =>
  Q r0_0 r0_1 r0_2 r0_3 (⟨none, 0, 0⟩) (⟨none, 0, 0⟩) false w6) (
  LD [.int .i64, .int .i64, .sl, .sl] p_q w5 fun (x21_0 : Int) (x21_1 : Int) (x21_2 : Sl) (x21_3 : Sl) =>
  Calls Tryz.prog F.i_nodeStep #[.agg #[.int .i64 x21_0, .int .i64 x21_1, x21_2.v, x21_3.v]] w5 (Ret [.agg [.int .i64, .int .i64, .sl, .sl], .at .sl, .at .bool] fun (x22_0_0 : Int) (x22_0_1 : Int) (x22_0_2 : Sl) (x22_0_3 : Sl) (x22_1 : Sl) (x22_2 : Bool) w7 =>
  NEW T.t_i_Problem #[.int .i64 0, .int .i64 0, .slice none 0 0, .slice none 0 0] w7 fun (p_r : Addr) w8 =>
  ST p_r 0 [.int .i64 x22_0_0, .int .i64 x22_0_1, x22_0_2.v, x22_0_3.v] w8 fun w9 =>
  cond (!x22_2) (
  ST px2 0 [.int .i64 0, .int .i64 0, .slice none 0 0, .slice none 0 0] w9 fun w10 =>
  LD [.int .i64, .int .i64, .sl, .sl] px2 w10 fun (r0_0_2 : Int) (r0_1_2 : Int) (r0_2_2 : Sl) (r0_3_2 : Sl) =>
  Q r0_0_2 r0_1_2 r0_2_2 r0_3_2 (⟨none, 0, 0⟩) (⟨none, 0, 0⟩) false w10) (
  LD [.int .i64, .int .i64, .sl, .sl] p_r w9 fun (x29_0 : Int) (x29_1 : Int) (x29_2 : Sl) (x29_3 : Sl) =>
  ST px2 0 [.int .i64 x29_0, .int .i64 x29_1, x29_2.v, x29_3.v] w9 fun w11 =>
  LD [.int .i64, .int .i64, .sl, .sl] px2 w11 fun (r0_0_3 : Int) (r0_1_3 : Int) (r0_2_3 : Sl) (r0_3_3 : Sl) =>
  Q r0_0_3 r0_1_3 r0_2_3 r0_3_3 x13_1 x22_1 true w11))))

theorem C_i_eliminate {Q : Int → Int → Sl → Sl → Sl → Sl → Bool → World → Prop} {p_0 : Int} {p_1 : Int} {p_2 : Sl} {p_3 : Sl} {w : World} (h : V_i_eliminate Q p_0 p_1 p_2 p_3 w) : Calls Tryz.prog F.i_eliminate #[.agg #[.int .i64 p_0, .int .i64 p_1, p_2.v, p_3.v]] w (Ret [.agg [.int .i64, .int .i64, .sl, .sl], .at .sl, .at .sl, .at .bool] Q) :=
  mkC (hint := hint) (ann := annOf []) (args := [.agg #[.int .i64 p_0, .int .i64 p_1, p_2.v, p_3.v]]) (rs := [.agg [.int .i64, .int .i64, .sl, .sl], .at .sl, .at .sl, .at .bool]) Tryz.func155 (by kernel_rfl) (by kernel_rfl) h

def V_i_images (Q : Sl → World → Prop) (labels : Sl) (f : Sl) (w : World) : Prop :=
  ∃ (I3 : Sl → Int → World → Prop) (m3 : Sl → Int → World → Nat), I3 (⟨none, 0, 0⟩) 0 w ∧ ∀ (out : Sl) (x10 : Int) w1, I3 out x10 w1 → ∀ _ _ _ _ _ _ _ _ _ _ _ _ : Value,
  cond (decide ((x10 : Int) < labels.len)) (
  IX labels x10 1 fun (px12 : Addr) =>
  LD [.int .i64] px12 w1 fun (x13 : Int) =>
  IX f x13 1 fun (px17 : Addr) =>
  LD [.int .i64] px17 w1 fun (x18 : Int) =>
  RUN Tryz.prog (.at .sl) (Instr.buildSlice T.t_sl_int 1 #[(0, .int .i64 x18)]) w1 fun (x19 : Sl) w2 =>
  RUN Tryz.prog (.at .sl) (bsem .append #[T.t_sl_int, T.t_sl_int] T.t_sl_int #[out.v, x19.v]) w2 fun (x20 : Sl) w3 =>
  I3 x20 (IntKind.i64.wrap (x10 + 1)) w3 ∧ m3 x20 (IntKind.i64.wrap (x10 + 1)) w3 < m3 out x10 w1) (
  Q out w1)

theorem C_i_images {Q : Sl → World → Prop} {labels : Sl} {f : Sl} {w : World} (h : V_i_images Q labels f w) : Calls Tryz.prog F.i_images #[labels.v, f.v] w (Ret [.at .sl] Q) :=
  mkC (hint := hint) (ann := annOf [(3, ⟨[(5, .sl), (10, .int .i64)], [7, 11, 12, 13, 14, 15, 16, 17, 18, 19, 20, 21]⟩)]) (args := [labels.v, f.v]) (rs := [.at .sl]) Tryz.func156 (by kernel_rfl) (by kernel_rfl) h

end Go.Proofs.YtlmiookpmneicaaGreat
end
