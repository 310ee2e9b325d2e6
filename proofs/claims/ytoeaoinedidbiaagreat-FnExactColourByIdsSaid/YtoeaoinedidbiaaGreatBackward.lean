/- slices.Backward at []int: its closure calls yield for each element, the last one first; turned from XValues (which began as the kit's worked text on the library's iterators over a slice). -/
import Derived.Test.YtoeaoinedidbiaaGreatValues
namespace Go.Proofs.YtoeaoinedidbiaaGreat
open Go Go.RowKit Go.Shelf Go.Proofs

attribute [local go_sem] Oper.semAt_some

/-- What comes in round k. -/
def bkw (zs : List Int) (len : Nat) (k : Nat) : Int × Int := (((len - 1 - k : Nat) : Int), zs[len - 1 - k]?.getD 0)
def argsB (p : Int × Int) : Array Value := #[.int .i64 p.1, .int .i64 p.2]

/-- What is kept between two rounds: what lies below n₀, and the box of slices.Backward. -/
def KpB (n₀ Bs : Nat) (A B : World) : Prop := Below n₀ A B ∧ ∀ v t, A.heap[Bs]? = some (.cells #[v] t (0, 0)) → B.heap[Bs]? = some (.cells #[v] t (0, 0))
theorem KpB.refl (n₀ Bs : Nat) (A : World) : KpB n₀ Bs A A := ⟨Below.refl _ _, fun _ _ h => h⟩
theorem KpB.trans {n₀ Bs : Nat} {A B C : World} (h : KpB n₀ Bs A B) (k : KpB n₀ Bs B C) : KpB n₀ Bs A C := ⟨h.1.trans k.1, fun v t hv => k.2 v t (h.2 v t hv)⟩
theorem boxC {W : World} {B : Nat} {v : Value} {t : TypeId} (h : W.heap[B]? = some (.cells #[v] t (0, 0))) : W.cell? ⟨B, 0, none⟩ = some v := by simp [World.cell?, h]

set_option maxRecDepth 100000 in
set_option maxHeartbeats 2000000 in
theorem backward1_in (Fe : Fence) (n : Nat) (h7 : Fe.fn 93) (hro : Fe.round = none) (hn : 1 ≤ n) (l Bs n₀ len cap : Nat) (ad : Addr) (zs : List Int) (hreach : len * 8 ≤ 140737488351232) (hb : 0 < len → ad.block < n₀) (tb : TypeId) (J Jx : List (Int × Int) → World → Prop)
    (hY : ∀ pre x W, J pre W → pre.length < len → YieldAt Fe (n - 1) Tryz.prog l (argsB x) W fun e W' =>
      (e = .returned (.bool true) ∧ J (pre ++ [x]) W' ∧ KpB n₀ Bs W W') ∨ (e = .returned (.bool false) ∧ Jx (pre ++ [x]) W'))
    (W : World) (hBs : W.heap[Bs]? = some (.cells #[.slice (some ad) len cap] tb (0, 0))) (hc : ∀ j, j < len → W.cell? (ad.add j) = some (.int .i64 (zs[j]?.getD 0))) (h0 : J [] W) :
    CallsIn Fe n Tryz.prog 93 #[.func (.yield l) #[] #[], .pointer (some ⟨Bs, 0, none⟩)] W fun e W' => (∃ v, e = .returned v) ∧
      ((∃ ys, ys = upto (bkw zs len) len ∧ J ys W') ∨ (∃ pre, (∃ k, k ≤ len ∧ pre = upto (bkw zs len) k) ∧ Jx pre W')) := by
  have hBc := boxC hBs
  refine callsIn_of_wp Tryz.func93 rfl h7 ?_ hro
  simp only [Tryz.ntmps93, List.size_toArray, List.length_cons, List.length_nil, Nat.reduceAdd, Nat.reduceSub, Array.replicate_succ, Array.replicate_zero, List.push_toArray, List.append_toArray, List.nil_append, List.cons_append]
  gi_wp2
  gi_loopw [3] (fun i wr => ∃ k : Nat, k ≤ len ∧ i = .int .i64 ((len : Int) - 1 - k) ∧ J (upto (bkw zs len) k) wr ∧ KpB n₀ Bs W wr)
    (fun i _ => (intOf i + 1).toNat)
  case atStart => exact ⟨0, Nat.zero_le _, by simp, h0, KpB.refl _ _ _⟩
  case round =>
    obtain ⟨k, hk, rfl, hJs, hnx⟩ := hrel
    have hBr : wr.cell? ⟨Bs, 0, none⟩ = some (.slice (some ad) len cap) := boxC (hnx.2 _ _ hBs)
    have hcx : k < len → wr.cell? (ad.add (len - 1 - k)) = some (.int .i64 (zs[len - 1 - k]?.getD 0)) := fun h => (hnx.1.cell (p := ad.add (len - 1 - k)) (by rw [add_block]; exact hb (by omega))).trans (hc (len - 1 - k) (by omega))
    by_cases hlt : k < len
    · obtain ⟨fn, tmps, assign, body, hy, hR⟩ := hY _ (bkw zs len k) wr hJs (by rw [upto_length]; exact hlt)
      simp only [argsB, bkw] at hy
      have hcx' := hcx hlt
      have hik : (len : Int) - 1 - (k : Int) = ((len - 1 - k : Nat) : Int) := by omega
      rw [hik]
      gi_wp2
      refine hR.mono ?_
      rintro e W3 (⟨rfl, hJ3, hk3⟩ | ⟨rfl, hJx3⟩)
      · gi_wp2
        go_roundw
        case rel => exact ⟨k + 1, by omega, by simp; omega, by rw [upto_succ]; exact hJ3, hnx.trans hk3⟩
        case measure => simp [intOf]
      · gi_wp2
        refine bodyPost_ret (results_none rfl _ _ _) rfl ?_
        exact ⟨⟨_, rfl⟩, .inr ⟨_, ⟨k + 1, by omega, (upto_succ _ _).symm⟩, hJx3⟩⟩
    · obtain rfl : k = len := by omega
      gi_wp2
      go_end0
      exact ⟨⟨_, rfl⟩, .inl ⟨_, rfl, hJs⟩⟩

set_option maxRecDepth 100000 in
set_option maxHeartbeats 1000000 in
theorem backward1_nil_in (Fe : Fence) (n : Nat) (h7 : Fe.fn 93) (hro : Fe.round = none) (l Bs cap : Nat) (J : List (Int × Int) → World → Prop) (W : World) (hBs : W.cell? ⟨Bs, 0, none⟩ = some (.slice none 0 cap)) (h0 : J [] W) :
    CallsIn Fe n Tryz.prog 93 #[.func (.yield l) #[] #[], .pointer (some ⟨Bs, 0, none⟩)] W fun e W' => (∃ v, e = .returned v) ∧ J [] W' := by
  refine callsIn_of_wp Tryz.func93 rfl h7 ?_ hro
  simp only [Tryz.ntmps93, List.size_toArray, List.length_cons, List.length_nil, Nat.reduceAdd, Nat.reduceSub, Array.replicate_succ, Array.replicate_zero, List.push_toArray, List.append_toArray, List.nil_append, List.cons_append]
  gi_wp2
  gi_loopw [3] (fun i wr => i = .int .i64 (-1) ∧ J [] wr) (fun _ _ => 0)
  case atStart => exact ⟨rfl, h0⟩
  case round =>
    obtain ⟨rfl, hJs⟩ := hrel
    gi_wp2
    go_end0
    exact ⟨⟨_, rfl⟩, hJs⟩

theorem bkw_take (zs : List Int) {k : Nat} (hk : k ≤ zs.length) : upto (bkw zs zs.length) k <+: upto (bkw zs zs.length) zs.length := by
  unfold upto
  obtain ⟨d, hd⟩ : ∃ d, zs.length = k + d := ⟨zs.length - k, by omega⟩
  generalize bkw zs zs.length = f
  rw [hd, List.range_add, List.map_append]
  exact List.prefix_append _ _

theorem backward_stops (Fe : Fence) (n : Nat) (h7 : Fe.fn 93) (hro : Fe.round = none) (hn : 1 ≤ n) (Bs n₀ : Nat) (sv : Value) (zs : List Int) (tb : TypeId) (hreach : zs.length * 8 ≤ 140737488351232) (w : World) (hn₀ : n₀ ≤ w.heap.size)
    (hc : w.heap[Bs]? = some (.cells #[sv] tb (0, 0))) (hI : IntsIn n₀ w sv zs) :
    SeqStopsK Fe n Tryz.prog 93 #[.pointer (some ⟨Bs, 0, none⟩)] argsB (KpB n₀ Bs) (fun ys => ys = upto (bkw zs zs.length) zs.length) (fun pre => pre <+: upto (bkw zs zs.length) zs.length) zs.length w := fun l J Jx W hW _ _ hY h0 => by
  have hc' : W.heap[Bs]? = some (.cells #[sv] tb (0, 0)) := (hW.block Bs (Array.getElem?_eq_some_iff.1 hc).1).trans hc
  rcases hI.below (hW.mono hn₀) with ⟨cap, rfl, rfl⟩ | ⟨ad, cap, rfl, hb, hcs⟩
  · exact (backward1_nil_in Fe n h7 hro l Bs cap J W (boxC hc') h0).mono fun e W' ⟨he, hj⟩ => ⟨he, .inl ⟨_, rfl, hj⟩⟩
  · refine (backward1_in Fe n h7 hro hn l Bs n₀ zs.length cap ad zs hreach hb tb J Jx hY W hc' hcs h0).mono ?_
    rintro e W' ⟨he, ⟨ys, rfl, hj⟩ | ⟨pre, ⟨k, hk, rfl⟩, hj⟩⟩
    · exact ⟨he, .inl ⟨_, rfl, hj⟩⟩
    · exact ⟨he, .inr ⟨_, bkw_take zs hk, hj⟩⟩

end Go.Proofs.YtoeaoinedidbiaaGreat
