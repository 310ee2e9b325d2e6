/- A polynomial's value by the program: the loop over slices.Backward is walked by the kit's tactics; the contracts of the functions called are ours. -/
import Derived.Maps.AppendAt
import Derived.Test.YtoeaoinedidbiaaGreatBackward
import Derived.Test.YtoeaoinedidbiaaGreatSorted
import Derived.Test.YtoeaoinedidbiaaGreatRoots
namespace Go.Proofs.YtoeaoinedidbiaaGreat
open Go Go.RowKit Go.Shelf Go.Proofs

attribute [local go_sem] Oper.semAt_some

theorem ret_bool {Q : Bool → World → Prop} {e : Ending} {w : World} (h : GX.Ret [.at .bool] Q e w) : ∃ b, e = .returned (.bool b) ∧ Q b w := by
  cases e with
  | returned v =>
    cases v <;> first | exact h.elim | skip
    all_goals first | exact ⟨_, rfl, h⟩ | exact absurd h (by simp [GX.Ret, GX.unRR, GX.unL])
  | _ => exact h.elim

theorem within_yes {n lo hi : Int} (h : lo ≤ n ∧ n ≤ hi) (m : Nat) (w : World) : CallsIn Fence.wide m Tryz.prog 42 #[.int .i64 n, .int .i64 lo, .int .i64 hi] w fun e w' => e = .returned (.bool true) ∧ w' = w := by
  refine CallsIn.mono (callsIn_wide.2 (within_ok n lo hi w)) ?_
  intro e w1 h1
  obtain ⟨b, rfl, hb, rfl⟩ := ret_bool h1
  rw [hb]
  simp [inR, h.1, h.2]

theorem prime_yes {q : Int} (h : Pr q) (hq : q ≤ 1000000000000) (m : Nat) (w : World) : CallsIn Fence.wide m Tryz.prog 49 #[.int .i64 q] w fun e w' => e = .returned (.bool true) ∧ w' = w := by
  refine CallsIn.mono (callsIn_wide.2 (isPrime_ok q hq w)) ?_
  intro e w1 h1
  obtain ⟨b, rfl, hb, rfl⟩ := ret_bool h1
  rw [hb.2 h]
  exact ⟨rfl, rfl⟩

theorem allWithin_yes {w : World} {s : GX.Sl} {l : List Int} (hR : GX.R w s l) {lo hi : Int} (h : AllIn l lo hi) (m : Nat) : CallsIn Fence.wide m Tryz.prog 47 #[s.v, .int .i64 lo, .int .i64 hi] w fun e w' => e = .returned (.bool true) ∧ GX.Ext w w' := by
  refine CallsIn.mono (callsIn_wide.2 (allWithin_ok hR lo hi)) ?_
  intro e w1 h1
  obtain ⟨b, rfl, hb, hE⟩ := ret_bool h1
  rw [hb.2 h]
  exact ⟨rfl, hE⟩

/-- The value behind some of the coefficients, the last ones first. -/
def valB (q x : Int) (ps : List (Int × Int)) : Int := ps.foldl (fun v p => (wrap64 (wrap64 (v * x) + p.2)).tmod q) 0

theorem hvm_range {q x : Int} (hq : 0 < q) : ∀ zs : List Int, 0 ≤ hvm q zs x ∧ hvm q zs x < q
  | [] => by simp [hvm]; exact hq
  | c :: zs => ⟨Int.emod_nonneg _ (by omega), Int.emod_lt_of_pos _ hq⟩

theorem mul_small {v x q : Int} (hv0 : 0 ≤ v) (hv : v < q) (hx0 : 0 ≤ x) (hx : x < q) (hq : q ≤ 1000) : 0 ≤ v * x ∧ v * x ≤ 1000000 := by
  refine ⟨Int.mul_nonneg hv0 hx0, ?_⟩
  have : v * x ≤ 1000 * 1000 := Int.mul_le_mul (by omega) (by omega) hx0 (by omega)
  omega

theorem valB_eq {q x : Int} (hq2 : 2 ≤ q) (hq : q ≤ 1000) (hx0 : 0 ≤ x) (hxq : x < q) {zs : List Int} (hz : ∀ c ∈ zs, 0 ≤ c ∧ c < q) : valB q x (upto (bkw zs zs.length) zs.length) = hvm q zs x := by
  have e1 : (upto (bkw zs zs.length) zs.length).map Prod.snd = zs.reverse := by
    apply List.ext_getElem (by simp [upto])
    intro i h1 h2
    have hi : i < zs.length := by simpa [upto] using h1
    have hi2 : zs.length - 1 - i < zs.length := by omega
    simp [upto, bkw, hi2]
  have e2 : ∀ ps : List (Int × Int), valB q x ps = (ps.map Prod.snd).foldl (fun v c => (wrap64 (wrap64 (v * x) + c)).tmod q) 0 := fun ps => by
    unfold valB; rw [List.foldl_map]
  rw [e2, e1, List.foldl_reverse]
  clear e1 e2
  induction zs with
  | nil => rfl
  | cons c zs ih =>
    rw [List.foldr_cons, ih fun d hd => hz d (by simp [hd]), hvm]
    have hr := hvm_range (x := x) (show 0 < q by omega) zs
    have hc := hz c (by simp)
    have hm := mul_small hr.1 hr.2 hx0 hxq hq
    rw [IntWalk.wrap64_in (hvm q zs x * x) (by omega), IntWalk.wrap64_in _ (by omega), Int.tmod_eq_emod_of_nonneg (by omega)]

/-- Between two rounds. -/
def PvAt (Bv : Nat) (q x : Int) (ps : List (Int × Int)) (W : World) : Prop := W.heap[Bv]? = some (.cells #[.int .i64 (valB q x ps)] 3 (0, 0))

theorem pvAt_own (Bv : Nat) (q x : Int) : Go.Own (PvAt Bv q x) := fun ss A B row hv hg hr => by
  refine (hg.block Bv (Array.getElem?_eq_some_iff.1 hv).1 (fun e => ?_)).trans hv
  obtain ⟨o, h1, h2⟩ := hr Bv e.symm
  unfold PvAt at hv
  rw [hv] at h1; cases h1; simp [Obj.isCells] at h2

theorem backward_call (sv : Value) (s : GX.Sl) (hs : sv = s.v) (m : Nat) (w : World) : CallsIn Fence.wide m Tryz.prog 82 #[sv] w fun e w' => e = .returned (.func (.func 93) #[] #[.pointer (some ⟨w.heap.size, 0, none⟩)]) ∧ w' = w.alloc (.cells #[sv] 23) := by
  subst hs
  refine CallsIn.mono (callsIn_wide.2 (C_slices_Backward_sl_int_int (Q := fun v w' => v = .func (.func 93) #[] #[.pointer (some ⟨w.heap.size, 0, none⟩)] ∧ w' = w.alloc (.cells #[s.v] 23)) (by
    unfold V_slices_Backward_sl_int_int
    exact ⟨rfl, rfl⟩))) ?_
  intro e w1 h1
  cases e with
  | returned v =>
    have h2 : v = _ ∧ _ := h1
    exact ⟨by rw [h2.1], h2.2⟩
  | _ => exact h1.elim

set_option maxRecDepth 100000 in
set_option maxHeartbeats 4000000 in
theorem polyAt_in (n : Nat) (hn : 5 ≤ n) (zs : List Int) (sa : Option Addr) (cap : Nat) (w : World) (hR : GX.R w ⟨sa, zs.length, cap⟩ zs) (q x : Int) (hq2 : 2 ≤ q) (hq : q ≤ 1000) (hp : Pr q) (hx0 : 0 ≤ x) (hxq : x < q) (hl : zs.length ≤ 60) (hz : ∀ c ∈ zs, 0 ≤ c ∧ c < q) :
    CallsIn Fence.wide n Tryz.prog 51 #[.int .i64 q, .slice sa zs.length cap, .int .i64 x] w fun e w' => e = .returned (.tuple #[.int .i64 (hvm q zs x), .bool true]) ∧ Below w.heap.size w w' := by
  refine callsIn_of_wp_marks Tryz.func51 rfl trivial ?_ rfl
  simp only [Tryz.ntmps51, List.size_toArray, List.length_cons, List.length_nil, Nat.reduceAdd, Nat.reduceSub, Array.replicate_succ, Array.replicate_zero, List.push_toArray, List.append_toArray, List.nil_append, List.cons_append]
  have hA : AllIn zs 0 (q - 1) := fun c hc => by have := hz c hc; omega
  gi_wp2_with (first
    | (refine ⟨trivial, fun _ => by omega, ?_⟩; gi_at_call 42; refine CallsIn.mono (within_yes (by omega) _ _) ?_; rintro e w1 ⟨rfl, rfl⟩)
    | (refine ⟨trivial, fun _ => by omega, ?_⟩; gi_at_call 49; refine CallsIn.mono (prime_yes hp (by omega) _ _) ?_; rintro e w1 ⟨rfl, rfl⟩)
    | (refine ⟨trivial, fun _ => by omega, ?_⟩; gi_at_call 47
       have hE0 : GX.Ext w ((w.alloc (.cells #[.int .i64 q] 3)).alloc (.cells #[.int .i64 x] 3)) := GX.ext_push _ _ |>.trans (GX.ext_push _ _)
       refine CallsIn.mono (allWithin_yes (hR.ext hE0) hA _) ?_; rintro e w2 ⟨rfl, hE2⟩
       have hB2 : w2.heap[w.heap.size]? = some (.cells #[.int .i64 q] 3 (0, 0)) := (hE2.block _ (by simp; omega)).trans ((Below.heap_alloc _ _ _ (by simp)).trans (World.alloc_heap_new w _))
       have hX2 : w2.heap[w.heap.size + 1]? = some (.cells #[.int .i64 x] 3 (0, 0)) := (hE2.block _ (by simp)).trans (by have := World.alloc_heap_new (w.alloc (.cells #[.int .i64 q] 3)) (.cells #[.int .i64 x] 3); rwa [World.size_alloc] at this)
       have hR2 : GX.R w2 ⟨sa, zs.length, cap⟩ zs := (hR.ext hE0).ext hE2
       have hEw := hE0.trans hE2
       obtain ⟨hcq, hfq⟩ := boxCell hB2
       obtain ⟨hcx, hfx⟩ := boxCell hX2)
    | (refine ⟨trivial, fun _ => by omega, ?_⟩; gi_at_call 82; refine CallsIn.mono (backward_call _ ⟨sa, zs.length, cap⟩ rfl _ _) ?_; rintro e w1 ⟨rfl, rfl⟩)
    | gi_in)
  obtain ⟨W3, hW3⟩ : ∃ W3, ((w2.alloc (.cells #[.int .i64 0] 3)).alloc (.cells #[GX.Sl.v ⟨sa, zs.length, cap⟩] 23)) = W3 := ⟨_, rfl⟩
  have hs3 : W3.heap.size = w2.heap.size + 2 := by rw [← hW3]; simp
  have hB3 : Below w2.heap.size w2 W3 := by rw [← hW3]; exact ((Below.refl _ w2).alloc (Nat.le_refl _) _).alloc (by simp) _
  have hv3 : PvAt w2.heap.size q x [] W3 := by
    rw [← hW3]
    exact (Below.heap_alloc _ _ _ (by simp)).trans (World.alloc_heap_new w2 _)
  have hb3 : W3.heap[w2.heap.size + 1]? = some (.cells #[.slice sa zs.length cap] 23 (0, 0)) := by
    rw [← hW3]
    have := World.alloc_heap_new (w2.alloc (.cells #[.int .i64 0] 3)) (.cells #[GX.Sl.v ⟨sa, zs.length, cap⟩] 23)
    rwa [World.size_alloc] at this
  have hI3 : IntsIn w2.heap.size W3 (.slice sa zs.length cap) zs := (intsIn_of hR2).below hB3
  have hlt : w.heap.size + 1 < w2.heap.size := (Array.getElem?_eq_some_iff.1 hX2).1
  have hBW : Below w.heap.size w w2 := ⟨hEw.os, hEw.tape, hEw.output, hEw.size, hEw.block⟩
  rw [hW3]
  refine wpIn_rangeFunc_ownG rfl (by omega) (gf := 93) (lb := #[.pointer (some ⟨w2.heap.size + 1, 0, none⟩)]) rfl trivial (enters_of Tryz.func93 (by kernel_rfl) rfl)
    (backward_stops Fence.wide (n - 1) trivial rfl (by omega) (w2.heap.size + 1) w2.heap.size (.slice sa zs.length cap) zs 23 (by omega) W3 (by omega) hb3 hI3)
    (fun h k => h.trans k) (fun W l o o' hl ho hc hw => ⟨belowK_b (w := W3) (by omega) W l o o' hl ho hc hw, fun v t hv => (World.putObj_heap_other (by omega)).trans hv⟩) (Below.refl _ _) (fun _ => rfl)
    (fun pre W => PvAt w2.heap.size q x pre W ∧ Below w2.heap.size w2 W)
    (fun _ _ _ => False)
    (OwnFrom.and (Own.from (pvAt_own _ _ _) _) (ownFrom_below (Nat.le_refl _) (by omega)))
    (fun _ _ _ _ _ hs _ _ => hs)
    ⟨hv3, hB3⟩
    (fun p => { tmps := #[.int .i64 q, .slice sa zs.length cap, .int .i64 x, .pointer (some ⟨w.heap.size, 0, none⟩), undef, .pointer (some ⟨w.heap.size + 1, 0, none⟩), .int .i64 0, .bool false, .pointer (some ⟨w2.heap.size, 0, none⟩), undef, .int .i64 p.2, .int .i64 q, .bool true, .bool false, .bool false, .int .i64 q, .bool true, .bool false, .bool false, .bool false, .int .i64 x, .int .i64 q, .int .i64 (q - 1), .bool true, .bool false, .bool false, .bool false, .slice sa zs.length cap, .int .i64 (zs.length : Int), .bool (decide (60 < (zs.length : Int))), .bool (decide (60 < (zs.length : Int))), .bool (decide (60 < (zs.length : Int))), .slice sa zs.length cap, .int .i64 q, .int .i64 (q - 1), .bool true, .bool false, .bool (decide (60 < (zs.length : Int))), .slice sa zs.length cap, .func (.func 93) #[] #[.pointer (some ⟨w2.heap.size + 1, 0, none⟩)], .int .i64 p.1, .int .i64 p.2, undef, undef, undef, undef, undef, undef, undef, undef], defers := [] }) ?assign ?body ?done ?stop
  case assign =>
    intro l p W K hK
    simp only [argsB]
    gi_wp2
    exact hK
  case body =>
    rintro l pre p W ⟨hv, hB⟩ hlen
    obtain ⟨hcv, hfv⟩ := boxCell hv
    have hcq' := (hB.cell (p := ⟨w.heap.size, 0, none⟩) (by show w.heap.size < w2.heap.size; omega)).trans hcq
    have hcx' := (hB.cell (p := ⟨w.heap.size + 1, 0, none⟩) hlt).trans hcx
    have hq0 : q ≠ 0 := by omega
    gi_wp2
    have hlv : w2.heap.size < W.heap.size := (Array.getElem?_eq_some_iff.1 hv).1
    have hBS : Below w2.heap.size W (W.setCell ⟨w2.heap.size, 0, none⟩ (.int .i64 ((wrap64 (wrap64 (valB q x pre * x) + p.2)).tmod q))) := (Below.refl w2.heap.size W).setCell (p := ⟨w2.heap.size, 0, none⟩) (Nat.le_refl _) _
    refine ⟨⟨hBS.size, fun k o hk ho hoc => ?_⟩, ⟨hBS, fun v t h => ?_⟩, ?_, hB.trans hBS⟩
    · rw [Below.heap_setCell _ _ _ _ (by show k ≠ w2.heap.size; omega)]; exact ho
    · rw [Below.heap_setCell _ _ _ _ (by show w2.heap.size + 1 ≠ w2.heap.size; omega)]; exact h
    · unfold PvAt
      have e : valB q x (pre ++ [p]) = (wrap64 (wrap64 (valB q x pre * x) + p.2)).tmod q := by unfold valB; rw [List.foldl_append]; rfl
      rw [e]
      exact setCell_box hv
  case done =>
    rintro D ys W hD rfl ⟨hv, hB⟩ hK
    obtain ⟨hcv, hfv⟩ := boxCell hv
    gi_wp2
    rw [valB_eq hq2 hq hx0 hxq hz]
    refine ⟨by simp, .inl ⟨_, _, rfl, run_takeDeferred hK, ?_⟩⟩
    exact ⟨_, results_tmp2 rfl _ _ _, rfl, (hBW.trans (hB.mono (by omega))).trans (belowK_b (w := w) (Nat.le_refl _) W D _ _ (by omega) hK rfl rfl)⟩
  case stop =>
    rintro D c pre W _ _ h _
    exact h.elim

open Go.GX

/-- A polynomial's value. -/
theorem PolynomialAt_ok {w : World} {s : Sl} {zs : List Int} (hR : R w s zs) {q x : Int} (hp : Pr q) (hq : q ≤ 1000) (hx0 : 0 ≤ x) (hxq : x < q) (hl : zs.length ≤ 60) (hz : ∀ c ∈ zs, 0 ≤ c ∧ c < q) :
    Calls Tryz.prog F.i_PolynomialAt #[.int .i64 q, s.v, .int .i64 x] w (Ret [.at (.int .i64), .at .bool] fun (v : Int) (_ : Bool) w' => v = hvm q zs x ∧ Ext w w') := by
  have hs : s = ⟨s.a, zs.length, s.cap⟩ := by rw [← hR.1]
  have hsv : s.v = .slice s.a zs.length s.cap := by rw [← hR.1]
  rw [hs] at hR
  rw [hsv]
  refine (callsIn_wide.1 (polyAt_in 5 (Nat.le_refl _) zs s.a s.cap w hR q x hp.1 hq hp hx0 hxq hl hz)).mono ?_
  rintro e w' ⟨rfl, hB⟩
  exact show hvm q zs x = hvm q zs x ∧ Ext w w' from ⟨rfl, hB⟩

end Go.Proofs.YtoeaoinedidbiaaGreat
