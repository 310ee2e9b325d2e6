/- Configurations: lists of labels in order, both sides. -/
import Derived.Test.YtjfodknpphhajaaGreatVCmp
import Derived.Test.YtjfodknpphhajaaGreatSorted
import Derived.Test.YtjfodknpphhajaaGreatOrder
import Derived.Test.YtjfodknpphhajaaGreatMat
namespace Go.Proofs.YtjfodknpphhajaaGreat
open Go.GX Go.RowKit
set_option maxRecDepth 100000

/-! ### Lists in the dictionary's order -/

def cmpL : List Int → List Int → Int
  | [], [] => 0
  | [], _ :: _ => -1
  | _ :: _, [] => 1
  | x :: a, y :: b => if x < y then -1 else if y < x then 1 else cmpL a b

theorem cmpL_zero : ∀ {a b : List Int}, cmpL a b = 0 ↔ a = b
  | [], [] => by simp [cmpL]
  | [], _ :: _ => by simp [cmpL]
  | _ :: _, [] => by simp [cmpL]
  | x :: a, y :: b => by
    rw [cmpL, List.cons.injEq, ← cmpL_zero (a := a) (b := b)]
    by_cases h1 : x < y
    · rw [if_pos h1]
      constructor
      · intro h; omega
      · intro h; omega
    · by_cases h2 : y < x
      · rw [if_neg h1, if_pos h2]
        constructor
        · intro h; omega
        · intro h; omega
      · rw [if_neg h1, if_neg h2]
        constructor
        · intro h; exact ⟨by omega, h⟩
        · intro h; exact h.2

theorem cmpL_trans : ∀ {a b c : List Int}, cmpL a b < 0 → cmpL b c < 0 → cmpL a c < 0
  | [], [], _, h, _ => by simp [cmpL] at h
  | [], _ :: _, [], _, h => by simp [cmpL] at h
  | [], _ :: _, _ :: _, _, _ => by simp [cmpL]
  | _ :: _, [], _, h, _ => by simp [cmpL] at h
  | _ :: _, _ :: _, [], _, h => by simp [cmpL] at h
  | x :: a, y :: b, z :: c, h, h' => by
    rw [cmpL] at h h' ⊢
    by_cases h1 : x < y
    · by_cases h2 : y < z
      · rw [if_pos (by omega)]; omega
      · rw [if_neg h2] at h'
        by_cases h3 : z < y
        · rw [if_pos h3] at h'; omega
        · rw [if_pos (by omega)]; omega
    · rw [if_neg h1] at h
      by_cases h4 : y < x
      · rw [if_pos h4] at h; omega
      · rw [if_neg h4] at h
        by_cases h2 : y < z
        · rw [if_pos (by omega)]; omega
        · rw [if_neg h2] at h'
          by_cases h3 : z < y
          · rw [if_pos h3] at h'; omega
          · rw [if_neg h3] at h'
            rw [if_neg (by omega), if_neg (by omega)]
            exact cmpL_trans h h'

/-- What is asked of a list of configurations. -/
structure ConfOk (L : List (List Int)) (size labels : Int) : Prop where
  row : ∀ i (h : i < L.length), (L[i].length : Int) = size ∧ L[i].Pairwise (· ≤ ·) ∧ AllIn L[i] 0 (labels - 1)
  rise : ∀ i (h : i + 1 < L.length), cmpL L[i] L[i + 1] < 0

theorem ConfOk.lt {L : List (List Int)} {size labels : Int} (h : ConfOk L size labels) : ∀ j i (_ : i < j) (hj : j < L.length), cmpL (L[i]'(by omega)) L[j] < 0 := by
  intro j
  induction j with
  | zero => intro i hi; omega
  | succ j ih =>
    intro i hi hj
    have h1 := h.rise j hj
    rcases Nat.lt_or_eq_of_le (Nat.le_of_lt_succ hi) with h2 | h2
    · exact cmpL_trans (ih i h2 (by omega)) h1
    · subst h2; exact h1

/-- Pairwise in order, told by neighbours. -/
theorem sorted_next : ∀ {l : List Int}, (∀ k (h : k + 1 < l.length), l[k] ≤ l[k + 1]) ↔ l.Pairwise (· ≤ ·)
  | [] => by simp
  | [x] => by simp
  | x :: y :: l => by
    have ih := sorted_next (l := y :: l)
    rw [List.pairwise_cons, ← ih]
    constructor
    · intro h
      have ht : ∀ k (h : k + 1 < (y :: l).length), (y :: l)[k] ≤ (y :: l)[k + 1] := fun k hk => h (k + 1) (by simp at hk ⊢; omega)
      refine ⟨fun z hz => ?_, ht⟩
      have hxy : x ≤ y := h 0 (by simp)
      have hp := List.pairwise_cons.1 (ih.1 ht)
      rcases List.mem_cons.1 hz with rfl | hz
      · exact hxy
      · exact Int.le_trans hxy (hp.1 z hz)
    · rintro ⟨h1, h2⟩ k hk
      cases k with
      | zero => exact h1 y (by simp)
      | succ k => exact h2 k (by simp at hk ⊢; omega)

/-! ### Comparing -/

theorem isNaN_ok (x : Int) (w : World) : Calls Tryz.prog F.cmp_isNaN_int #[.int .i64 x] w (Ret [.at .bool] fun (b : Bool) w' => b = false ∧ w = w') := by
  refine C_cmp_isNaN_int ?_
  unfold V_cmp_isNaN_int
  exact ⟨by simp, rfl⟩

theorem cmpLess_ok (x y : Int) (w : World) : Calls Tryz.prog F.cmp_Less_int #[.int .i64 x, .int .i64 y] w (Ret [.at .bool] fun (b : Bool) w' => b = decide (x < y) ∧ w = w') := by
  refine C_cmp_Less_int ?_
  unfold V_cmp_Less_int
  refine call (isNaN_ok _ _) ?_
  rintro _ _ ⟨rfl, rfl⟩
  exact cond_b (fun h => by cases h) (fun _ => ⟨rfl, rfl⟩)

theorem cmpCompare_ok (x y : Int) (w : World) : Calls Tryz.prog F.cmp_Compare_int #[.int .i64 x, .int .i64 y] w (Ret [.at (.int .i64)] fun (r : Int) w' => r = (if x < y then -1 else if y < x then 1 else 0) ∧ w = w') := by
  refine C_cmp_Compare_int ?_
  unfold V_cmp_Compare_int
  refine call (isNaN_ok _ _) ?_
  rintro _ _ ⟨rfl, rfl⟩
  refine call (isNaN_ok _ _) ?_
  rintro _ _ ⟨rfl, rfl⟩
  refine cond_b (fun h => by cases h) (fun _ => cond_b (fun h => by cases h) (fun _ => ?_))
  refine cond_dec (fun h => ⟨by rw [if_pos h], rfl⟩) (fun h => cond_dec (fun h2 => ⟨by rw [if_neg h, if_pos h2], rfl⟩) (fun h2 => ⟨by rw [if_neg h, if_neg h2], rfl⟩))

theorem compare_ok {w : World} {s t : Sl} {a b : List Int} (ha : R w s a) (hb : R w t b) :
    Calls Tryz.prog F.slices_Compare_sl_int_int #[s.v, t.v] w (Ret [.at (.int .i64)] fun (r : Int) w' => r = cmpL a b ∧ w = w') := by
  refine C_slices_Compare_sl_int_int ?_
  unfold V_slices_Compare_sl_int_int
  rw [ha.len, hb.len]
  refine ⟨IN a.length fun i w' => w = w' ∧ i ≤ b.length ∧ cmpL a b = cmpL (a.drop i) (b.drop i), MN a.length, IN_zero ⟨rfl, by omega, by simp⟩, ?_⟩
  rintro _ _ ⟨i, rfl, hi, rfl, hib, he⟩
  intros
  refine cond_dec (fun hlt => ?_) (fun hge => ?_)
  · have hi' : i < a.length := by omega
    have hda : a.drop i = a[i] :: a.drop (i + 1) := List.drop_eq_getElem_cons hi'
    refine ha.ixI hi' fun q _ hc => LD_int hc ?_
    refine cond_dec (fun hge => ⟨?_, rfl⟩) (fun hlt2 => ?_)
    · have hdb0 : b.drop i = [] := List.drop_of_length_le (by omega)
      rw [he, hda, hdb0]; rfl
    have hi2 : i < b.length := by omega
    have hdb : b.drop i = b[i] :: b.drop (i + 1) := List.drop_eq_getElem_cons hi2
    refine hb.ixI hi2 fun q _ hc => LD_int hc ?_
    refine call (cmpCompare_ok _ _ _) ?_
    rintro _ _ ⟨rfl, rfl⟩
    rw [hda, hdb, cmpL] at he
    refine cond_ne (fun hne => ⟨?_, rfl⟩) (fun heq => ?_)
    · rw [he]
      by_cases h1 : a[i] < b[i]
      · rw [if_pos h1, if_pos h1]
      · by_cases h2 : b[i] < a[i]
        · rw [if_neg h1, if_pos h2, if_neg h1, if_pos h2]
        · rw [if_neg h1, if_neg h2] at hne; exact absurd rfl hne
    · have h1 : ¬ a[i] < b[i] := fun h => by
        have heq' : (if a[i] < b[i] then (-1 : Int) else if b[i] < a[i] then 1 else 0) = 0 := heq
        rw [if_pos h] at heq'; omega
      have h2 : ¬ b[i] < a[i] := fun h => by
        have heq' : (if a[i] < b[i] then (-1 : Int) else if b[i] < a[i] then 1 else 0) = 0 := heq
        rw [if_neg h1, if_pos h] at heq'; omega
      rw [if_neg h1, if_neg h2] at he
      exact IN_next ha.le hi' ⟨rfl, by omega, he⟩
  · have : i = a.length := by omega
    subst this
    rw [List.drop_length] at he
    refine cond_dec (fun hlt => ⟨?_, rfl⟩) (fun hge2 => ⟨?_, rfl⟩)
    · have hi2 : a.length < b.length := by omega
      rw [he, List.drop_eq_getElem_cons hi2]; rfl
    · rw [he, List.drop_of_length_le (by omega)]; rfl

theorem isSorted_ok {w : World} {s : Sl} {l : List Int} (h : R w s l) :
    Calls Tryz.prog F.slices_IsSorted_sl_int_int #[s.v] w (Ret [.at .bool] fun (b : Bool) w' => (b = true ↔ l.Pairwise (· ≤ ·)) ∧ Ext w w') := by
  refine C_slices_IsSorted_sl_int_int ?_
  unfold V_slices_IsSorted_sl_int_int
  have hle := h.le
  rw [h.len, wrap_of (by omega) (by omega)]
  rw [← sorted_next]
  refine ⟨fun (i : Int) w' => Ext w w' ∧ -1 ≤ i ∧ i ≤ (l.length : Int) - 1 ∧ ∀ k (hk : k + 1 < l.length), i ≤ k → l[k] ≤ l[k + 1], fun i _ => (i + 1).toNat, ⟨Ext.refl _, by omega, by omega, fun k hk hi => by omega⟩, ?_⟩
  rintro i w1 ⟨hE, hi0, hi1, hall⟩
  intros
  refine cond_dec (fun hpos => ?_) (fun hnp => ⟨by simp only [true_iff]; exact fun k hk => hall k hk (by omega), hE⟩)
  obtain ⟨m, rfl⟩ : ∃ m : Nat, i = (m : Int) + 1 := ⟨(i - 1).toNat, by omega⟩
  have hm : m + 1 < l.length := by omega
  have hcast : (m : Int) + 1 = ((m + 1 : Nat) : Int) := by omega
  rw [show (m : Int) + 1 - 1 = (m : Int) by omega, wrap_of (n := (m : Int)) (by omega) (by omega), hcast]
  refine (h.ext hE).ixI hm fun q _ hc => LD_int hc ?_
  refine (h.ext hE).ixI (i := m) (by omega) fun q _ hc => LD_int hc ?_
  refine QCALL_bool (decide (l[m + 1] < l[m])) (fun w' _ => call (cmpLess_ok _ _ _) fun _ _ ⟨h1, h2⟩ => ⟨h1, h2 ▸ Ext.refl _⟩) ?_
  intro w2 hE2
  refine cond_dec (fun hlt => ⟨?_, hE.trans hE2⟩) (fun hge => ?_)
  · simp only [Bool.false_eq_true, false_iff]
    intro hh
    have := hh m hm
    omega
  · refine ⟨⟨hE.trans hE2, by omega, by omega, fun k hk hmk => ?_⟩, by simp only; omega⟩
    by_cases he : k = m
    · subst he; omega
    · exact hall k hk (by omega)

theorem configurationsOk_ok {w : World} {s : Sl} {L : List (List Int)} (h : R w s L) {size labels : Int} (hb : 1 ≤ labels ∧ labels ≤ 8) :
    Calls Tryz.prog F.i_configurationsOk #[s.v, .int .i64 size, .int .i64 labels] w (Ret [.at .bool] fun (b : Bool) w' => (b = true ↔ ConfOk L size labels) ∧ Ext w w') := by
  refine C_i_configurationsOk ?_
  unfold V_i_configurationsOk
  have hle := h.le
  rw [h.len, wrap_of (n := labels - 1) (by omega) (by omega)]
  refine ⟨IN L.length fun i w' => Ext w w' ∧ (∀ u < i, ∀ (hu : u < L.length), (L[u].length : Int) = size ∧ L[u].Pairwise (· ≤ ·) ∧ AllIn L[u] 0 (labels - 1)) ∧ ∀ u, u + 1 < i → ∀ (hu : u + 1 < L.length), cmpL L[u] L[u + 1] < 0, MN L.length, IN_zero ⟨Ext.refl _, fun u hu => absurd hu (by omega), fun u hu => absurd hu (by omega)⟩, ?_⟩
  rintro _ w1 ⟨i, rfl, hi, hE, h1, h2⟩
  intros
  refine cond_dec (fun hlt => ?_) (fun hge => ?_)
  rotate_left
  · have : i = L.length := by omega
    subst this
    exact ⟨by simp only [true_iff]; exact ⟨fun u hu => h1 u hu hu, fun u hu => h2 u hu hu⟩, hE⟩
  have hi' : i < L.length := by omega
  refine (h.ext hE).ixL hi' fun q s1 hR1 hc => LD_sl hc ?_
  rw [hR1.len]
  refine cond_ne (fun hne => ⟨?_, hE⟩) (fun heq => ?_)
  · simp only [Bool.false_eq_true, false_iff]
    exact fun hC => hne (hC.row i hi').1
  refine call (isSorted_ok hR1.any) ?_
  rintro x w2 ⟨hx, hE2⟩
  refine cond_not (fun hf => ⟨?_, hE.trans hE2⟩) (fun ht => ?_)
  · simp only [Bool.false_eq_true, false_iff]
    intro hC
    rw [hx.2 (hC.row i hi').2.1] at hf; cases hf
  refine call (allWithin_ok (hR1.any.ext hE2) 0 (labels - 1)) ?_
  rintro y w3 ⟨hy, hE3⟩
  have hE13 := hE2.trans hE3
  have hEt := hE.trans hE13
  refine cond_not (fun hf => ⟨?_, hEt⟩) (fun ht2 => ?_)
  · simp only [Bool.false_eq_true, false_iff]
    intro hC
    rw [hy.2 (hC.row i hi').2.2] at hf; cases hf
  have hrow : (L[i].length : Int) = size ∧ L[i].Pairwise (· ≤ ·) ∧ AllIn L[i] 0 (labels - 1) := ⟨heq, hx.1 ht, hy.1 ht2⟩
  refine cond_dec (fun hpos => ?_) (fun hnp => ?_)
  · obtain ⟨j, rfl⟩ : ∃ j, i = j + 1 := ⟨i - 1, by omega⟩
    rw [show ((j + 1 : Nat) : Int) - 1 = (j : Int) by omega, wrap_of (n := (j : Int)) (by omega) (by omega)]
    refine (h.ext hEt).ixL (i := j) (by omega) fun q s2 hR2 hc => LD_sl hc ?_
    refine call (compare_ok hR2.any (hR1.any.ext hE13)) ?_
    rintro _ _ ⟨rfl, rfl⟩
    refine cond_dec (fun hge => ⟨?_, hEt⟩) (fun hlt2 => ?_)
    · simp only [Bool.false_eq_true, false_iff]
      intro hC
      have := hC.rise j hi'
      omega
    · refine IN_next hle hi' ⟨hEt, all_succ h1 fun _ => hrow, fun u hu hu2 => ?_⟩
      by_cases he : u = j
      · subst he; omega
      · exact h2 u (by omega) hu2
  · refine IN_next hle hi' ⟨hEt, all_succ h1 fun _ => hrow, fun u hu => absurd hu (by omega)⟩

/-! ### The reference's side -/

theorem l1Sign_ok (n : Int) (w : World) : Calls Tryz.prog F.s_l1Sign #[.int .i64 n] w (Ret [.at (.int .i64)] fun (r : Int) w' => r = (if n < 0 then -1 else if 0 < n then 1 else 0) ∧ w = w') := by
  refine C_s_l1Sign ?_
  unfold V_s_l1Sign
  refine cond_dec (fun h => ⟨by rw [if_neg (by omega), if_pos h], rfl⟩) (fun h => cond_dec (fun h2 => ⟨by rw [if_pos h2], rfl⟩) (fun h2 => ⟨by rw [if_neg h2, if_neg h], rfl⟩))

theorem prOrder_ok {w : World} {s t : Sl} {a b : List Int} (ha : R w s a) (hb : R w t b) (hl : a.length = b.length) {c : Int} (hc8 : c ≤ 1000) (hA : AllIn a 0 c) (hB : AllIn b 0 c) :
    Calls Tryz.prog F.s_prOrder #[s.v, t.v] w (Ret [.at (.int .i64)] fun (r : Int) w' => r = cmpL a b ∧ w = w') := by
  refine C_s_prOrder ?_
  unfold V_s_prOrder
  rw [ha.len]
  refine ⟨IN a.length fun i w' => w = w' ∧ cmpL a b = cmpL (a.drop i) (b.drop i), MN a.length, IN_zero ⟨rfl, by simp⟩, ?_⟩
  rintro _ _ ⟨i, rfl, hi, rfl, he⟩
  intros
  refine cond_dec (fun hlt => ?_) (fun hge => ?_)
  · have hi' : i < a.length := by omega
    have hi2 : i < b.length := by omega
    have hda : a.drop i = a[i] :: a.drop (i + 1) := List.drop_eq_getElem_cons hi'
    have hdb : b.drop i = b[i] :: b.drop (i + 1) := List.drop_eq_getElem_cons hi2
    have h1 := hA _ (List.getElem_mem hi')
    have h2 := hB _ (List.getElem_mem hi2)
    rw [hda, hdb, cmpL] at he
    refine ha.ixI hi' fun q _ hc => LD_int hc ?_
    refine hb.ixI hi2 fun q _ hc => LD_int hc ?_
    refine cond_ne (fun hne => ?_) (fun heq => ?_)
    · refine hb.ixI hi2 fun q _ hc => LD_int hc ?_
      rw [wrap_of (by omega) (by omega)]
      refine call (l1Sign_ok _ _) ?_
      rintro _ _ ⟨rfl, rfl⟩
      refine ⟨?_, rfl⟩
      rw [he]
      by_cases h3 : a[i] < b[i]
      · rw [if_pos h3, if_pos (by omega)]
      · have hne' : a[i] ≠ b[i] := hne
        rw [if_neg h3, if_neg (by omega), if_pos (by omega), if_pos (by omega)]
    · have heq' : a[i] = b[i] := heq
      rw [if_neg (by omega), if_neg (by omega)] at he
      exact IN_next ha.le hi' ⟨rfl, he⟩
  · have : i = a.length := by omega
    subst this
    rw [List.drop_length, List.drop_of_length_le (by omega)] at he
    exact ⟨he.symm, rfl⟩

theorem prLists_k4 {w0 w : World} {s1 : Sl} {l : List Int} (hR : R w s1 l) {size : Int} (hs : (l.length : Int) = size) {I : Int → World → Prop} {m : Int → World → Nat} {x : Int} {w1 : World} {Q : Bool → World → Prop} (hE : Ext w0 w)
    (hno : ¬ l.Pairwise (· ≤ ·) → ∀ w', Ext w0 w' → Q false w')
    (hyes : l.Pairwise (· ≤ ·) → ∀ w', Ext w0 w' → I (IntKind.i64.wrap (x + 1)) w' ∧ m (IntKind.i64.wrap (x + 1)) w' < m x w1) :
    V_s_prLists_k4 I m x w1 size Q s1 w := by
  unfold V_s_prLists_k4
  have hle := hR.le
  rw [← sorted_next] at hno hyes
  refine ⟨fun (k : Int) w' => ∃ j : Nat, k = (j : Int) + 1 ∧ (j = 0 ∨ j + 1 ≤ l.length) ∧ Ext w w' ∧ ∀ u < j, ∀ (hu : u + 1 < l.length), l[u] ≤ l[u + 1], fun k _ => (size - k).toNat, ⟨0, rfl, .inl rfl, Ext.refl _, fun u hu => absurd hu (by omega)⟩, ?_⟩
  rintro _ w5 ⟨j, rfl, hj, hE5, hall⟩
  intros
  refine cond_dec (fun hlt => ?_) (fun hge => hyes (fun u hu => hall u (by omega) hu) _ (hE.trans hE5))
  have hj' : j + 1 < l.length := by omega
  rw [show (j : Int) + 1 - 1 = (j : Int) by omega, wrap_of (n := (j : Int)) (by omega) (by omega), show (j : Int) + 1 = ((j + 1 : Nat) : Int) by omega]
  refine (hR.ext hE5).ixI (i := j) (by omega) fun q _ hc => LD_int hc ?_
  refine (hR.ext hE5).ixI hj' fun q _ hc => LD_int hc ?_
  intro w6 hE6
  refine cond_dec (fun hgt => hno (fun hh => ?_) _ (hE.trans (hE5.trans hE6))) (fun hng => ?_)
  · have := hh j hj'
    omega
  · rw [wrap_of (n := ((j + 1 : Nat) : Int) + 1) (by omega) (by omega)]
    exact ⟨⟨j + 1, by omega, .inr (by omega), hE5.trans hE6, all_succ hall fun _ => by omega⟩, by simp only; omega⟩

theorem prLists_ok {w : World} {s : Sl} {L : List (List Int)} (h : R w s L) {size labels : Int} (hb : 1 ≤ labels ∧ labels ≤ 8) :
    Calls Tryz.prog F.s_prLists #[s.v, .int .i64 size, .int .i64 labels] w (Ret [.at .bool] fun (b : Bool) w' => (b = true ↔ ConfOk L size labels) ∧ Ext w w') := by
  refine C_s_prLists ?_
  unfold V_s_prLists
  have hle := h.le
  rw [h.len, wrap_of (n := labels - 1) (by omega) (by omega)]
  refine ⟨IN L.length fun i w' => Ext w w' ∧ (∀ u < i, ∀ (hu : u < L.length), (L[u].length : Int) = size ∧ L[u].Pairwise (· ≤ ·) ∧ AllIn L[u] 0 (labels - 1)) ∧ ∀ u, u + 1 < i → ∀ (hu : u + 1 < L.length), cmpL L[u] L[u + 1] < 0, MN L.length, IN_zero ⟨Ext.refl _, fun u hu => absurd hu (by omega), fun u hu => absurd hu (by omega)⟩, ?_⟩
  rintro _ w1 ⟨i, rfl, hi, hE, h1, h2⟩
  intros
  refine cond_dec (fun hlt => ?_) (fun hge => ?_)
  rotate_left
  · have : i = L.length := by omega
    subst this
    exact ⟨by simp only [true_iff]; exact ⟨fun u hu => h1 u hu hu, fun u hu => h2 u hu hu⟩, hE⟩
  have hi' : i < L.length := by omega
  refine (h.ext hE).ixL hi' fun q s1 hR1 hc => LD_sl hc ?_
  rw [hR1.len]
  refine cond_ne (fun hne => ⟨?_, hE⟩) (fun heq => ?_)
  · simp only [Bool.false_eq_true, false_iff]
    exact fun hC => hne (hC.row i hi').1
  refine call (l1All_ok hR1.any 0 (labels - 1)) ?_
  rintro y _ ⟨hy, rfl⟩
  refine cond_not (fun hf => ⟨?_, hE⟩) (fun ht2 => ?_)
  · simp only [Bool.false_eq_true, false_iff]
    intro hC
    rw [hy.2 (hC.row i hi').2.2] at hf; cases hf
  have hall := hy.1 ht2
  have hno : ¬ L[i].Pairwise (· ≤ ·) → ∀ w', Ext w w' → (false = true ↔ ConfOk L size labels) ∧ Ext w w' := fun hn w' hE' => ⟨by simp only [Bool.false_eq_true, false_iff]; exact fun hC => hn (hC.row i hi').2.1, hE'⟩
  refine cond_dec (fun hpos => ?_) (fun hnp => ?_)
  · obtain ⟨j, rfl⟩ : ∃ j, i = j + 1 := ⟨i - 1, by omega⟩
    rw [show ((j + 1 : Nat) : Int) - 1 = (j : Int) by omega, wrap_of (n := (j : Int)) (by omega) (by omega)]
    refine (h.ext hE).ixL (i := j) (by omega) fun q s2 hR2 hc => LD_sl hc ?_
    have hrj := h1 j (by omega) (by omega)
    refine call (prOrder_ok hR2.any hR1.any (by omega) (c := labels - 1) (by omega) hrj.2.2 hall) ?_
    rintro _ _ ⟨rfl, rfl⟩
    refine cond_dec (fun hge => ⟨?_, hE⟩) (fun hlt2 => ?_)
    · simp only [Bool.false_eq_true, false_iff]
      intro hC
      have := hC.rise j hi'
      omega
    · refine prLists_k4 hR1.any heq hE hno fun hs w' hE' => IN_next hle hi' ⟨hE', all_succ h1 fun _ => ⟨heq, hs, hall⟩, fun u hu hu2 => ?_⟩
      by_cases he : u = j
      · subst he; omega
      · exact h2 u (by omega) hu2
  · refine prLists_k4 hR1.any heq hE hno fun hs w' hE' => IN_next hle hi' ⟨hE', all_succ h1 fun _ => ⟨heq, hs, hall⟩, fun u hu => absurd hu (by omega)⟩

end Go.Proofs.YtjfodknpphhajaaGreat
