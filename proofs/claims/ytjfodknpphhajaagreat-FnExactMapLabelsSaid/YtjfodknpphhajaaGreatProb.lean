/- Problems: their configurations looked up, what is asked of them, both sides. -/
import Derived.Test.YtjfodknpphhajaaGreatConf
import Derived.Test.YtjfodknpphhajaaGreatCopy
import Derived.Test.YtjfodknpphhajaaGreatLib
namespace Go.Proofs.YtjfodknpphhajaaGreat
open Go.GX Go.RowKit
set_option maxRecDepth 100000

/-! ### Looking up -/

theorem mid_nat {a b : Nat} (h : a + b ≤ 9000000000000000000) : IntKind.i64.wrap (shrI .u64 (IntKind.u64.wrap (IntKind.i64.wrap ((a : Int) + (b : Int)))) 1) = (((a + b) / 2 : Nat) : Int) := by
  rw [wrap_of (n := (a : Int) + (b : Int)) (by omega) (by omega), show (a : Int) + (b : Int) = ((a + b : Nat) : Int) by omega, wrap_u64 (by omega) (by omega)]
  have h1 := shr_nat .u64 (a + b) 1 (by decide)
  have e : shrI .u64 ((a + b : Nat) : Int) 1 = (((a + b) / 2 : Nat) : Int) := by simpa using h1
  rw [e, wrap_of (by omega) (by omega)]

theorem search_ok {w : World} {s t : Sl} {L : List (List Int)} {T0 : List Int} (h : R w s L) (ht : R w t T0) (hr : ∀ j i (_ : i < j) (hj : j < L.length), cmpL (L[i]'(by omega)) L[j] < 0) (hl : L.length ≤ 1048576) :
    Calls Tryz.prog F.slices_BinarySearchFunc_sl_sl_int_sl_int_sl_int #[s.v, t.v, .func (.func F.slices_Compare_sl_int_int) #[] #[]] w (Ret [.at (.int .i64), .at .bool] fun (_ : Int) (b : Bool) w' => b = decide (T0 ∈ L) ∧ w = w') := by
  refine C_slices_BinarySearchFunc_sl_sl_int_sl_int_sl_int ?_
  unfold V_slices_BinarySearchFunc_sl_sl_int_sl_int_sl_int
  rw [h.len]
  have hcmp : ∀ {s' : Sl} {a : List Int}, R w s' a → CALLV Tryz.prog (.func (.func F.slices_Compare_sl_int_int) #[] #[]) #[s'.v, t.v] w (Ret [.at (.int .i64)] fun (r : Int) w' => r = cmpL a T0 ∧ w = w') := fun hs => CALLV_mk (by kernel_rfl) (compare_ok hs ht)
  refine ⟨fun (i j : Int) w' => w = w' ∧ ∃ a b : Nat, i = a ∧ j = b ∧ a ≤ b ∧ b ≤ L.length ∧ (∀ k (hk : k < L.length), k < a → cmpL L[k] T0 < 0) ∧ ∀ k (hk : k < L.length), b ≤ k → 0 ≤ cmpL L[k] T0, fun i j _ => (j - i).toNat,
    ⟨rfl, 0, L.length, rfl, rfl, by omega, by omega, fun k hk h => by omega, fun k hk h => by omega⟩, ?_⟩
  rintro _ _ _ ⟨rfl, a, b, rfl, rfl, hab, hbl, h1, h2⟩
  intros
  refine cond_dec (fun hlt => ⟨by omega, ?_⟩) (fun hge => ?_)
  · rw [mid_nat (by omega)]
    generalize hm : (a + b) / 2 = m
    have hmL : m < L.length := by omega
    refine h.ixL hmL fun q s1 hR1 hc => LD_sl hc ?_
    refine callv (hcmp hR1.any) ?_
    rintro _ _ ⟨rfl, rfl⟩
    refine cond_dec (fun hneg => ?_) (fun hnn => ?_)
    · rw [wrap_of (n := (m : Int) + 1) (by omega) (by omega)]
      refine ⟨⟨rfl, m + 1, b, by omega, rfl, by omega, hbl, fun k hk hka => ?_, h2⟩, by simp only; omega⟩
      by_cases he : k = m
      · subst he; exact hneg
      · exact cmpL_trans (hr m k (by omega) hmL) hneg
    · refine ⟨⟨rfl, a, m, rfl, rfl, by omega, by omega, h1, fun k hk hmk => ?_⟩, by simp only; omega⟩
      by_cases he : k = m
      · subst he; omega
      · by_cases hc0 : cmpL L[k] T0 < 0
        · have := cmpL_trans (hr k m (by omega) hk) hc0
          omega
        · omega
  · have hab' : a = b := by omega
    subst hab'
    have hmem : ∀ (hk : a < L.length), T0 ∈ L ↔ cmpL L[a] T0 = 0 := fun hk => by
      constructor
      · intro hT
        obtain ⟨m, hm, hme⟩ := List.mem_iff_getElem.1 hT
        have hm0 : cmpL L[m] T0 = 0 := cmpL_zero.2 hme
        rcases Nat.lt_trichotomy m a with hlt | heq | hgt
        · have := h1 m hm hlt; omega
        · subst heq; exact hm0
        · have h3 := hr m a hgt hm
          have h4 := h2 a hk (Nat.le_refl _)
          rw [hme] at h3
          omega
      · intro hz
        rw [← cmpL_zero.1 hz]; exact List.getElem_mem hk
    refine cond_dec (fun hlt => ?_) (fun hge2 => ?_)
    · have hk : a < L.length := by omega
      refine h.ixL hk fun q s1 hR1 hc => LD_sl hc ?_
      refine callv (hcmp hR1.any) ?_
      rintro _ _ ⟨rfl, rfl⟩
      refine ⟨?_, rfl⟩
      rw [Bool.eq_iff_iff, decide_eq_true_eq, hmem hk, beq_iff_eq]
    · refine ⟨?_, rfl⟩
      have : ¬ T0 ∈ L := fun hT => by
        obtain ⟨m, hm, hme⟩ := List.mem_iff_getElem.1 hT
        have := h1 m hm (by omega)
        rw [hme, cmpL_zero.2 rfl] at this
        omega
      simp [this]

theorem hasConfiguration_ok {w : World} {s t : Sl} {L : List (List Int)} {l : List Int} (h : R w s L) (ht : R w t l) (hr : ∀ j i (_ : i < j) (hj : j < L.length), cmpL (L[i]'(by omega)) L[j] < 0) (hl : L.length ≤ 1048576) (hll : l.length ≤ 1048576) :
    Calls Tryz.prog F.i_hasConfiguration #[s.v, t.v] w (Ret [.at .bool] fun (b : Bool) w' => b = decide (sortI l ∈ L) ∧ Ext w w') := by
  refine C_i_hasConfiguration ?_
  unfold V_i_hasConfiguration
  refine values_ok fun w1 hE1 hc1 => ?_
  refine call (sorted_ok hc1 (ht.ext hE1) hll) ?_
  rintro r w2 ⟨hE2, hO2⟩
  have hE := hE1.trans hE2
  refine call (search_ok (h.ext hE) (hO2.rep (sortI_I64 (flat_ok ht))).any hr hl) ?_
  rintro i b _ ⟨rfl, rfl⟩
  exact ⟨rfl, hE⟩

/-! ### The reference's looking up -/

theorem l1Same_ok {w : World} {s t : Sl} {a b : List Int} (ha : R w s a) (hb : R w t b) :
    Calls Tryz.prog F.s_l1Same #[s.v, t.v] w (Ret [.at .bool] fun (r : Bool) w' => r = decide (a = b) ∧ Ext w w') := by
  refine C_s_l1Same ?_
  unfold V_s_l1Same
  rw [ha.len, hb.len]
  refine cond_ne (fun hne => ⟨?_, Ext.refl _⟩) (fun heq => ?_)
  · have : a ≠ b := fun he => hne (by rw [he])
    simp [this]
  have hl : a.length = b.length := by have heq' : ((a.length : Nat) : Int) = (b.length : Nat) := heq; omega
  refine ⟨IN a.length fun i w' => Ext w w' ∧ ∀ u < i, a[u]? = b[u]?, MN a.length, IN_zero ⟨Ext.refl _, fun u hu => absurd hu (by omega)⟩, ?_⟩
  rintro _ w1 ⟨i, rfl, hi, hE, hI⟩
  intros
  refine cond_dec (fun hlt => ?_) (fun hge => ?_)
  · have hi' : i < a.length := by omega
    have hi2 : i < b.length := by omega
    refine (ha.ext hE).ixI hi' fun q _ hc => LD_int hc ?_
    refine (hb.ext hE).ixI hi2 fun q _ hc => LD_int hc ?_
    intro w2 hE2
    refine cond_ne (fun hne => ⟨?_, hE.trans hE2⟩) (fun heq => IN_next ha.le hi' ⟨hE.trans hE2, all_succ hI ?_⟩)
    · have : a ≠ b := fun he => by subst he; exact hne rfl
      simp [this]
    · have heq' : a[i] = b[i] := heq
      simp [hi', hi2, heq']
  · have : i = a.length := by omega
    subst this
    have : a = b := by
      apply List.ext_getElem?
      intro u
      by_cases hu : u < a.length
      · exact hI u hu
      · rw [List.getElem?_eq_none (by omega), List.getElem?_eq_none (by omega)]
    exact ⟨by simp [this], hE⟩

theorem prHas_ok {w : World} {s t : Sl} {L : List (List Int)} {l : List Int} (h : R w s L) (ht : R w t l) :
    Calls Tryz.prog F.s_prHas #[s.v, t.v] w (Ret [.at .bool] fun (b : Bool) w' => b = decide (l ∈ L) ∧ Ext w w') := by
  refine C_s_prHas ?_
  unfold V_s_prHas
  rw [h.len]
  refine ⟨IN L.length fun i w' => Ext w w' ∧ l ∉ L.take i, MN L.length, IN_zero ⟨Ext.refl _, by simp⟩, ?_⟩
  rintro _ w1 ⟨i, rfl, hi, hE, hI⟩
  intros
  refine cond_dec (fun hlt => ?_) (fun hge => ?_)
  · have hi' : i < L.length := by omega
    refine (h.ext hE).ixL hi' fun q s1 hR1 hc => LD_sl hc ?_
    refine call (l1Same_ok (ht.ext hE) hR1.any) ?_
    rintro _ w2 ⟨rfl, hE2⟩
    refine cond_dec (fun he => ⟨?_, hE.trans hE2⟩) (fun hne => IN_next h.le hi' ⟨hE.trans hE2, not_mem_take_succ hi' hI fun he => hne he.symm⟩)
    have : l ∈ L := by rw [he]; exact List.getElem_mem hi'
    simp [this]
  · have : i = L.length := by omega
    subst this
    rw [List.take_length] at hI
    exact ⟨by simp [hI], hE⟩

/-- Sorting by inserting. -/
theorem swap_perm {l : List Int} {k : Nat} (hk : k + 1 < l.length) : ((l.set (k + 1) l[k]).set k l[k + 1]).Perm l := by
  have hl : l = l.take k ++ l[k] :: l[k + 1] :: l.drop (k + 2) := by
    rw [← List.drop_eq_getElem_cons hk, ← List.drop_eq_getElem_cons (show k < l.length by omega), List.take_append_drop]
  have hlen : (l.take k).length = k := by simp; omega
  generalize l[k] = x at *
  generalize l[k + 1] = y at *
  generalize hA : l.take k = A at *
  generalize hB : l.drop (k + 2) = B at *
  rw [hl, List.set_append_right _ _ (by omega), hlen, show k + 1 - k = 1 by omega, List.set_cons_succ, List.set_cons_zero, List.set_append_right _ _ (by omega), hlen, Nat.sub_self, List.set_cons_zero]
  exact List.Perm.append_left _ (List.Perm.swap _ _ _)

def InsInv (M : List Int) (i k : Nat) : Prop := ∀ u v (_ : u < v) (hv : v < M.length), v ≤ i → v ≠ k → M[u]'(by omega) ≤ M[v]

theorem ins_swap {M : List Int} {i k : Nat} (hk : k + 1 < M.length) (hi : i < M.length) (hki : k + 1 ≤ i) (h : InsInv M i (k + 1)) (hgt : M[k] > M[k + 1]) : InsInv ((M.set (k + 1) M[k]).set k M[k + 1]) i k := by
  intro u v huv hv hvi hvk
  have hvM : v < M.length := by simpa using hv
  rw [List.getElem_set, List.getElem_set, List.getElem_set, List.getElem_set]
  by_cases h1 : k = u
  · subst h1
    rw [if_pos rfl, if_neg (by omega)]
    by_cases h2 : k + 1 = v
    · subst h2; rw [if_pos rfl]; omega
    · rw [if_neg h2]
      exact h (k + 1) v (by omega) hvM hvi (by omega)
  · rw [if_neg h1, if_neg (by omega : ¬ k = v)]
    by_cases h3 : k + 1 = u
    · subst h3
      rw [if_pos rfl, if_neg (by omega)]
      exact h k v (by omega) hvM hvi (by omega)
    · rw [if_neg h3]
      by_cases h2 : k + 1 = v
      · subst h2; rw [if_pos rfl]
        exact h u k (by omega) (by omega) (by omega) (by omega)
      · rw [if_neg h2]
        exact h u v huv hvM hvi (by omega)

theorem ins_done {M : List Int} {i k : Nat} (hi : i < M.length) (hki : k ≤ i) (h : InsInv M i k) (hle : k = 0 ∨ ∃ j, ∃ hj : j + 1 < M.length, k = j + 1 ∧ M[j] ≤ M[j + 1]) : InsInv M i (i + 1) := by
  intro u v huv hv hvi _
  by_cases hvk : v = k
  · subst hvk
    rcases hle with h0 | ⟨j, hj, rfl, hjl⟩
    · omega
    · rcases Nat.lt_or_eq_of_le (Nat.le_of_lt_succ huv) with h1 | h1
      · exact Int.le_trans (h u j h1 (by omega) (by omega) (by omega)) hjl
      · subst h1; exact hjl
  · exact h u v huv hv hvi hvk

theorem prSorted_ok {w : World} {s : Sl} {l : List Int} (h : R w s l) (hl : l.length ≤ 1048576) :
    Calls Tryz.prog F.s_prSorted #[s.v] w (Ret [.at .sl] fun (r : Sl) w' => Ext w w' ∧ OwnL w' w.heap.size T.t_int r (sortI l)) := by
  refine C_s_prSorted ?_
  unfold V_s_prSorted
  refine call (l1Own_ok h hl) ?_
  rintro r w1 ⟨hE1, hO1⟩
  have hok := flat_ok h
  rw [hO1.1]
  refine ⟨IN l.length fun i w' => Ext w w' ∧ ∃ M : List Int, OwnL w' w.heap.size T.t_int r M ∧ M.Perm l ∧ InsInv M i i, MN l.length, IN_zero ⟨hE1, l, hO1, List.Perm.refl _, fun u v huv hv hvi hne => absurd hvi (by omega)⟩, ?_⟩
  rintro _ w2 ⟨i, rfl, hi, hE2, M, hO2, hp2, hI2⟩
  intros
  refine cond_dec (fun hlt => ?_) (fun hge => ?_)
  rotate_left
  · have hil : i = l.length := by omega
    subst hil
    have hsort : M.Pairwise (· ≤ ·) := List.pairwise_iff_getElem.2 fun u v hu hv huv => hI2 u v huv hv (by have := hp2.length_eq; omega) (by have := hp2.length_eq; omega)
    have he : M = sortI l := (hp2.trans (sortI_perm l).symm).eq_of_pairwise (fun a b _ _ h1 h2 => Int.le_antisymm h1 h2) hsort (sortI_sorted l)
    rw [he] at hO2
    exact ⟨hE2, hO2⟩
  have hi' : i < l.length := by omega
  refine ⟨fun (k : Int) w' => ∃ j : Nat, k = j ∧ j ≤ i ∧ Ext w w' ∧ ∃ M : List Int, OwnL w' w.heap.size T.t_int r M ∧ M.Perm l ∧ InsInv M i j, fun k _ => k.toNat, ⟨i, rfl, Nat.le_refl _, hE2, M, hO2, hp2, hI2⟩, ?_⟩
  rintro _ w3 ⟨j, rfl, hj, hE3, M3, hO3, hp3, hI3⟩
  intros
  have hlen3 := hp3.length_eq
  have hnext : ∀ w', Ext w3 w' → InsInv M3 i (i + 1) → IN l.length (fun i w' => Ext w w' ∧ ∃ M : List Int, OwnL w' w.heap.size T.t_int r M ∧ M.Perm l ∧ InsInv M i i) (IntKind.i64.wrap ((i : Int) + 1)) w' ∧ MN l.length (IntKind.i64.wrap ((i : Int) + 1)) w' < MN l.length (i : Int) w2 := fun w' hE' hI' => by
    refine IN_next (by omega) hi' ⟨hE3.trans hE', M3, hO3.ext hE', hp3, fun u v huv hv hvi hne => hI' u v huv hv (by omega) (by omega)⟩
  refine cond_dec (fun hpos => ?_) (fun hnp => fun w5 hE5 => ?_)
  rotate_left
  · have : j = 0 := by omega
    subst this
    exact hnext w5 hE5 (ins_done (by omega) (by omega) hI3 (.inl rfl))
  obtain ⟨m, rfl⟩ : ∃ m, j = m + 1 := ⟨j - 1, by omega⟩
  have hm1 : m + 1 < M3.length := by omega
  have hok3 : ∀ x ∈ M3, I64 x := fun x hx => hok x (hp3.mem_iff.1 hx)
  rw [show ((m + 1 : Nat) : Int) - 1 = (m : Int) by omega, wrap_of (n := (m : Int)) (by omega) (by omega)]
  have hR3 := (hO3.rep hok3).any
  refine hR3.ixI (i := m) (by omega) fun q _ hc => LD_int hc ?_
  refine hR3.ixI hm1 fun q _ hc => LD_int hc ?_
  intro w4 hE4
  refine cond_dec (fun hgt => ?_) (fun hng => ?_)
  · have hO4 := hO3.ext hE4
    have hR4 := hR3.ext hE4
    refine hR4.ixI hm1 fun q _ hc => LD_int hc ?_
    refine hR4.ixI (i := m) (by omega) fun q _ hc => LD_int hc ?_
    refine IX_own hO4 hm1 rfl fun q hq => ?_
    refine ST_own hO4 hm1 hq M3[m] rfl fun w8 hO8 hs8 => ?_
    refine IX_own hO8 (i := m) (by simp; omega) rfl fun q2 hq2 => ?_
    refine ST_own hO8 (by simp; omega) hq2 M3[m + 1] rfl fun w9 hO9 hs9 => ?_
    have hEw := hE3.trans hE4
    have hE8 := hs8.ext0 hEw (fun k hk => (hO4.blk k hk).1)
    have hE9 := hs9.ext0 hE8 (fun k hk => (hO8.blk k hk).1)
    exact ⟨⟨m, rfl, by omega, hE9, _, hO9, (swap_perm hm1).trans hp3, ins_swap hm1 (by omega) (by omega) hI3 hgt⟩, by simp only; omega⟩
  · exact hnext w4 hE4 (ins_done (by omega) hj hI3 (.inr ⟨m, hm1, rfl, by omega⟩))

end Go.Proofs.YtjfodknpphhajaaGreat
