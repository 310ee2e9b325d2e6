/- Subsets of a size in order, all subsets by falling bits, and the first of the least ones, in plain words: no program in sight. -/
import Derived.Test.YtoeaoinedidbiaaDom
namespace Go.Proofs.Ytoeaoinedidbiaa

/-- The number of subsets of a size. -/
def ch : Nat → Nat → Nat
  | _, 0 => 1
  | 0, _ + 1 => 0
  | n + 1, k + 1 => ch n k + ch n (k + 1)

theorem ch_zero (n : Nat) : ch n 0 = 1 := by cases n <;> rfl

/-- The subsets of size s of the n numbers from o on, in order. -/
def subs : Nat → Int → Nat → List (List Int)
  | _, _, 0 => [[]]
  | 0, _, _ + 1 => []
  | n + 1, o, s + 1 => (subs n (o + 1) s).map (o :: ·) ++ subs n (o + 1) (s + 1)

theorem subs_zero (n : Nat) (o : Int) : subs n o 0 = [[]] := by cases n <;> rfl

theorem subs_len : ∀ (n : Nat) (o : Int) (s : Nat), (subs n o s).length = ch n s
  | n, o, 0 => by rw [subs_zero, ch_zero]; rfl
  | 0, _, _ + 1 => rfl
  | n + 1, o, s + 1 => by
    rw [subs, List.length_append, List.length_map, subs_len n, subs_len n]; rfl

theorem ch_le : ∀ (n s : Nat), ch n s ≤ 2 ^ n
  | n, 0 => by rw [ch_zero]; exact Nat.one_le_two_pow
  | 0, _ + 1 => by simp [ch]
  | n + 1, s + 1 => by
    have h1 := ch_le n s
    have h2 := ch_le n (s + 1)
    rw [ch, Nat.pow_succ]; omega

theorem ch_over : ∀ (n s : Nat), n < s → ch n s = 0
  | _, 0, h => by omega
  | 0, _ + 1, _ => rfl
  | n + 1, s + 1, h => by rw [ch, ch_over n s (by omega), ch_over n (s + 1) (by omega)]

theorem mem_subs : ∀ (n : Nat) (o : Int) (s : Nat) {l : List Int}, l ∈ subs n o s → l.length = s ∧ ∀ x ∈ l, o ≤ x ∧ x < o + n
  | n, o, 0, l, h => by rw [subs_zero, List.mem_singleton] at h; subst h; simp
  | 0, _, _ + 1, _, h => by simp [subs] at h
  | n + 1, o, s + 1, l, h => by
    rw [subs, List.mem_append, List.mem_map] at h
    rcases h with ⟨r, hr, rfl⟩ | h
    · obtain ⟨h1, h2⟩ := mem_subs n (o + 1) s hr
      refine ⟨by simp [h1], fun x hx => ?_⟩
      rcases List.mem_cons.1 hx with rfl | hx
      · omega
      · have := h2 x hx; omega
    · obtain ⟨h1, h2⟩ := mem_subs n (o + 1) (s + 1) h
      exact ⟨h1, fun x hx => by have := h2 x hx; omega⟩

theorem subs_at (n : Nat) (o : Int) (s r : Nat) : (subs (n + 1) o (s + 1))[r]? = if r < ch n s then ((subs n (o + 1) s)[r]?).map (o :: ·) else (subs n (o + 1) (s + 1))[r - ch n s]? := by
  rw [subs]
  by_cases h : r < ch n s
  · rw [if_pos h, List.getElem?_append_left (by rw [List.length_map, subs_len]; exact h), List.getElem?_map]
  · rw [if_neg h, List.getElem?_append_right (by rw [List.length_map, subs_len]; omega), List.length_map, subs_len]

/-- A row of the triangle while it turns into the next one, from behind. -/
def rowAt (k t i : Nat) : List Int := (List.range (k + 1)).map fun j => if j ≤ i then (ch t j : Int) else (ch (t + 1) j : Int)

theorem rowAt_len (k t i : Nat) : (rowAt k t i).length = k + 1 := by simp [rowAt]

theorem rowAt_get {k t i j : Nat} (hj : j ≤ k) (h : j < (rowAt k t i).length) : (rowAt k t i)[j] = if j ≤ i then (ch t j : Int) else (ch (t + 1) j : Int) := by simp [rowAt]

theorem rowAt_set {k t i : Nat} (hi : i + 1 ≤ k) : (rowAt k t (i + 1)).set (i + 1) ((ch t (i + 1) : Int) + (ch t i : Int)) = rowAt k t i := by
  apply List.ext_getElem (by simp [rowAt])
  intro j h1 h2
  have hj : j ≤ k := by rw [rowAt_len] at h2; omega
  rw [rowAt_get hj, List.getElem_set]
  by_cases he : i + 1 = j
  · subst he
    rw [if_pos rfl, if_neg (by omega)]
    show _ = ((ch t i + ch t (i + 1) : Nat) : Int)
    omega
  · rw [if_neg he, rowAt_get hj]
    by_cases hl : j ≤ i
    · rw [if_pos hl, if_pos (by omega)]
    · rw [if_neg hl, if_neg (by omega)]

theorem rowAt_next (k t : Nat) : rowAt k t 0 = rowAt k (t + 1) k := by
  apply List.ext_getElem (by simp [rowAt])
  intro j h1 h2
  have hj : j ≤ k := by rw [rowAt_len] at h2; omega
  rw [rowAt_get hj, rowAt_get hj, if_pos hj]
  split
  · obtain rfl : j = 0 := by omega
    rw [ch_zero, ch_zero]
  · rfl

theorem rowAt_start (k : Nat) : (List.replicate (k + 1) (0 : Int)).set 0 1 = rowAt k 0 k := by
  apply List.ext_getElem (by simp [rowAt])
  intro j h1 h2
  have hj : j ≤ k := by rw [rowAt_len] at h2; omega
  rw [rowAt_get hj, if_pos hj, List.getElem_set]
  by_cases he : 0 = j
  · subst he; rfl
  · rw [if_neg he, List.getElem_replicate]
    cases j with
    | zero => omega
    | succ j => rfl

/-- All subsets by falling bits, the first number's bit being the greatest. -/
def allD : Nat → Int → List (List Int)
  | 0, _ => [[]]
  | n + 1, o => (allD n (o + 1)).map (o :: ·) ++ allD n (o + 1)

theorem allD_len : ∀ (n : Nat) (o : Int), (allD n o).length = 2 ^ n
  | 0, _ => rfl
  | n + 1, o => by rw [allD, List.length_append, List.length_map, allD_len n, Nat.pow_succ]; omega

theorem allD_filter : ∀ (n : Nat) (o : Int) (s : Nat), (allD n o).filter (fun l => l.length == s) = subs n o s
  | 0, o, 0 => rfl
  | 0, o, s + 1 => rfl
  | n + 1, o, s => by
    rw [allD, List.filter_append, List.filter_map, allD_filter n]
    cases s with
    | zero =>
      rw [subs_zero, subs_zero]
      have : (allD n (o + 1)).filter ((fun l => l.length == 0) ∘ fun x => o :: x) = [] := by
        rw [List.filter_eq_nil_iff]
        intro a _
        simp
      rw [this]; rfl
    | succ s =>
      have : (allD n (o + 1)).filter ((fun l => l.length == s + 1) ∘ fun x => o :: x) = subs n (o + 1) s := by
        rw [← allD_filter n (o + 1) s]
        congr 1
        funext l
        simp
      rw [this]; rfl

/-- The subset of a number's bits. -/
def chosen : Nat → Int → Nat → List Int
  | 0, _, _ => []
  | n + 1, o, b => if b.testBit n then o :: chosen n (o + 1) b else chosen n (o + 1) b

theorem chosen_congr : ∀ (n : Nat) (o : Int) {b c : Nat}, (∀ j < n, b.testBit j = c.testBit j) → chosen n o b = chosen n o c
  | 0, _, _, _, _ => rfl
  | n + 1, o, b, c, h => by
    rw [chosen, chosen, h n (by omega), chosen_congr n (o + 1) fun j hj => h j (by omega)]

theorem allD_get : ∀ (n : Nat) (o : Int) (b : Nat), b < 2 ^ n → (allD n o)[2 ^ n - 1 - b]? = some (chosen n o b)
  | 0, o, b, h => by
    have : b = 0 := by simpa using h
    subst this; rfl
  | n + 1, o, b, h => by
    have hp : 2 ^ (n + 1) = 2 ^ n + 2 ^ n := by rw [Nat.pow_succ]; omega
    have hpos : 0 < 2 ^ n := Nat.two_pow_pos n
    have hl := allD_len n (o + 1)
    by_cases hb : b < 2 ^ n
    · rw [allD, List.getElem?_append_right (by rw [List.length_map, hl]; omega), List.length_map, hl, chosen, Nat.testBit_lt_two_pow hb]
      rw [show 2 ^ (n + 1) - 1 - b - 2 ^ n = 2 ^ n - 1 - b by omega, allD_get n _ b hb]
      rfl
    · have ht : b.testBit n = true := Nat.testBit_of_two_pow_le_and_two_pow_add_one_gt (by omega) h
      have hc : chosen n (o + 1) b = chosen n (o + 1) (b - 2 ^ n) := by
        refine chosen_congr n _ fun j hj => ?_
        have e1 : b - 2 ^ n = b % 2 ^ n := by
          rw [Nat.mod_eq_sub_mod (by omega), Nat.mod_eq_of_lt (by omega)]
        rw [e1, Nat.testBit_mod_two_pow]
        simp [hj]
      rw [allD, List.getElem?_append_left (by rw [List.length_map, hl]; omega), List.getElem?_map, show 2 ^ (n + 1) - 1 - b = 2 ^ n - 1 - (b - 2 ^ n) by omega, allD_get n _ _ (by omega), chosen, ht, hc]
      rfl

/-- All numbers. -/
def fullS : Nat → Int → List Int
  | 0, _ => []
  | n + 1, o => o :: fullS n (o + 1)

theorem subs_full : ∀ (n : Nat) (o : Int), subs n o n = [fullS n o] ∧ ∀ s, n < s → subs n o s = []
  | 0, o => ⟨rfl, fun s h => by cases s with | zero => omega | succ s => rfl⟩
  | n + 1, o => by
    obtain ⟨h1, h2⟩ := subs_full n (o + 1)
    refine ⟨by rw [subs, h1, h2 _ (by omega)]; rfl, fun s h => ?_⟩
    cases s with
    | zero => omega
    | succ s => rw [subs, h2 s (by omega), h2 _ (by omega)]; rfl

theorem fullS_len : ∀ (n : Nat) (o : Int), (fullS n o).length = n
  | 0, _ => rfl
  | n + 1, o => by rw [fullS, List.length_cons, fullS_len n]

theorem fullS_get : ∀ (n : Nat) (o : Int) (i : Nat), i < n → (fullS n o)[i]? = some (o + i)
  | 0, _, _, h => by omega
  | n + 1, o, 0, _ => by simp [fullS]
  | n + 1, o, i + 1, h => by
    rw [fullS, List.getElem?_cons_succ, fullS_get n _ i (by omega)]
    congr 1; omega

theorem fullS_upTo (n : Nat) : fullS n 0 = upTo n := by
  apply List.ext_getElem?
  intro i
  by_cases h : i < n
  · rw [fullS_get n 0 i h]; simp [upTo, h]
  · rw [List.getElem?_eq_none (by rw [fullS_len]; omega), List.getElem?_eq_none (by rw [upTo_len]; omega)]

/-! ### The first of the least ones -/

def stepB (cov : List Int → Bool) (acc : Option (List Int)) (x : List Int) : Option (List Int) :=
  match acc with
  | none => if cov x then some x else none
  | some m => if decide (x.length < m.length) && cov x then some x else some m

def BestInv (cov : List Int → Bool) (P : List (List Int)) : Option (List Int) → Prop
  | none => ∀ x ∈ P, cov x = false
  | some m => (∀ x ∈ P, cov x = true → m.length ≤ x.length) ∧ (P.filter fun l => l.length == m.length).find? cov = some m

theorem best_step {cov : List Int → Bool} {P : List (List Int)} {acc : Option (List Int)} (h : BestInv cov P acc) (x : List Int) : BestInv cov (P ++ [x]) (stepB cov acc x) := by
  cases acc with
  | none =>
    unfold stepB
    simp only
    have h' : ∀ x ∈ P, cov x = false := h
    cases hx : cov x with
    | false =>
      simp only [Bool.false_eq_true, if_false]
      intro y hy
      rcases List.mem_append.1 hy with h1 | h1
      · exact h' y h1
      · rw [List.mem_singleton.1 h1]; exact hx
    | true =>
      rw [if_pos rfl]
      refine ⟨fun y hy hc => ?_, ?_⟩
      · rcases List.mem_append.1 hy with h1 | h1
        · rw [h' y h1] at hc; cases hc
        · rw [List.mem_singleton.1 h1]; exact Nat.le_refl _
      · rw [List.filter_append, List.find?_append]
        have : (P.filter fun l => l.length == x.length).find? cov = none := by
          rw [List.find?_eq_none]
          intro y hy
          rw [h' y (List.mem_filter.1 hy).1]; simp
        rw [this]
        simp [hx]
  | some m =>
    obtain ⟨h1, h2⟩ := h
    unfold stepB
    simp only
    cases hc : (decide (x.length < m.length) && cov x) with
    | true =>
      rw [if_pos rfl]
      rw [Bool.and_eq_true, decide_eq_true_eq] at hc
      refine ⟨fun y hy hcy => ?_, ?_⟩
      · rcases List.mem_append.1 hy with h3 | h3
        · have := h1 y h3 hcy; omega
        · rw [List.mem_singleton.1 h3]; exact Nat.le_refl _
      · rw [List.filter_append, List.find?_append]
        have : (P.filter fun l => l.length == x.length).find? cov = none := by
          rw [List.find?_eq_none]
          intro y hy hcy
          obtain ⟨h3, h4⟩ := List.mem_filter.1 hy
          have := h1 y h3 hcy
          have h5 : y.length = x.length := by simpa using h4
          omega
        rw [this]
        simp [hc.2]
    | false =>
      simp only [Bool.false_eq_true, if_false]
      refine ⟨fun y hy hcy => ?_, ?_⟩
      · rcases List.mem_append.1 hy with h3 | h3
        · exact h1 y h3 hcy
        · rw [List.mem_singleton.1 h3] at hcy ⊢
          rw [hcy, Bool.and_true, decide_eq_false_iff_not] at hc
          omega
      · rw [List.filter_append, List.find?_append, h2]; rfl

theorem best_fold {cov : List Int → Bool} : ∀ (A P : List (List Int)) (acc : Option (List Int)), BestInv cov P acc → BestInv cov (P ++ A) (A.foldl (stepB cov) acc)
  | [], P, acc, h => by simpa using h
  | x :: A, P, acc, h => by
    have := best_fold A (P ++ [x]) _ (best_step h x)
    rw [List.append_assoc] at this
    exact this

/-- What the reference computes. -/
def leastOf (cov : List Int → Bool) (n : Nat) : List Int := ((allD n 0).foldl (stepB cov) none).getD []

theorem least_eq {cov : List Int → Bool} {n s : Nat} {m : List Int} (hlow : ∀ t < s, ∀ x ∈ subs n 0 t, cov x = false) (hf : (subs n 0 s).find? cov = some m) : leastOf cov n = m := by
  have hcm : cov m = true := List.find?_some hf
  have hms : m ∈ subs n 0 s := List.mem_of_find?_eq_some hf
  have hall : ∀ t x, x ∈ subs n 0 t → x ∈ allD n 0 := fun t x hx => by rw [← allD_filter] at hx; exact (List.mem_filter.1 hx).1
  have hB := best_fold (cov := cov) (allD n 0) [] none (fun x hx => by cases hx)
  rw [List.nil_append] at hB
  unfold leastOf
  cases hr : (allD n 0).foldl (stepB cov) none with
  | none =>
    rw [hr] at hB
    have hB' : ∀ x ∈ allD n 0, cov x = false := hB
    rw [hB' m (hall s m hms)] at hcm; cases hcm
  | some b =>
    rw [hr] at hB
    obtain ⟨h1, h2⟩ := hB
    rw [allD_filter] at h2
    have hle := h1 m (hall s m hms) hcm
    have hml := (mem_subs n 0 s hms).1
    have hbc : cov b = true := List.find?_some h2
    have hbm := List.mem_of_find?_eq_some h2
    have hbs : b.length = s := by
      by_cases hlt : b.length < s
      · rw [hlow _ hlt b hbm] at hbc; cases hbc
      · omega
    rw [hbs, hf] at h2
    simpa using h2.symm

end Go.Proofs.Ytoeaoinedidbiaa
