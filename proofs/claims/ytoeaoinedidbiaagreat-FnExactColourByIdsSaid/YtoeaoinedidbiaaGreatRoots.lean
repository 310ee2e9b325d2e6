/- Roots of polynomials modulo a prime number, in plain words: no program in sight. -/
import Derived.Test.YtoeaoinedidbiaaGreatPoly
namespace Go.Proofs.YtoeaoinedidbiaaGreat

/-- A polynomial's value, the coefficients from the lowest on. -/
def hv : List Int → Int → Int
  | [], _ => 0
  | c :: f, x => hv f x * x + c

/-- The value as it is computed, modulo q at each step. -/
def hvm (q : Int) : List Int → Int → Int
  | [], _ => 0
  | c :: f, x => (hvm q f x * x + c) % q

theorem hvm_eq (q : Int) : ∀ (f : List Int) (x : Int), hvm q f x = hv f x % q
  | [], x => by simp [hvm, hv]
  | c :: f, x => by
    rw [hvm, hv, hvm_eq q f x]
    rw [Int.add_emod, Int.mul_emod, Int.emod_emod_of_dvd _ (Int.dvd_refl q), ← Int.mul_emod, ← Int.add_emod]

/-- The values at r of a polynomial's tails. -/
def quo (r : Int) : List Int → List Int
  | [] => []
  | b :: c => hv (b :: c) r :: quo r c

theorem quo_len (r : Int) : ∀ c : List Int, (quo r c).length = c.length
  | [] => rfl
  | _ :: c => by rw [quo, List.length_cons, quo_len r c, List.length_cons]

theorem quo_spec (r x : Int) : ∀ (c : List Int) (a : Int), hv (a :: c) x - hv (a :: c) r = (x - r) * hv (quo r c) x
  | [], a => by simp [hv, quo]
  | b :: c, a => by
    have ih := quo_spec r x c b
    have e1 : hv (a :: b :: c) x = hv (b :: c) x * x + a := rfl
    have e2 : hv (a :: b :: c) r = hv (b :: c) r * r + a := rfl
    have e3 : hv (quo r (b :: c)) x = hv (quo r c) x * x + hv (b :: c) r := rfl
    rw [e1, e2, e3]
    generalize hv (b :: c) x = A at *
    generalize hv (b :: c) r = B at *
    generalize hv (quo r c) x = C at *
    have : A = B + (x - r) * C := by omega
    subst this
    simp only [Int.mul_add, Int.mul_sub, Int.mul_comm, Int.mul_left_comm]
    omega

/-- What a prime number divides. -/
theorem Pr.dvd_mul {q : Int} (hq : Pr q) {a b : Int} (h : q ∣ a * b) : q ∣ a ∨ q ∣ b := by
  obtain ⟨h2, hp⟩ := hq
  obtain ⟨n, rfl⟩ := Int.eq_ofNat_of_zero_le (show 0 ≤ q by omega)
  have hn : n ∣ a.natAbs * b.natAbs := by
    have := Int.natAbs_dvd_natAbs.2 h
    rwa [Int.natAbs_mul] at this
  have hg1 : n.gcd a.natAbs ∣ n := Nat.gcd_dvd_left _ _
  by_cases hg : n.gcd a.natAbs = 1
  · right
    have := Nat.Coprime.dvd_of_dvd_mul_left (k := n) (m := a.natAbs) (n := b.natAbs) hg hn
    exact Int.ofNat_dvd_left.2 this
  · left
    have hga : n.gcd a.natAbs ∣ a.natAbs := Nat.gcd_dvd_right _ _
    generalize n.gcd a.natAbs = g at *
    obtain ⟨k, hk⟩ := hg1
    have hg0 : g ≠ 0 := fun e => by subst e; simp at hk; omega
    have hk0 : k ≠ 0 := fun e => by subst e; simp at hk; omega
    by_cases hk1 : k = 1
    · subst hk1
      rw [Nat.mul_one] at hk
      subst hk
      exact Int.ofNat_dvd_left.2 hga
    · exfalso
      have hdv : ∀ u v : Nat, 2 ≤ u → n = u * v → u ≤ v → False := by
        intro u v hu he hle
        refine hp u (by omega) ?_ ?_
        · have : u * u ≤ u * v := Nat.mul_le_mul_left _ hle
          rw [he]
          exact_mod_cast this
        · rw [he]
          have : ((u * v : Nat) : Int) = (u : Int) * (v : Int) := by push_cast; rfl
          rw [this]
          exact Int.mul_tmod_right _ _
      rcases Nat.le_total g k with hle | hle
      · exact hdv g k (by omega) hk hle
      · exact hdv k g (by omega) (by rw [hk, Nat.mul_comm]) hle

theorem hv_dvd {q x : Int} : ∀ {c : List Int}, (∀ a ∈ c, q ∣ a) → q ∣ hv c x
  | [], _ => by simp [hv]
  | a :: c, h => by
    rw [hv]
    have hc : ∀ b ∈ c, q ∣ b := fun b hb => h b (List.mem_cons_of_mem _ hb)
    have h1 : q ∣ hv c x * x := Int.dvd_mul_of_dvd_left (hv_dvd hc)
    exact Int.dvd_add h1 (h a List.mem_cons_self)

theorem quo_dvd {q r : Int} : ∀ {c : List Int}, (∀ a ∈ quo r c, q ∣ a) → ∀ a ∈ c, q ∣ a
  | [], _, _, ha => by cases ha
  | b :: c, h, a, ha => by
    have hq : ∀ y ∈ quo r c, q ∣ y := fun y hy => h y (by rw [quo]; exact List.mem_cons_of_mem _ hy)
    have hc := quo_dvd hq
    rcases List.mem_cons.1 ha with rfl | ha
    · have h1 : q ∣ hv (a :: c) r := h _ (by rw [quo]; simp)
      have h2 : q ∣ hv c r * r := Int.dvd_mul_of_dvd_left (hv_dvd hc)
      have h3 : a = hv (a :: c) r - hv c r * r := by rw [hv]; omega
      rw [h3]
      exact Int.dvd_sub h1 h2
    · exact hc a ha

/-- A polynomial with as many roots as coefficients is nought. -/
theorem roots_all {q : Int} (hq : Pr q) : ∀ (n : Nat) (c : List Int) (X : List Int), c.length = n → c.length ≤ X.length → X.Nodup → (∀ x ∈ X, 0 ≤ x ∧ x < q ∧ q ∣ hv c x) → ∀ a ∈ c, q ∣ a
  | 0, c, _, hn, _, _, _, a, ha => by rw [List.eq_nil_of_length_eq_zero hn] at ha; cases ha
  | n + 1, c, X, hn, hX, hnd, hr, a, ha => by
    cases c with
    | nil => cases ha
    | cons b c =>
      cases X with
      | nil => simp at hX
      | cons r X =>
        simp only [List.length_cons] at hn hX
        obtain ⟨hr0, hrq, hrd⟩ := hr r (by simp)
        obtain ⟨hnr, hnd'⟩ := List.nodup_cons.1 hnd
        have hquo : ∀ a ∈ quo r c, q ∣ a := by
          refine roots_all hq n (quo r c) X (by rw [quo_len]; omega) (by rw [quo_len]; omega) hnd' fun x hx => ?_
          obtain ⟨h0, h1, h2⟩ := hr x (by simp [hx])
          refine ⟨h0, h1, ?_⟩
          have hs := quo_spec r x c b
          have hd : q ∣ (x - r) * hv (quo r c) x := by rw [← hs]; exact Int.dvd_sub h2 hrd
          rcases hq.dvd_mul hd with h3 | h3
          · exfalso
            have hne : x ≠ r := fun e => hnr (by rw [← e]; exact hx)
            obtain ⟨k, hk⟩ := h3
            have hk0 : k = 0 := by
              rcases Int.lt_trichotomy k 0 with h | h | h
              · have : q * k ≤ q * (-1) := Int.mul_le_mul_of_nonneg_left (by omega) (by omega)
                omega
              · exact h
              · have : q * 1 ≤ q * k := Int.mul_le_mul_of_nonneg_left (by omega) (by omega)
                omega
            subst hk0
            omega
          · exact h3
        have hc := quo_dvd hquo
        rcases List.mem_cons.1 ha with rfl | ha
        · have h2 : q ∣ hv c r * r := Int.dvd_mul_of_dvd_left (hv_dvd hc)
          have h3 : a = hv (a :: c) r - hv c r * r := by rw [hv]; omega
          rw [h3]
          exact Int.dvd_sub hrd h2
        · exact hc a ha

/-! ### Polynomials of digits -/

theorem hv_sub (x : Int) : ∀ (f g : List Int), f.length = g.length → hv f x - hv g x = hv (List.zipWith (· - ·) f g) x
  | [], [], _ => by simp [hv]
  | [], _ :: _, h => by simp at h
  | _ :: _, [], h => by simp at h
  | a :: f, b :: g, h => by
    have ih := hv_sub x f g (by simpa using h)
    rw [List.zipWith_cons_cons, hv, hv, hv, ← ih, Int.sub_mul]
    omega

theorem digits_eq {q : Int} (hq : Pr q) {f g X : List Int} (hl : f.length = g.length) (hf : ∀ a ∈ f, 0 ≤ a ∧ a < q) (hg : ∀ a ∈ g, 0 ≤ a ∧ a < q)
    (hX : f.length ≤ X.length) (hnd : X.Nodup) (hr : ∀ x ∈ X, 0 ≤ x ∧ x < q ∧ hvm q f x = hvm q g x) : f = g := by
  have hz := roots_all hq (List.zipWith (· - ·) f g).length (List.zipWith (· - ·) f g) X rfl (by simp [hl]; omega) hnd fun x hx => by
    obtain ⟨h0, h1, h2⟩ := hr x hx
    refine ⟨h0, h1, ?_⟩
    rw [hvm_eq, hvm_eq] at h2
    rw [← hv_sub x f g hl]
    exact Int.dvd_of_emod_eq_zero (Int.emod_eq_emod_iff_emod_sub_eq_zero.1 h2)
  apply List.ext_getElem hl
  intro i h1 h2
  have := hz (f[i] - g[i]) (by
    rw [List.mem_iff_getElem]
    exact ⟨i, by simp; omega, by simp⟩)
  obtain ⟨k, hk⟩ := this
  have hfi := hf _ (List.getElem_mem h1)
  have hgi := hg _ (List.getElem_mem h2)
  have hk0 : k = 0 := by
    rcases Int.lt_trichotomy k 0 with h | h | h
    · have : q * k ≤ q * (-1) := Int.mul_le_mul_of_nonneg_left (by omega) (by omega)
      omega
    · exact h
    · have : q * 1 ≤ q * k := Int.mul_le_mul_of_nonneg_left (by omega) (by omega)
      omega
  subst hk0
  omega

/-- Each of some things is hit by one of others, each of which hits few. -/
theorem few_hits {α : Type} (hit : α → Int → Bool) (d : Nat) : ∀ (N : List α) (L : List Int), (∀ x ∈ L, ∃ g ∈ N, hit g x = true) → (∀ g ∈ N, ∀ M : List Int, M.Sublist L → (∀ x ∈ M, hit g x = true) → M.length ≤ d) → L.length ≤ N.length * d
  | [], L, h, _ => by
    cases L with
    | nil => simp
    | cons x _ => obtain ⟨g, hg, _⟩ := h x (by simp); cases hg
  | g :: N, L, h, hd => by
    have h1 : (L.filter (hit g)).length ≤ d := hd g (by simp) _ List.filter_sublist fun x hx => (List.mem_filter.1 hx).2
    have h2 := few_hits hit d N (L.filter fun x => !hit g x) (fun x hx => by
      obtain ⟨h3, h4⟩ := List.mem_filter.1 hx
      obtain ⟨g', hg', hh⟩ := h x h3
      rcases List.mem_cons.1 hg' with rfl | hg'
      · rw [hh] at h4; cases h4
      · exact ⟨g', hg', hh⟩) (fun g' hg' M hM => hd g' (by simp [hg']) M (hM.trans List.filter_sublist))
    have h3 : L.length = (L.filter (hit g)).length + (L.filter fun x => !hit g x).length := by
      clear h hd h1 h2
      induction L with
      | nil => rfl
      | cons x r ih => cases hx : hit g x <;> simp [hx] <;> omega
    rw [List.length_cons, Nat.succ_mul]
    omega

end Go.Proofs.YtoeaoinedidbiaaGreat
