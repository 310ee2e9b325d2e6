/- The parameters of a polynomial step: both programs find the least prime number, and the least degree. -/
import Derived.Test.YtoeaoinedidbiaaGreatLeaf
namespace Go.Proofs.YtoeaoinedidbiaaGreat
open Go.GX Go.RowKit

/-- No number from 2 on whose square is at most n divides n. -/
def Pr (n : Int) : Prop := 2 ≤ n ∧ ∀ d, 2 ≤ d → d * d ≤ n → n.tmod d ≠ 0

theorem sq_bound {d n B : Int} (h1 : 0 ≤ B) (h : d * d ≤ n) (hn : n < B * B) : d < B := by
  rcases Int.lt_or_le d B with h2 | h2
  · exact h2
  · have := Int.mul_le_mul h2 h2 h1 (by omega); omega

theorem prime_loop {n : Int} (hn : n ≤ 1000000000000) {w : World} {Q : Bool → World → Prop} (hq : ∀ b, (b = true ↔ Pr n) → Q b w) :
    ∃ (I2 : Int → World → Prop) (m2 : Int → World → Nat), I2 2 w ∧ ∀ (d : Int) w1, I2 d w1 →
      cond (decide (((IntKind.i64.wrap (d * d)) : Int) ≤ n)) ((d : Int) ≠ 0 ∧ (cond (((Int.tmod n d) : Int) == 0) (Q false w1) (I2 (IntKind.i64.wrap (d + 1)) w1 ∧ m2 (IntKind.i64.wrap (d + 1)) w1 < m2 d w1))) (Q (decide ((n : Int) > 1)) w1) := by
  refine ⟨fun d w' => w' = w ∧ 2 ≤ d ∧ (d = 2 ∨ (d - 1) * (d - 1) ≤ n) ∧ ∀ e, 2 ≤ e → e < d → n.tmod e ≠ 0, fun d _ => (1000003 - d).toNat, ⟨rfl, by omega, .inl rfl, fun e h1 h2 => by omega⟩, ?_⟩
  rintro d w1 ⟨rfl, h2, h3, h4⟩
  have hd : d ≤ 1000001 := by
    rcases h3 with h3 | h3
    · omega
    · have := sq_bound (B := 1000001) (by omega) h3 (by omega); omega
  have hdd : d * d ≤ 1000001 * 1000001 := Int.mul_le_mul hd hd (by omega) (by omega)
  have hdd0 : 0 ≤ d * d := Int.mul_nonneg (by omega) (by omega)
  rw [wrap_of (n := d * d) (by omega) (by omega)]
  refine cond_dec (fun hle => ⟨by omega, ?_⟩) (fun hgt => ?_)
  · refine cond_eq (fun h0 => hq _ ?_) (fun h0 => ?_)
    · simp only [Bool.false_eq_true, false_iff]
      intro hp
      exact hp.2 d h2 hle h0
    · rw [wrap_of (n := d + 1) (by omega) (by omega)]
      refine ⟨⟨rfl, by omega, .inr (by rw [show d + 1 - 1 = d by omega]; exact hle), fun e h1 h5 => ?_⟩, by (try dsimp only); omega⟩
      rcases Int.lt_or_eq_of_le (show e ≤ d by omega) with h6 | h6
      · exact h4 e h1 h6
      · subst h6; exact h0
  · refine hq _ ?_
    rw [decide_eq_true_iff]
    constructor
    · intro h1
      refine ⟨by omega, fun e h5 h6 => ?_⟩
      rcases Int.lt_or_le e d with h7 | h7
      · exact h4 e h5 h7
      · have := Int.mul_le_mul h7 h7 (by omega) (by omega); omega
    · intro hp; have := hp.1; omega

theorem isPrime_ok (n : Int) (hn : n ≤ 1000000000000) (w : World) : Calls Tryz.prog F.i_isPrime #[.int .i64 n] w (Ret [.at .bool] fun (b : Bool) w' => (b = true ↔ Pr n) ∧ w = w') := by
  refine C_i_isPrime ?_
  unfold V_i_isPrime
  obtain ⟨I, m, h1, h2⟩ := prime_loop hn (w := w) (Q := fun b w' => (b = true ↔ Pr n) ∧ w = w') (fun b hb => ⟨hb, rfl⟩)
  exact ⟨I, m, h1, fun d w1 hI => by intros; exact h2 d w1 hI⟩

theorem nuPrime_ok (n : Int) (hn : n ≤ 1000000000000) (w : World) : Calls Tryz.prog F.s_nuPrime #[.int .i64 n] w (Ret [.at .bool] fun (b : Bool) w' => (b = true ↔ Pr n) ∧ w = w') := by
  refine C_s_nuPrime ?_
  unfold V_s_nuPrime
  obtain ⟨I, m, h1, h2⟩ := prime_loop hn (w := w) (Q := fun b w' => (b = true ↔ Pr n) ∧ w = w') (fun b hb => ⟨hb, rfl⟩)
  exact ⟨I, m, h1, fun d w1 hI => by intros; exact h2 d w1 hI⟩

/-- A prime number beyond a million. -/
theorem pr_big : Pr 1000003 := by
  refine ⟨by omega, fun d h2 hd => ?_⟩
  have hb : d < 1001 := sq_bound (B := 1001) (by omega) hd (by omega)
  have key : ∀ k : Nat, k < 1001 → 2 ≤ k → (1000003 : Int) % (k : Int) ≠ 0 := by decide +kernel
  obtain ⟨n, rfl⟩ := Int.eq_ofNat_of_zero_le (show 0 ≤ d by omega)
  have := key n (by omega) (by omega)
  rw [Int.tmod_eq_emod_of_nonneg (by omega)]
  intro h0
  exact this h0

theorem nuNext_ok (n : Int) (h0 : -1000 ≤ n) (hn : n ≤ 1000003) (w : World) :
    Calls Tryz.prog F.s_nuNext #[.int .i64 n] w (Ret [.at (.int .i64)] fun (p : Int) w' => (n ≤ p ∧ p ≤ 1000003 ∧ Pr p ∧ ∀ m, n ≤ m → m < p → ¬ Pr m) ∧ w = w') := by
  refine C_s_nuNext ?_
  unfold V_s_nuNext
  refine ⟨fun m w' => w' = w ∧ n ≤ m ∧ m ≤ 1000003 ∧ ∀ e, n ≤ e → e < m → ¬ Pr e, fun m _ => (1000003 - m).toNat, ⟨rfl, by omega, hn, fun e h1 h2 => by omega⟩, ?_⟩
  rintro m w1 ⟨rfl, h1, h2, h3⟩
  intros
  refine call (nuPrime_ok m (by omega) _) ?_
  rintro b _ ⟨hb, rfl⟩
  refine cond_not (fun hf => ?_) (fun ht => ?_)
  · have hnp : ¬ Pr m := fun h => by rw [hb.2 h] at hf; cases hf
    have hne : m ≠ 1000003 := fun h => hnp (h ▸ pr_big)
    rw [wrap_of (by omega) (by omega)]
    refine ⟨⟨rfl, by omega, by omega, fun e h4 h5 => ?_⟩, by (try dsimp only); omega⟩
    rcases Int.lt_or_eq_of_le (show e ≤ m by omega) with h6 | h6
    · exact h3 e h4 h6
    · subst h6; exact hnp
  · exact ⟨⟨h1, h2, hb.1 ht, h3⟩, rfl⟩

/-- A degree that serves. -/
def PolyOk (k a q : Int) (d : Nat) : Prop := 1 ≤ d ∧ a * d < q ∧ k ≤ q ^ (d + 1)

/-- The parameters. -/
def PP (k a q : Int) (d : Nat) : Prop := Pr q ∧ q ≤ 1000003 ∧ PolyOk k a q d ∧ (∀ e : Nat, e < d → ¬ PolyOk k a q e) ∧ ∀ p, Pr p → p < q → ∀ e : Nat, ¬ PolyOk k a p e

theorem PP_unique {k a q q' : Int} {d d' : Nat} (h : PP k a q d) (h' : PP k a q' d') : q = q' ∧ d = d' := by
  obtain ⟨h1, _, h2, h3, h4⟩ := h
  obtain ⟨h1', _, h2', h3', h4'⟩ := h'
  have hq : q = q' := by
    rcases Int.lt_or_le q q' with hlt | hle
    · exact absurd h2 (h4' q h1 hlt d)
    · rcases Int.lt_or_eq_of_le hle with hlt | he
      · exact absurd h2' (h4 q' h1' hlt d')
      · exact he.symm
  subst hq
  refine ⟨rfl, ?_⟩
  rcases Nat.lt_trichotomy d d' with h5 | h5 | h5
  · exact absurd h2 (h3' d h5)
  · exact h5
  · exact absurd h2' (h3 d' h5)

theorem good_big {k a : Int} (hk : k ≤ 1000000000000) (ha : a ≤ 6) : PolyOk k a 1000003 1 := ⟨by omega, by omega, by have : (1000003 : Int) ^ (1 + 1) = 1000006000009 := rfl; omega⟩

theorem pow_one' (q : Int) : q ^ 1 = q := by rw [Int.pow_succ, Int.pow_zero, Int.one_mul]

theorem pow_mono {q : Int} (hq : 1 ≤ q) {m n : Nat} (h : m ≤ n) : q ^ m ≤ q ^ n := by
  induction n with
  | zero => have : m = 0 := by omega
            subst this; exact Int.le_refl _
  | succ n ih =>
    rcases Nat.lt_or_eq_of_le h with h1 | h1
    · have h2 := ih (by omega)
      have h3 : 0 ≤ q ^ n := Int.pow_nonneg (by omega)
      rw [Int.pow_succ]
      have := Int.mul_le_mul_of_nonneg_left hq h3
      omega
    · subst h1; exact Int.le_refl _

theorem pow_pos' {q : Int} (hq : 1 ≤ q) (n : Nat) : 1 ≤ q ^ n := by
  have := pow_mono hq (Nat.zero_le n); simpa using this

/-- Powers below a bound have small exponents. -/
theorem two_pow_le {q : Int} (hq : 2 ≤ q) : ∀ n : Nat, (2 : Int) ^ n ≤ q ^ n
  | 0 => by simp
  | n + 1 => by
    rw [Int.pow_succ, Int.pow_succ]
    have h1 := two_pow_le hq n
    have h2 : (0 : Int) ≤ 2 ^ n := Int.pow_nonneg (by omega)
    exact Int.mul_le_mul h1 hq (by omega) (by omega)

theorem exp_small {q k : Int} (hq : 2 ≤ q) (hk : k ≤ 1000000000000) {n : Nat} (h : q ^ n < k) : n < 40 := by
  rcases Nat.lt_or_ge n 40 with h1 | h1
  · exact h1
  · have h2 := two_pow_le hq 40
    have h3 := pow_mono (q := q) (by omega) h1
    have : (2 : Int) ^ 40 = 1099511627776 := rfl
    omega

theorem polynomialParameters_ok (k a : Int) (hk1 : 1 ≤ k) (hk : k ≤ 1000000000000) (ha0 : 0 ≤ a) (ha : a ≤ 6) (w : World) :
    Calls Tryz.prog F.i_polynomialParameters #[.int .i64 k, .int .i64 a] w (Ret [.at (.int .i64), .at (.int .i64)] fun (q d : Int) w' => (∃ e : Nat, d = e ∧ PP k a q e) ∧ w = w') := by
  refine C_i_polynomialParameters ?_
  unfold V_i_polynomialParameters
  refine ⟨fun q w' => w' = w ∧ 2 ≤ q ∧ q ≤ 1000003 ∧ ∀ p, Pr p → p < q → ∀ e : Nat, ¬ PolyOk k a p e, fun q _ => (1000003 - q).toNat, ⟨rfl, by omega, by omega, fun p hp h2 => by have := hp.1; omega⟩, ?_⟩
  rintro q w1 ⟨rfl, hq2, hqb, hbef⟩
  intros
  have again : (Pr q → ∀ e : Nat, ¬ PolyOk k a q e) → V_i_polynomialParameters_k1 (fun q w' => w' = w1 ∧ 2 ≤ q ∧ q ≤ 1000003 ∧ ∀ p, Pr p → p < q → ∀ e : Nat, ¬ PolyOk k a p e) (fun q _ => (1000003 - q).toNat) q w1 w1 := by
    intro hno
    have hne : q ≠ 1000003 := fun h => by subst h; exact hno pr_big 1 (good_big hk ha)
    unfold V_i_polynomialParameters_k1
    rw [wrap_of (by omega) (by omega)]
    refine ⟨⟨rfl, by omega, by omega, fun p hp hlt e => ?_⟩, by (try dsimp only); omega⟩
    rcases Int.lt_or_eq_of_le (show p ≤ q by omega) with h1 | h1
    · exact hbef p hp h1 e
    · subst h1; exact hno hp e
  refine call (isPrime_ok q (by omega) _) ?_
  rintro b _ ⟨hb, rfl⟩
  refine cond_not (fun hf => again fun hp => ?_) (fun ht => ?_)
  · rw [hb.2 hp] at hf; cases hf
  · have hpr := hb.1 ht
    refine ⟨fun pw d w' => w' = w1 ∧ ∃ e : Nat, d = e ∧ 1 ≤ e ∧ pw = q ^ e ∧ (e = 1 ∨ pw < k) ∧ ∀ f : Nat, f < e → ¬ PolyOk k a q f, fun _ d _ => (60 - d).toNat, ⟨rfl, 1, rfl, by omega, (pow_one' q).symm, .inl rfl, fun f hf hg => by have := hg.1; omega⟩, ?_⟩
    rintro pw d w3 ⟨rfl, e, rfl, he1, rfl, he, hf⟩
    intros
    have hpos := pow_pos' (q := q) (by omega) e
    have he40 : e < 41 := by
      rcases he with he | he
      · omega
      · have := exp_small hq2 hk he; omega
    have hae : a * e ≤ 6 * 41 := Int.mul_le_mul ha (by omega) (by omega) (by omega)
    have hae0 : 0 ≤ a * e := Int.mul_nonneg ha0 (by omega)
    have hpw : q ^ e ≤ 1000000000003 := by
      rcases he with he | he
      · subst he; rw [pow_one']; omega
      · omega
    rw [wrap_of (n := a * e) (by omega) (by omega)]
    have tail : (a * e < q → ¬ q ^ e < k) → cond (decide (q ^ e ≥ k)) (cond (decide (a < q)) ((∃ e : Nat, (1 : Int) = e ∧ PP k a q e) ∧ w3 = w3) (V_i_polynomialParameters_k1 (fun q w' => w' = w3 ∧ 2 ≤ q ∧ q ≤ 1000003 ∧ ∀ p, Pr p → p < q → ∀ e : Nat, ¬ PolyOk k a p e) (fun q _ => (1000003 - q).toNat) q w3 w3))
        (V_i_polynomialParameters_k1 (fun q w' => w' = w3 ∧ 2 ≤ q ∧ q ≤ 1000003 ∧ ∀ p, Pr p → p < q → ∀ e : Nat, ¬ PolyOk k a p e) (fun q _ => (1000003 - q).toNat) q w3 w3) := by
      intro hstop
      refine cond_dec (fun hge => cond_dec (fun haq => ⟨⟨1, rfl, hpr, hqb, ⟨by omega, by omega, ?_⟩, fun f hf1 hg => by have := hg.1; omega, hbef⟩, rfl⟩) (fun haq => again fun _ f hg => ?_)) (fun hlt => again fun _ f hg => ?_)
      · rcases he with he | he
        · subst he
          have := pow_mono (q := q) (by omega) (show 1 ≤ 1 + 1 by omega)
          omega
        · omega
      · have h1 : a * 1 ≤ a * f := Int.mul_le_mul_of_nonneg_left (by have := hg.1; omega) ha0
        have := hg.2.1; omega
      · -- the degrees are used up
        have hq' : q ≤ a * e := by
          rcases Int.lt_or_le (a * e) q with h1 | h1
          · exact absurd (by omega) (hstop h1)
          · exact h1
        rcases Nat.lt_or_ge f e with h1 | h1
        · exact hf f h1 hg
        · have : a * (e : Int) ≤ a * f := Int.mul_le_mul_of_nonneg_left (by omega) ha0
          have := hg.2.1; omega
    refine cond_dec (fun hlt => cond_dec (fun hpk => ?_) (fun hpk => tail fun _ => hpk)) (fun hge => tail fun h => absurd h hge)
    have hmul : q ^ e * q ≤ 1000000000000 * 1000003 := Int.mul_le_mul (by omega) hqb (by omega) (by omega)
    have hmul0 : 0 ≤ q ^ e * q := Int.mul_nonneg (by omega) (by omega)
    rw [wrap_of (n := q ^ e * q) (by omega) (by omega)]
    refine RUN_min ?_
    have hsucc : q ^ (e + 1) = q ^ e * q := Int.pow_succ ..
    refine cond_dec (fun hge => ?_) (fun hlt2 => ?_)
    · refine ⟨⟨e, rfl, hpr, hqb, ⟨he1, hlt, ?_⟩, hf, hbef⟩, rfl⟩
      rw [hsucc]
      split at hge <;> omega
    · have hmin : (if (1000000000000 : Int) < q ^ e * q then (1000000000000 : Int) else q ^ e * q) = q ^ (e + 1) := by
        rw [hsucc]
        split
        · rename_i h1; rw [if_pos h1] at hlt2; omega
        · rfl
      rw [hmin] at hlt2 ⊢
      rw [wrap_of (by omega) (by omega)]
      refine ⟨⟨rfl, e + 1, by omega, by omega, rfl, .inr (by omega), fun f hf1 hg => ?_⟩, by (try dsimp only); omega⟩
      rcases Nat.lt_or_eq_of_le (show f ≤ e by omega) with h1 | h1
      · exact hf f h1 hg
      · subst h1; have := hg.2.2; omega

theorem clPower_ok (q k : Int) (d : Nat) (hq : 2 ≤ q) (hqb : q ≤ 1000003) (hk1 : 1 ≤ k) (hk : k ≤ 1000000000000) (hd : d ≤ 60) (w : World) :
    Calls Tryz.prog F.s_clPower #[.int .i64 q, .int .i64 d, .int .i64 k] w (Ret [.at .bool] fun (b : Bool) w' => (b = true ↔ k ≤ q ^ (d + 1)) ∧ w = w') := by
  refine C_s_clPower ?_
  unfold V_s_clPower
  refine ⟨fun all i w' => w' = w ∧ ∃ e : Nat, i = e ∧ e ≤ d + 1 ∧ all = q ^ e ∧ (e = 0 ∨ all < k), fun _ i _ => (61 - i).toNat, ⟨rfl, 0, rfl, by omega, by simp, .inl rfl⟩, ?_⟩
  rintro all i w1 ⟨rfl, e, rfl, he, rfl, hlt⟩
  intros
  have hpos := pow_pos' (q := q) (by omega) e
  have hpw : q ^ e ≤ 1000000000000 := by
    rcases hlt with h | h
    · subst h; simp
    · omega
  have hmul : q ^ e * q ≤ 1000000000000 * 1000003 := Int.mul_le_mul (by omega) hqb (by omega) (by omega)
  have hmul0 : 0 ≤ q ^ e * q := Int.mul_nonneg (by omega) (by omega)
  have hsucc : q ^ (e + 1) = q ^ e * q := Int.pow_succ ..
  rw [wrap_of (n := q ^ e * q) (by omega) (by omega)]
  refine cond_dec (fun hle => cond_dec (fun hge => ⟨?_, rfl⟩) (fun hl => ?_)) (fun hgt => ⟨?_, rfl⟩)
  · simp only [true_iff]
    have := pow_mono (q := q) (by omega) (show e + 1 ≤ d + 1 by omega)
    omega
  · rw [wrap_of (by omega) (by omega)]
    exact ⟨⟨rfl, e + 1, by omega, by omega, hsucc.symm, .inr (by omega)⟩, by (try dsimp only); omega⟩
  · have : e = d + 1 := by omega
    subst this
    simp only [Bool.false_eq_true, false_iff]
    omega

theorem clParameters_ok (k a : Int) (hk1 : 1 ≤ k) (hk : k ≤ 1000000000000) (ha0 : 0 ≤ a) (ha : a ≤ 6) (w : World) :
    Calls Tryz.prog F.s_clParameters #[.int .i64 k, .int .i64 a] w (Ret [.at (.int .i64), .at (.int .i64)] fun (q d : Int) w' => (∃ e : Nat, d = e ∧ PP k a q e) ∧ w = w') := by
  refine C_s_clParameters ?_
  unfold V_s_clParameters
  refine ⟨fun q w' => w' = w ∧ Pr q ∧ q ≤ 1000003 ∧ ∀ p, Pr p → p < q → ∀ e : Nat, ¬ PolyOk k a p e, fun q _ => (1000003 - q).toNat, ⟨rfl, ?_, by omega, fun p hp h2 => by have := hp.1; omega⟩, ?_⟩
  · refine ⟨by omega, fun d h2 hd => ?_⟩
    have := Int.mul_le_mul h2 h2 (by omega) (by omega); omega
  rintro q w1 ⟨rfl, hpr, hqb, hbef⟩
  intros
  have hq2 := hpr.1
  refine ⟨fun d w' => w' = w1 ∧ ∃ e : Nat, d = e ∧ 1 ≤ e ∧ (e = 1 ∨ q ^ e < k) ∧ ∀ f : Nat, f < e → ¬ PolyOk k a q f, fun d _ => (100 - d).toNat, ⟨rfl, 1, rfl, by omega, .inl rfl, fun f hf hg => by have := hg.1; omega⟩, ?_⟩
  rintro d w2 ⟨rfl, e, rfl, he1, he, hf⟩
  intros
  have he40 : e < 41 := by
    rcases he with he | he
    · omega
    · have := exp_small hq2 hk he; omega
  have hae : a * e ≤ 6 * 41 := Int.mul_le_mul ha (by omega) (by omega) (by omega)
  have hae0 : 0 ≤ a * e := Int.mul_nonneg ha0 (by omega)
  rw [wrap_of (n := a * e) (by omega) (by omega), wrap_of (n := q + 1) (by omega) (by omega)]
  refine cond_dec (fun hlt => ?_) (fun hge => ?_)
  · refine cond_dt (by omega) ?_
    refine call (clPower_ok q k e hq2 hqb hk1 hk (by omega) _) ?_
    rintro b _ ⟨hb, rfl⟩
    refine cond_b (fun ht => ⟨⟨e, rfl, hpr, hqb, ⟨he1, hlt, hb.1 ht⟩, hf, hbef⟩, rfl⟩) (fun hf2 => ?_)
    have hnk : ¬ k ≤ q ^ (e + 1) := fun h => by rw [hb.2 h] at hf2; cases hf2
    rw [wrap_of (by omega) (by omega)]
    refine ⟨⟨rfl, e + 1, by omega, by omega, .inr (by omega), fun f hf1 hg => ?_⟩, by (try dsimp only); omega⟩
    rcases Nat.lt_or_eq_of_le (show f ≤ e by omega) with h1 | h1
    · exact hf f h1 hg
    · subst h1; exact hnk hg.2.2
  · have hno : ∀ f : Nat, ¬ PolyOk k a q f := by
      intro f hg
      rcases Nat.lt_or_ge f e with h1 | h1
      · exact hf f h1 hg
      · have : a * (e : Int) ≤ a * f := Int.mul_le_mul_of_nonneg_left (by omega) ha0
        have := hg.2.1; omega
    have hne : q ≠ 1000003 := fun h => by subst h; exact hno 1 (good_big hk ha)
    refine call (nuNext_ok (q + 1) (by omega) (by omega) _) ?_
    rintro p _ ⟨⟨h1, h2, h3, h4⟩, rfl⟩
    refine ⟨⟨rfl, h3, h2, fun r hr hlt f => ?_⟩, by (try dsimp only); omega⟩
    rcases Int.lt_or_le r (q + 1) with h5 | h5
    · rcases Int.lt_or_eq_of_le (show r ≤ q by omega) with h6 | h6
      · exact hbef r hr h6 f
      · subst h6; exact hno f
    · exact absurd hr (h4 r h5 hlt)

/-- What both hand back. -/
def PPR (k a q d : Int) (b : Bool) : Prop := (b = false ∧ q = 0 ∧ d = 0 ∧ ¬ (1 ≤ k ∧ k ≤ 1000000000000 ∧ 0 ≤ a ∧ a ≤ 6)) ∨ (b = true ∧ (1 ≤ k ∧ k ≤ 1000000000000 ∧ 0 ≤ a ∧ a ≤ 6) ∧ ∃ e : Nat, d = e ∧ PP k a q e)

theorem PPR_unique {k a q d q' d' : Int} {b b' : Bool} (h : PPR k a q d b) (h' : PPR k a q' d' b') : q = q' ∧ d = d' ∧ b = b' := by
  rcases h with ⟨rfl, rfl, rfl, h⟩ | ⟨rfl, h, e, rfl, hp⟩ <;> rcases h' with ⟨rfl, rfl, rfl, h'⟩ | ⟨rfl, h', e', rfl, hp'⟩
  · exact ⟨rfl, rfl, rfl⟩
  · exact absurd h' h
  · exact absurd h h'
  · obtain ⟨rfl, rfl⟩ := PP_unique hp hp'
    exact ⟨rfl, rfl, rfl⟩

/- The law.s walk. -/

end Go.Proofs.YtoeaoinedidbiaaGreat
