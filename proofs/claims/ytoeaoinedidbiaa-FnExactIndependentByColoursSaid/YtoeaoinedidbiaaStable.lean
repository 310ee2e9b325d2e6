/- slices.SortStableFunc at []int, for lists of numbers: the pieces of its code (swaps, rotations, insertion, merging) and what they bring about. -/
import Derived.Test.YtoeaoinedidbiaaVStable
import Derived.Test.YtoeaoinedidbiaaColl
import Derived.Test.YtoeaoinedidbiaaWrite
import Derived.Test.YtoeaoinedidbiaaCopy
namespace Go.Proofs.Ytoeaoinedidbiaa
open Go.GX Go.RowKit
set_option maxRecDepth 100000

/-! ### Places and swaps -/

def gt (l : List Int) (i : Nat) : Int := l.getD i 0
theorem gt_get {l : List Int} {i : Nat} (h : i < l.length) : gt l i = l[i] := by simp [gt, h]
def swp (l : List Int) (p q : Nat) : List Int := (l.set q (gt l p)).set p (gt l q)

theorem swp_len (l : List Int) (p q : Nat) : (swp l p q).length = l.length := by simp [swp]
theorem gt_set (l : List Int) (p : Nat) (x : Int) (k : Nat) (hp : p < l.length) : gt (l.set p x) k = if k = p then x else gt l k := by
  unfold gt
  simp only [List.getD_eq_getElem?_getD]
  by_cases h : k = p
  · subst h; simp [hp]
  · rw [List.getElem?_set_ne (Ne.symm h), if_neg h]
theorem swp_get {l : List Int} {p q : Nat} (hp : p < l.length) (hq : q < l.length) (k : Nat) : gt (swp l p q) k = if k = p then gt l q else if k = q then gt l p else gt l k := by
  unfold swp
  rw [gt_set _ _ _ _ (by simpa using hp), gt_set _ _ _ _ hq]
theorem swp_perm {l : List Int} {p q : Nat} (hp : p < l.length) (hq : q < l.length) : (swp l p q).Perm l := by
  have := List.set_set_perm hq hp
  unfold swp
  rw [gt_get hp, gt_get hq]
  exact this

/-- The list that is being sorted: in memory, changed in its own block alone, a permutation of the first one. -/
structure Sd (w0 : World) (base : Nat) (s : Sl) (l0 : List Int) (w : World) (l : List Int) : Prop where
  own : OwnL w base T.t_int s l
  chg : Chg w0 w (oB s)
  perm : l.Perm l0

/-- The comparison: negative where the first key is less; it changes nothing. -/
def Cmp (w0 : World) (s : Sl) (cmp : Value) (key : Int → Int) (l0 : List Int) : Prop :=
  ∀ x ∈ l0, ∀ y ∈ l0, ∀ w', Chg w0 w' (oB s) → CALLV Try.prog cmp #[.int .i64 x, .int .i64 y] w' (Ret [.at (.int .i64)] fun (r : Int) w'' => (r < 0 ↔ key x < key y) ∧ Ext w' w'')

section
variable {w0 w w' : World} {base : Nat} {s : Sl} {l0 l : List Int} {cmp : Value} {key : Int → Int}

theorem Sd.ext (h : Sd w0 base s l0 w l) (hE : Ext w w') : Sd w0 base s l0 w' l := ⟨h.own.ext hE, h.chg.trans (.of_ext hE), h.perm⟩
theorem Sd.len (h : Sd w0 base s l0 w l) : l.length = l0.length := h.perm.length_eq
theorem Sd.mem (h : Sd w0 base s l0 w l) {i : Nat} (hi : i < l0.length) : gt l i ∈ l0 := by
  have hi' : i < l.length := by rw [h.len]; exact hi
  rw [gt_get hi']
  exact h.perm.mem_iff.1 (List.getElem_mem hi')
theorem Sd.rep (h : Sd w0 base s l0 w l) (hI : ∀ x ∈ l0, I64 x) : R w s l := (h.own.rep fun x hx => hI x (h.perm.mem_iff.1 hx)).any
theorem Sd.ix (h : Sd w0 base s l0 w l) (hI : ∀ x ∈ l0, I64 x) {i : Nat} (hi : i < l0.length) {K : Addr → Prop} (hk : ∀ p, w.cell? p = some (.int .i64 (gt l i)) → K p) : IX s i 1 K := by
  have hi' : i < l.length := by rw [h.len]; exact hi
  refine (h.rep hI).ixI hi' fun p _ hc => hk p ?_
  rw [gt_get hi']; exact hc

theorem Sd.swap (h : Sd w0 base s l0 w l) (hI : ∀ x ∈ l0, I64 x) {p q : Nat} (hp : p < l0.length) (hq : q < l0.length) {K : World → Prop} (hk : ∀ w', Sd w0 base s l0 w' (swp l p q) → K w') :
    ∃ D : Nat → Prop, IX s p 1 fun a1 => IX s q 1 fun a2 => ¬ D a1.block ∧ (LD [.int .i64] a1 w fun x => LD [.int .i64] a2 w fun y => Chg w w D ∧ (IX s q 1 fun a3 => GX.ST a3 0 [.int .i64 x] w fun w9 => IX s p 1 fun a4 => GX.ST a4 0 [.int .i64 y] w9 K)) := by
  have hp' : p < l.length := by rw [h.len]; exact hp
  have hq' : q < l.length := by rw [h.len]; exact hq
  refine ⟨fun _ => False, h.ix hI hp fun a1 hc1 => h.ix hI hq fun a2 hc2 => ⟨not_false, LD_int hc1 (LD_int hc2 ⟨Chg.refl _ _, ?_⟩)⟩⟩
  refine IX_own h.own hq' rfl fun p1 hp1 => ST_own h.own hq' hp1 (gt l p) rfl fun w1 hO1 hs1 => ?_
  refine IX_own hO1 (by simpa using hp') rfl fun p2 hp2 => ST_own hO1 (by simpa using hp') hp2 (gt l q) rfl fun w2 hO2 hs2 => ?_
  exact hk w2 ⟨hO2, h.chg.trans ((Chg.of_step hs1 fun k hk => hk).trans (.of_step hs2 fun k hk => hk)), (swp_perm hp' hq').trans h.perm⟩

/-! ### Ranges swapped and rotated -/

/-- Where a place's content comes from when two ranges of n places change places. -/
def tau (a b n k : Nat) : Nat := if a ≤ k ∧ k < a + n then k + (b - a) else if b ≤ k ∧ k < b + n then k - (b - a) else k

theorem swapRange_ok (h : Sd w0 base s l0 w l) (hI : ∀ x ∈ l0, I64 x) (hl : l0.length ≤ 1000) {a b n : Nat} (hab : a + n ≤ b) (hb : b + n ≤ l0.length) :
    Calls Try.prog F.slices_swapRangeCmpFunc_int #[s.v, .int .i64 a, .int .i64 b, .int .i64 n, cmp] w (Ret [] fun w' => ∃ l', Sd w0 base s l0 w' l' ∧ ∀ k, gt l' k = gt l (tau a b n k)) := by
  refine C_slices_swapRangeCmpFunc_int ?_
  unfold V_slices_swapRangeCmpFunc_int
  refine ⟨IN n fun i w' => ∃ l', Sd w0 base s l0 w' l' ∧ ∀ k, gt l' k = gt l (tau a b i k), MN n, IN_zero ⟨l, h, fun k => by unfold tau; rw [if_neg (by omega), if_neg (by omega)]⟩, ?_⟩
  rintro _ w1 ⟨i, rfl, hi, l1, h1, hg⟩
  intros
  refine cond_dec (fun hlt => ?_) (fun hge => ?_)
  · have hi' : i < n := by omega
    intro w2 hE2 _
    have h2 := h1.ext hE2
    rw [wrap_of (n := (b : Int) + i) (by omega) (by omega), wrap_of (n := (a : Int) + i) (by omega) (by omega)]
    have e1 : ((b : Int) + i) = ((b + i : Nat) : Int) := by omega
    have e2 : ((a : Int) + i) = ((a + i : Nat) : Int) := by omega
    rw [e1, e2]
    refine h2.swap hI (by omega) (by omega) fun w4 h4 => IN_next (by omega) hi' ⟨_, h4, fun k => ?_⟩
    have hll := h2.len
    rw [swp_get (by omega) (by omega), hg, hg, hg]
    have key : (if k = b + i then tau a b i (a + i) else if k = a + i then tau a b i (b + i) else tau a b i k) = tau a b (i + 1) k := by
      unfold tau
      repeat' split
      all_goals omega
    rw [← key]
    split
    · rfl
    · split <;> rfl
  · have : i = n := by omega
    subst this
    exact ⟨l1, h1, hg⟩

/-- Where a place's content comes from when the ranges [a, m) and [m, b) change places. -/
def sig (a m b k : Nat) : Nat := if a ≤ k ∧ k < a + (b - m) then k + (m - a) else if a + (b - m) ≤ k ∧ k < b then k - (b - m) else k

theorem rotate_ok (h : Sd w0 base s l0 w l) (hI : ∀ x ∈ l0, I64 x) (hl : l0.length ≤ 1000) {a m b : Nat} (ham : a < m) (hmb : m < b) (hb : b ≤ l0.length) :
    Calls Try.prog F.slices_rotateCmpFunc_int #[s.v, .int .i64 a, .int .i64 m, .int .i64 b, cmp] w (Ret [] fun w' => ∃ l', Sd w0 base s l0 w' l' ∧ ∀ k, gt l' k = gt l (sig a m b k)) := by
  refine C_slices_rotateCmpFunc_int ?_
  unfold V_slices_rotateCmpFunc_int
  rw [wrap_of (n := (m : Int) - a) (by omega) (by omega), wrap_of (n := (b : Int) - m) (by omega) (by omega)]
  refine ⟨fun x y w' => ∃ i j : Nat, x = i ∧ y = j ∧ 0 < i ∧ 0 < j ∧ i ≤ m ∧ m + j ≤ l0.length ∧ ∃ l', Sd w0 base s l0 w' l' ∧ ∀ k, gt l (sig a m b k) = gt l' (sig (m - i) m (m + j) k), fun x y _ => x.toNat + y.toNat,
    ⟨m - a, b - m, by omega, by omega, by omega, by omega, by omega, by omega, l, h, fun k => by rw [show m - (m - a) = a by omega, show m + (b - m) = b by omega]⟩, ?_⟩
  rintro _ _ w1 ⟨i, j, rfl, rfl, hi0, hj0, him, hjl, l1, h1, hg⟩
  intros
  have e1 : IntKind.i64.wrap ((m : Int) - i) = ((m - i : Nat) : Int) := by rw [wrap_of (by omega) (by omega)]; omega
  rw [e1]
  refine cond_ne (fun hne => ?_) (fun heq => ?_)
  · refine cond_dec (fun hgt => ?_) (fun hle => ?_)
    · refine call (swapRange_ok h1 hI hl (a := m - i) (b := m) (n := j) (by omega) (by omega)) ?_
      rintro w2 ⟨l2, h2, hg2⟩
      rw [wrap_of (n := (i : Int) - j) (by omega) (by omega)]
      refine ⟨⟨i - j, j, by omega, rfl, by omega, hj0, by omega, hjl, l2, h2, fun k => ?_⟩, by simp only []; omega⟩
      rw [hg, hg2]
      congr 1
      unfold sig tau
      repeat' split
      all_goals omega
    · have e2 : IntKind.i64.wrap (IntKind.i64.wrap ((m : Int) + j) - i) = ((m + j - i : Nat) : Int) := by rw [wrap_of (n := (m : Int) + j) (by omega) (by omega), wrap_of (by omega) (by omega)]; omega
      rw [e2]
      refine call (swapRange_ok h1 hI hl (a := m - i) (b := m + j - i) (n := i) (by omega) (by omega)) ?_
      rintro w2 ⟨l2, h2, hg2⟩
      rw [wrap_of (n := (j : Int) - i) (by omega) (by omega)]
      refine ⟨⟨i, j - i, rfl, by omega, hi0, by omega, him, by omega, l2, h2, fun k => ?_⟩, by simp only []; omega⟩
      rw [hg, hg2]
      congr 1
      unfold sig tau
      repeat' split
      all_goals omega
  · have : i = j := by omega
    subst this
    refine call (swapRange_ok h1 hI hl (a := m - i) (b := m) (n := i) (by omega) (by omega)) ?_
    rintro w2 ⟨l2, h2, hg2⟩
    refine ⟨l2, h2, fun k => ?_⟩
    rw [hg, hg2]
    congr 1
    unfold sig tau
    repeat' split
    all_goals omega

/-! ### Order -/

def ltK (key : Int → Int) (x y : Int) : Prop := key x < key y ∨ (key x = key y ∧ x < y)
theorem ltK.trans {key : Int → Int} {x y z : Int} (h : ltK key x y) (k : ltK key y z) : ltK key x z := by
  unfold ltK at *; omega
theorem ltK.le {key : Int → Int} {x y : Int} (h : ltK key x y) : key x ≤ key y := by unfold ltK at h; omega

/-- Sorted between two places. -/
def SIn (key : Int → Int) (l : List Int) (a b : Nat) : Prop := ∀ i j, a ≤ i → i < j → j < b → ltK key (gt l i) (gt l j)
/-- What lies between two places lay there before. -/
def SubIn (l l' : List Int) (a b : Nat) : Prop := ∀ i, a ≤ i → i < b → ∃ j, a ≤ j ∧ j < b ∧ gt l' i = gt l j
def SameOut (l l' : List Int) (a b : Nat) : Prop := ∀ i, (i < a ∨ b ≤ i) → gt l' i = gt l i

theorem SubIn.refl (l : List Int) (a b : Nat) : SubIn l l a b := fun i h1 h2 => ⟨i, h1, h2, rfl⟩
theorem SubIn.trans {l l' l'' : List Int} {a b : Nat} (h : SubIn l l' a b) (k : SubIn l' l'' a b) : SubIn l l'' a b := fun i h1 h2 => by
  obtain ⟨j, h3, h4, h5⟩ := k i h1 h2
  obtain ⟨m, h6, h7, h8⟩ := h j h3 h4
  exact ⟨m, h6, h7, h5.trans h8⟩
theorem SubIn.wide {l l' : List Int} {a b a' b' : Nat} (h : SubIn l l' a b) (ho : SameOut l l' a b) (ha : a' ≤ a) (hb : b ≤ b') : SubIn l l' a' b' := fun i h1 h2 => by
  by_cases hi : a ≤ i ∧ i < b
  · obtain ⟨j, h3, h4, h5⟩ := h i hi.1 hi.2
    exact ⟨j, by omega, by omega, h5⟩
  · exact ⟨i, h1, h2, ho i (by omega)⟩
theorem SameOut.wide {l l' : List Int} {a b a' b' : Nat} (h : SameOut l l' a b) (ha : a' ≤ a) (hb : b ≤ b') : SameOut l l' a' b' := fun i hi => h i (by omega)
theorem SameOut.trans {l l' l'' : List Int} {a b : Nat} (h : SameOut l l' a b) (k : SameOut l' l'' a b) : SameOut l l'' a b := fun i hi => (k i hi).trans (h i hi)

/-- While a number sinks to its place: it lies at place j; the others are sorted; those behind it are greater. -/
structure Sink (key : Int → Int) (l l' : List Int) (a i j : Nat) (x : Int) : Prop where
  at_ : gt l' j = x
  sorted : ∀ p q, a ≤ p → p < q → q ≤ i → p ≠ j → q ≠ j → ltK key (gt l' p) (gt l' q)
  behind : ∀ q, j < q → q ≤ i → ltK key x (gt l' q)
  sub : ∀ p, a ≤ p → p ≤ i → p ≠ j → ∃ m, a ≤ m ∧ m < i ∧ gt l' p = gt l m
  out : ∀ p, (p < a ∨ i < p) → gt l' p = gt l p

theorem insertion_ok (h : Sd w0 base s l0 w l) (hI : ∀ x ∈ l0, I64 x) (hl : l0.length ≤ 1000) (hc : Cmp w0 s cmp key l0) {a b : Nat} (hab : a ≤ b) (hb : b ≤ l0.length) (hinc : ∀ i j, a ≤ i → i < j → j < b → gt l i < gt l j) :
    Calls Try.prog F.slices_insertionSortCmpFunc_int #[s.v, .int .i64 a, .int .i64 b, cmp] w (Ret [] fun w' => ∃ l', Sd w0 base s l0 w' l' ∧ SIn key l' a b ∧ SubIn l l' a b ∧ SameOut l l' a b) := by
  refine C_slices_insertionSortCmpFunc_int ?_
  unfold V_slices_insertionSortCmpFunc_int
  rw [wrap_of (n := (a : Int) + 1) (by omega) (by omega)]
  refine ⟨fun x w' => ∃ i : Nat, x = i ∧ a + 1 ≤ i ∧ (i ≤ b ∨ i = a + 1) ∧ ∃ l', Sd w0 base s l0 w' l' ∧ SIn key l' a i ∧ (∀ p, a ≤ p → p < i → p < b → ∃ m, a ≤ m ∧ m < i ∧ m < b ∧ gt l' p = gt l m) ∧ SameOut l l' a (min i b), fun x _ => b - x.toNat,
    ⟨a + 1, by omega, by omega, .inr rfl, l, h, fun i j h1 h2 h3 => by omega, fun p h1 h2 h3 => ⟨p, h1, h2, h3, rfl⟩, fun i _ => rfl⟩, ?_⟩
  rintro _ w1 ⟨i, rfl, hi1, hi2, l1, h1, hs1, hu1, ho1⟩
  intros
  refine cond_dec (fun hlt => ?_) (fun hge => ?_)
  rotate_left
  · refine ⟨l1, h1, fun p q k1 k2 k3 => hs1 p q k1 k2 (by omega), fun p k1 k2 => ?_, fun p hp => ho1 p (by omega)⟩
    obtain ⟨m, m1, m2, m3, m4⟩ := hu1 p k1 (by omega) k2
    exact ⟨m, m1, m3, m4⟩
  have hib : i < b := by omega
  have hx : gt l1 i = gt l i := ho1 i (by omega)
  refine ⟨fun y w' => ∃ j : Nat, y = j ∧ a ≤ j ∧ j ≤ i ∧ ∃ l', Sd w0 base s l0 w' l' ∧ Sink key l l' a i j (gt l i), fun y _ => y.toNat,
    ⟨i, rfl, by omega, Nat.le_refl _, l1, h1, ⟨hx, fun p q k1 k2 k3 k4 k5 => hs1 p q k1 k2 (by omega), fun q k1 k2 => by omega, fun p k1 k2 k3 => ?_, fun p hp => ho1 p (by omega)⟩⟩, ?_⟩
  · obtain ⟨m, m1, m2, m3, m4⟩ := hu1 p k1 (by omega) (by omega)
    exact ⟨m, m1, m2, m4⟩
  rintro _ w2 ⟨j, rfl, hja, hji, l2, h2, hk⟩
  intros
  rename_i w3 hE3 _
  have h3 := h2.ext hE3
  have hdone : ∀ w', Ext w3 w' → (j = a ∨ (a < j ∧ ¬ key (gt l i) < key (gt l2 (j - 1)))) → (fun (x : Int) w' => ∃ i : Nat, x = i ∧ a + 1 ≤ i ∧ (i ≤ b ∨ i = a + 1) ∧ ∃ l', Sd w0 base s l0 w' l' ∧ SIn key l' a i ∧ (∀ p, a ≤ p → p < i → p < b → ∃ m, a ≤ m ∧ m < i ∧ m < b ∧ gt l' p = gt l m) ∧ SameOut l l' a (min i b)) (IntKind.i64.wrap ((i : Int) + 1)) w' ∧ b - (IntKind.i64.wrap ((i : Int) + 1)).toNat < b - ((i : Int)).toNat := by
    intro w' hE' hstop
    rw [wrap_of (by omega) (by omega)]
    refine ⟨⟨i + 1, by omega, by omega, .inl (by omega), l2, h3.ext hE', fun p q k1 k2 k3 => ?_, fun p k1 k2 k3 => ?_, fun p hp => hk.out p (by omega)⟩, by omega⟩
    · have hbelow : ∀ p, a ≤ p → p < j → ltK key (gt l2 p) (gt l i) := fun p k1 k2 => by
        rcases hstop with rfl | ⟨hj1, hj2⟩
        · omega
        · obtain ⟨m, m1, m2, m3⟩ := hk.sub (j - 1) (by omega) (by omega) (by omega)
          have hnum := hinc m i m1 m2 hib
          have hlast : ltK key (gt l2 (j - 1)) (gt l i) := by
            unfold ltK
            rw [m3] at hj2 ⊢
            omega
          by_cases hp : p = j - 1
          · subst hp; exact hlast
          · exact (hk.sorted p (j - 1) k1 (by omega) (by omega) (by omega) (by omega)).trans hlast
      by_cases hp : p = j
      · subst hp
        rw [hk.at_]
        exact hk.behind q k2 (by omega)
      · by_cases hq : q = j
        · subst hq
          rw [hk.at_]
          exact hbelow p k1 k2
        · exact hk.sorted p q k1 k2 (by omega) hp hq
    · by_cases hp : p = j
      · subst hp
        exact ⟨i, by omega, by omega, hib, hk.at_⟩
      · obtain ⟨m, m1, m2, m3⟩ := hk.sub p k1 (by omega) hp
        exact ⟨m, m1, by omega, by omega, m3⟩
  refine ⟨Ext.refl _, Ext.refl _, Ext.refl _, cond_dec (fun hgt => ?_) (fun hle => ⟨Ext.refl _, hdone w3 (Ext.refl _) (.inl (by omega))⟩)⟩
  have hja' : a < j := by omega
  have e1 : IntKind.i64.wrap ((j : Int) - 1) = ((j - 1 : Nat) : Int) := by rw [wrap_of (by omega) (by omega)]; omega
  rw [e1]
  refine h3.ix hI (i := j) (by omega) fun p1 hc1 => LD_int hc1 ⟨Ext.refl _, Ext.refl _, h3.ix hI (i := j - 1) (by omega) fun p2 hc2 => ⟨Ext.refl _, LD_int hc2 ⟨Ext.refl _, ?_⟩⟩⟩
  refine callv (hc _ (h3.mem (by omega)) _ (h3.mem (by omega)) w3 h3.chg) ?_
  rintro r w4 ⟨hr, hE4⟩
  have h4 := h3.ext hE4
  rw [hk.at_] at hr
  refine ⟨hE4, Ext.refl _, Ext.refl _, cond_dec (fun hneg => ?_) (fun hnn => hdone w4 hE4 (.inr ⟨hja', fun hh => hnn (hr.2 hh)⟩))⟩
  have hkey := hr.1 hneg
  intro w8 hE8 _
  refine (h4.ext hE8).swap hI (p := j - 1) (q := j) (by omega) (by omega) fun w10 h10 => ⟨⟨j - 1, rfl, by omega, by omega, _, h10, ?_⟩, by simp only []; omega⟩
  have hll := h4.len
  have hsg := fun k => swp_get (l := l2) (p := j - 1) (q := j) (by omega) (by omega) k
  refine ⟨by rw [hsg, if_pos rfl, hk.at_], fun p q k1 k2 k3 k4 k5 => ?_, fun q k1 k2 => ?_, fun p k1 k2 k3 => ?_, fun p hp => ?_⟩
  · rw [hsg, hsg, if_neg k4, if_neg k5]
    by_cases hp : p = j
    · subst hp
      rw [if_pos rfl, if_neg (by omega)]
      exact hk.sorted (p - 1) q (by omega) (by omega) k3 (by omega) (by omega)
    · rw [if_neg hp]
      by_cases hq : q = j
      · subst hq
        rw [if_pos rfl]
        exact hk.sorted p (q - 1) k1 (by omega) (by omega) hp (by omega)
      · rw [if_neg hq]
        exact hk.sorted p q k1 k2 k3 hp hq
  · rw [hsg, if_neg (by omega)]
    by_cases hq : q = j
    · subst hq
      rw [if_pos rfl]
      exact .inl hkey
    · rw [if_neg hq]
      exact hk.behind q (by omega) k2
  · rw [hsg, if_neg k3]
    by_cases hp : p = j
    · subst hp
      rw [if_pos rfl]
      exact hk.sub (p - 1) (by omega) (by omega) (by omega)
    · rw [if_neg hp]
      exact hk.sub p k1 k2 hp
  · rw [hsg, if_neg (by omega), if_neg (by omega)]
    exact hk.out p hp

/-! ### Merging -/

theorem half_nat {a b : Nat} (h : a + b ≤ 100000) : IntKind.i64.wrap (shrI .u64 (IntKind.u64.wrap (IntKind.i64.wrap ((a : Int) + (b : Int)))) 1) = (((a + b) / 2 : Nat) : Int) := by
  rw [wrap_of (n := (a : Int) + b) (by omega) (by omega), wrap_u64 (by omega) (by omega)]
  have e : ((a : Int) + (b : Int)) = ((a + b : Nat) : Int) := by omega
  have e1 : (1 : Int) = ((1 : Nat) : Int) := rfl
  rw [e, e1, shr_nat .u64 (a + b) 1 (by decide)]
  have : (a + b) / 2 ^ 1 = (a + b) / 2 := rfl
  rw [this, wrap_of (by omega) (by omega)]

theorem sig_id {a m b k : Nat} (h : a = m ∨ m = b) (ham : a ≤ m) (hmb : m ≤ b) : sig a m b k = k := by
  unfold sig
  repeat' split
  all_goals omega

/-- What is known when the place of the cut is found. -/
structure Cut (key : Int → Int) (l : List Int) (a m b c e : Nat) : Prop where
  ac : a ≤ c
  cm : c ≤ m
  me : m ≤ e
  eb : e ≤ b
  low : ∀ p q, a ≤ p → p < c → e ≤ q → q < b → ltK key (gt l p) (gt l q)
  high : ∀ p q, m ≤ p → p < e → c ≤ q → q < m → key (gt l p) < key (gt l q)

/-- What the rotation leaves: two pairs of sorted ranges, and all of the first pair before all of the second. -/
structure Mid (key : Int → Int) (l l1 : List Int) (a b c e d : Nat) : Prop where
  s11 : SIn key l1 a c
  s12 : SIn key l1 c d
  s21 : SIn key l1 d e
  s22 : SIn key l1 e b
  n1 : ∀ i j, a ≤ i → i < c → c ≤ j → j < d → gt l1 i < gt l1 j
  n2 : ∀ i j, d ≤ i → i < e → e ≤ j → j < b → gt l1 i < gt l1 j
  cross : ∀ p q, a ≤ p → p < d → d ≤ q → q < b → ltK key (gt l1 p) (gt l1 q)
  sub : SubIn l l1 a b
  out : SameOut l l1 a b

theorem mid_of {a m b c e d : Nat} {l1 : List Int} (hs1 : SIn key l a m) (hs2 : SIn key l m b) (hnum : ∀ i j, a ≤ i → i < m → m ≤ j → j < b → gt l i < gt l j) (hC : Cut key l a m b c e) (hd : c + e = d + m) (hg : ∀ k, gt l1 k = gt l (sig c m e k)) : Mid key l l1 a b c e d := by
  obtain ⟨h1, h2, h3, h4, hlow, hhigh⟩ := hC
  have f1 : ∀ k, k < c → gt l1 k = gt l k := fun k hk => by rw [hg]; unfold sig; rw [if_neg (by omega), if_neg (by omega)]
  have f2 : ∀ k, c ≤ k → k < d → gt l1 k = gt l (k + (m - c)) := fun k hk hk2 => by rw [hg]; unfold sig; rw [if_pos (by omega)]
  have f3 : ∀ k, d ≤ k → k < e → gt l1 k = gt l (k - (e - m)) := fun k hk hk2 => by rw [hg]; unfold sig; rw [if_neg (by omega), if_pos (by omega)]
  have f4 : ∀ k, e ≤ k → gt l1 k = gt l k := fun k hk => by rw [hg]; unfold sig; rw [if_neg (by omega), if_neg (by omega)]
  refine ⟨fun p q k1 k2 k3 => ?_, fun p q k1 k2 k3 => ?_, fun p q k1 k2 k3 => ?_, fun p q k1 k2 k3 => ?_, fun p q k1 k2 k3 k4 => ?_, fun p q k1 k2 k3 k4 => ?_, fun p q k1 k2 k3 k4 => ?_, fun p k1 k2 => ?_, fun p hp => ?_⟩
  · rw [f1 p (by omega), f1 q k3]; exact hs1 p q k1 k2 (by omega)
  · rw [f2 p k1 (by omega), f2 q (by omega) k3]; exact hs2 _ _ (by omega) (by omega) (by omega)
  · rw [f3 p k1 (by omega), f3 q (by omega) k3]; exact hs1 _ _ (by omega) (by omega) (by omega)
  · rw [f4 p k1, f4 q (by omega)]; exact hs2 _ _ (by omega) k2 k3
  · rw [f1 p k2, f2 q k3 k4]; exact hnum _ _ k1 (by omega) (by omega) (by omega)
  · rw [f3 p k1 k2, f4 q k3]; exact hnum _ _ (by omega) (by omega) (by omega) k4
  · by_cases c1 : p < c
    · rw [f1 p c1]
      by_cases c2 : q < e
      · rw [f3 q k3 c2]; exact hs1 _ _ k1 (by omega) (by omega)
      · rw [f4 q (by omega)]; exact hlow p q k1 c1 (by omega) k4
    · rw [f2 p (by omega) k2]
      by_cases c2 : q < e
      · rw [f3 q k3 c2]; exact .inl (hhigh _ _ (by omega) (by omega) (by omega) (by omega))
      · rw [f4 q (by omega)]; exact hs2 _ _ (by omega) (by omega) k4
  · rw [hg]
    refine ⟨_, ?_, ?_, rfl⟩
    · unfold sig; (repeat' split) <;> omega
    · unfold sig; (repeat' split) <;> omega
  · rw [hg]
    congr 1
    unfold sig
    (repeat' split) <;> omega

theorem symMerge_ok (hI : ∀ x ∈ l0, I64 x) (hl : l0.length ≤ 1000) (hc : Cmp w0 s cmp key l0) : ∀ (d : Nat) {w : World} {l : List Int} (_ : Sd w0 base s l0 w l) {a m b : Nat}, b - a ≤ d → a < m → m < b → b ≤ l0.length → SIn key l a m → SIn key l m b → (∀ i j, a ≤ i → i < m → m ≤ j → j < b → gt l i < gt l j) →
    Calls Try.prog F.slices_symMergeCmpFunc_int #[s.v, .int .i64 a, .int .i64 m, .int .i64 b, cmp] w (Ret [] fun w' => ∃ l', Sd w0 base s l0 w' l' ∧ SIn key l' a b ∧ SubIn l l' a b ∧ SameOut l l' a b)
  | 0, w, l, _, a, m, b, hd, ham, hmb, _, _, _, _ => by omega
  | d + 1, w, l, h, a, m, b, hd, ham, hmb, hb, hs1, hs2, hnum => by
    refine C_slices_symMergeCmpFunc_int ?_
    unfold V_slices_symMergeCmpFunc_int
    rw [wrap_of (n := (m : Int) - a) (by omega) (by omega), wrap_of (n := (b : Int) - m) (by omega) (by omega)]
    have hlen := h.len
    refine cond_eq (fun hone => ?_) (fun hnone => cond_eq (fun hone => ?_) (fun hnone2 => ?_))
    · -- one number on the left
      have hma : m = a + 1 := by omega
      subst hma
      refine ⟨fun x y w' => ∃ i j : Nat, x = i ∧ y = j ∧ a + 1 ≤ i ∧ i ≤ j ∧ j ≤ b ∧ Sd w0 base s l0 w' l ∧ (∀ p, a + 1 ≤ p → p < i → key (gt l p) < key (gt l a)) ∧ (∀ p, j ≤ p → p < b → ¬ key (gt l p) < key (gt l a)), fun x y _ => y.toNat - x.toNat,
        ⟨a + 1, b, by omega, rfl, by omega, by omega, by omega, h, fun p h1 h2 => by omega, fun p h1 h2 => by omega⟩, ?_⟩
      rintro _ _ w1 ⟨i, j, rfl, rfl, hi, hij, hjb, h1, hlo, hhi⟩
      intros
      refine cond_dec (fun hlt => ⟨by omega, ?_⟩) (fun hge => ?_)
      · intro w2 hE2 _
        have h2 := h1.ext hE2
        rw [half_nat (by omega)]
        have hh1 : i ≤ (i + j) / 2 := by omega
        have hh2 : (i + j) / 2 < j := by omega
        generalize (i + j) / 2 = hf at *
        refine h2.ix hI (i := hf) (by omega) fun p1 hc1 => LD_int hc1 ⟨Ext.refl _, h2.ix hI (i := a) (by omega) fun p2 hc2 => ⟨Ext.refl _, LD_int hc2 ⟨Ext.refl _, ?_⟩⟩⟩
        refine callv (hc _ (h2.mem (by omega)) _ (h2.mem (by omega)) w2 h2.chg) ?_
        rintro r w3 ⟨hr, hE3⟩
        refine ⟨hE3, hE3, cond_dec (fun hneg => ?_) (fun hnn => ?_)⟩
        · rw [wrap_of (by omega) (by omega)]
          refine ⟨⟨hf + 1, j, by omega, rfl, by omega, by omega, hjb, h2.ext hE3, fun p k1 k2 => ?_, hhi⟩, by simp only []; omega⟩
          have hk := hr.1 hneg
          by_cases hp : p = hf
          · subst hp; exact hk
          · have := (hs2 p hf k1 (by omega) (by omega)).le
            omega
        · refine ⟨⟨i, hf, rfl, rfl, hi, hh1, by omega, h2.ext hE3, hlo, fun p k1 k2 => ?_⟩, by simp only []; omega⟩
          have hk : ¬ key (gt l hf) < key (gt l a) := fun hh => hnn (hr.2 hh)
          by_cases hp : p = hf
          · subst hp; exact hk
          · have := (hs2 hf p (by omega) (by omega) k2).le
            omega
      · have : i = j := by omega
        subst this
        rw [wrap_of (n := (i : Int) - 1) (by omega) (by omega)]
        refine ⟨fun x w' => ∃ k : Nat, x = k ∧ a ≤ k ∧ k ≤ i - 1 ∧ ∃ l', Sd w0 base s l0 w' l' ∧ ∀ p, gt l' p = gt l (if a ≤ p ∧ p < k then p + 1 else if p = k then a else p), fun x _ => i - x.toNat,
          ⟨a, rfl, by omega, by omega, l, h1, fun p => by congr 1; (repeat' split) <;> omega⟩, ?_⟩
        rintro _ w4 ⟨k, rfl, hk1, hk2, l4, h4, hg4⟩
        intros
        refine cond_dec (fun hlt2 => ?_) (fun hge2 => ?_)
        · intro w5 hE5 _
          rw [wrap_of (n := (k : Int) + 1) (by omega) (by omega)]
          have e1 : ((k : Int) + 1) = ((k + 1 : Nat) : Int) := by omega
          rw [e1]
          refine (h4.ext hE5).swap hI (p := k + 1) (q := k) (by omega) (by omega) fun w7 h7 => ⟨⟨k + 1, rfl, by omega, by omega, _, h7, fun p => ?_⟩, by simp only []; omega⟩
          have hl4 := h4.len
          rw [swp_get (by omega) (by omega), hg4, hg4, hg4, ← apply_ite (gt l), ← apply_ite (gt l)]
          congr 1
          repeat' split
          all_goals omega
        · have : k = i - 1 := by omega
          subst this
          refine ⟨l4, h4, fun p q k1 k2 k3 => ?_, fun p k1 k2 => ?_, fun p hp => ?_⟩
          · rw [hg4, hg4]
            by_cases c1 : q < i - 1
            · rw [if_pos ⟨k1, by omega⟩, if_pos ⟨by omega, c1⟩]
              exact hs2 _ _ (by omega) (by omega) (by omega)
            · rw [if_neg (show ¬ (a ≤ q ∧ q < i - 1) by omega)]
              by_cases c2 : q = i - 1
              · rw [if_pos c2, if_pos ⟨k1, by omega⟩]
                exact .inl (hlo _ (by omega) (by omega))
              · rw [if_neg c2]
                by_cases c3 : p < i - 1
                · rw [if_pos ⟨k1, c3⟩]
                  exact hs2 _ _ (by omega) (by omega) k3
                · rw [if_neg (show ¬ (a ≤ p ∧ p < i - 1) by omega)]
                  by_cases c4 : p = i - 1
                  · rw [if_pos c4]
                    have := hhi q (by omega) k3
                    have := hnum a q (by omega) (by omega) (by omega) k3
                    unfold ltK; omega
                  · rw [if_neg c4]
                    exact hs2 _ _ (by omega) k2 k3
          · rw [hg4]
            exact ⟨_, by (repeat' split) <;> omega, by (repeat' split) <;> omega, rfl⟩
          · rw [hg4]
            congr 1
            repeat' split
            all_goals omega
    · -- one number on the right
      have hbm : b = m + 1 := by omega
      subst hbm
      refine ⟨fun x y w' => ∃ i j : Nat, x = i ∧ y = j ∧ a ≤ i ∧ i ≤ j ∧ j ≤ m ∧ Sd w0 base s l0 w' l ∧ (∀ p, a ≤ p → p < i → ¬ key (gt l m) < key (gt l p)) ∧ (∀ p, j ≤ p → p < m → key (gt l m) < key (gt l p)), fun x y _ => y.toNat - x.toNat,
        ⟨a, m, by omega, rfl, by omega, by omega, by omega, h, fun p h1 h2 => by omega, fun p h1 h2 => by omega⟩, ?_⟩
      rintro _ _ w1 ⟨i, j, rfl, rfl, hi, hij, hjb, h1, hlo, hhi⟩
      intros
      refine cond_dec (fun hlt => ⟨by omega, ?_⟩) (fun hge => ?_)
      · intro w2 hE2 _
        have h2 := h1.ext hE2
        rw [half_nat (by omega)]
        have hh1 : i ≤ (i + j) / 2 := by omega
        have hh2 : (i + j) / 2 < j := by omega
        generalize (i + j) / 2 = hf at *
        refine h2.ix hI (i := m) (by omega) fun p1 hc1 => LD_int hc1 ⟨Ext.refl _, h2.ix hI (i := hf) (by omega) fun p2 hc2 => ⟨Ext.refl _, LD_int hc2 ⟨Ext.refl _, ?_⟩⟩⟩
        refine callv (hc _ (h2.mem (by omega)) _ (h2.mem (by omega)) w2 h2.chg) ?_
        rintro r w3 ⟨hr, hE3⟩
        refine ⟨hE3, hE3, hE3, ?_⟩
        refine cond_not (fun hnn => ?_) (fun hneg => ?_)
        · have hk : ¬ key (gt l m) < key (gt l hf) := fun hh => by have := hr.2 hh; simp at hnn; omega
          rw [wrap_of (by omega) (by omega)]
          refine ⟨⟨hf + 1, j, by omega, rfl, by omega, by omega, hjb, h2.ext hE3, fun p k1 k2 => ?_, hhi⟩, by simp only []; omega⟩
          by_cases hp : p = hf
          · subst hp; exact hk
          · have := (hs1 p hf k1 (by omega) (by omega)).le
            omega
        · have hk := hr.1 (by simpa using hneg)
          refine ⟨⟨i, hf, rfl, rfl, hi, hh1, by omega, h2.ext hE3, hlo, fun p k1 k2 => ?_⟩, by simp only []; omega⟩
          by_cases hp : p = hf
          · subst hp; exact hk
          · have := (hs1 hf p (by omega) (by omega) k2).le
            omega
      · have : i = j := by omega
        subst this
        refine ⟨fun x w' => ∃ k : Nat, x = k ∧ i ≤ k ∧ k ≤ m ∧ ∃ l', Sd w0 base s l0 w' l' ∧ ∀ p, gt l' p = gt l (if k < p ∧ p ≤ m then p - 1 else if p = k then m else p), fun x _ => x.toNat,
          ⟨m, rfl, by omega, by omega, l, h1, fun p => by congr 1; (repeat' split) <;> omega⟩, ?_⟩
        rintro _ w4 ⟨k, rfl, hk1, hk2, l4, h4, hg4⟩
        intros
        refine cond_dec (fun hlt2 => ?_) (fun hge2 => ?_)
        · intro w5 hE5 _
          have e1 : IntKind.i64.wrap ((k : Int) - 1) = ((k - 1 : Nat) : Int) := by rw [wrap_of (by omega) (by omega)]; omega
          rw [e1]
          refine (h4.ext hE5).swap hI (p := k - 1) (q := k) (by omega) (by omega) fun w7 h7 => ⟨⟨k - 1, rfl, by omega, by omega, _, h7, fun p => ?_⟩, by simp only []; omega⟩
          have hl4 := h4.len
          rw [swp_get (by omega) (by omega), hg4, hg4, hg4, ← apply_ite (gt l), ← apply_ite (gt l)]
          congr 1
          repeat' split
          all_goals omega
        · have : k = i := by omega
          subst this
          refine ⟨l4, h4, fun p q k1 k2 k3 => ?_, fun p k1 k2 => ?_, fun p hp => ?_⟩
          · rw [hg4, hg4]
            by_cases c1 : p < k
            · rw [if_neg (show ¬ (k < p ∧ p ≤ m) by omega), if_neg (show ¬ p = k by omega)]
              by_cases c2 : q < k
              · rw [if_neg (show ¬ (k < q ∧ q ≤ m) by omega), if_neg (show ¬ q = k by omega)]
                exact hs1 _ _ k1 k2 (by omega)
              · by_cases c3 : q = k
                · rw [if_neg (show ¬ (k < q ∧ q ≤ m) by omega), if_pos c3]
                  have := hlo p k1 c1
                  have := hnum p m k1 (by omega) (by omega) (by omega)
                  unfold ltK; omega
                · rw [if_pos (show (k < q ∧ q ≤ m) by omega)]
                  exact hs1 _ _ k1 (by omega) (by omega)
            · by_cases c2 : p = k
              · rw [if_neg (show ¬ (k < p ∧ p ≤ m) by omega), if_pos c2, if_pos (show (k < q ∧ q ≤ m) by omega)]
                exact .inl (hhi _ (by omega) (by omega))
              · rw [if_pos (show (k < p ∧ p ≤ m) by omega), if_pos (show (k < q ∧ q ≤ m) by omega)]
                exact hs1 _ _ (by omega) (by omega) (by omega)
          · rw [hg4]
            exact ⟨_, by (repeat' split) <;> omega, by (repeat' split) <;> omega, rfl⟩
          · rw [hg4]
            congr 1
            repeat' split
            all_goals omega
    · -- both sides have more
      refine ⟨by omega, ?_⟩
      have hM : ∃ M, M = (a + b) / 2 := ⟨_, rfl⟩
      obtain ⟨M, hMd⟩ := hM
      have hM1 : 2 * M ≤ a + b := by omega
      have hM2 : a + b ≤ 2 * M + 1 := by omega
      have hhalf := half_nat (a := a) (b := b) (by omega)
      rw [← hMd] at hhalf
      -- the second half, the first half, behind the rotation
      have hk18 : ∀ (c e : Nat) (w' : World) (l1 l2 : List Int), c + e = M + m → m ≤ e → e ≤ b → a ≤ c → c ≤ m → Mid key l l1 a b c e M → Sd w0 base s l0 w' l2 → SIn key l2 a M → SubIn l1 l2 a M → SameOut l1 l2 a M → V_slices_symMergeCmpFunc_int_k18 s a m b cmp (fun w' => ∃ l', Sd w0 base s l0 w' l' ∧ SIn key l' a b ∧ SubIn l l' a b ∧ SameOut l l' a b) c w' := by
        intro c e w' l1 l2 hce hme heb hac hcm hMid hS2 hsort2 hsub2 hout2
        have hfin : ∀ (w3 : World) (l3 : List Int), Sd w0 base s l0 w3 l3 → SIn key l3 M b → SubIn l2 l3 M b → SameOut l2 l3 M b → ∃ l', Sd w0 base s l0 w3 l' ∧ SIn key l' a b ∧ SubIn l l' a b ∧ SameOut l l' a b := by
          intro w3 l3 hS3 hsort3 hsub3 hout3
          refine ⟨l3, hS3, fun p q k1 k2 k3 => ?_, (hMid.sub.trans (hsub2.wide hout2 (Nat.le_refl _) (by omega))).trans (hsub3.wide hout3 (by omega) (Nat.le_refl _)), (hMid.out.trans (hout2.wide (Nat.le_refl _) (by omega))).trans (hout3.wide (by omega) (Nat.le_refl _))⟩
          by_cases c1 : q < M
          · rw [hout3 p (by omega), hout3 q (by omega)]; exact hsort2 p q k1 k2 c1
          · by_cases c2 : M ≤ p
            · exact hsort3 p q c2 k2 k3
            · rw [hout3 p (by omega)]
              obtain ⟨p', e1, e2, e3⟩ := hsub2 p k1 (by omega)
              obtain ⟨q', e4, e5, e6⟩ := hsub3 q (by omega) k3
              rw [e3, e6, hout2 q' (by omega)]
              exact hMid.cross p' q' e1 e2 e4 e5
        have g2 : ∀ k, M ≤ k → gt l2 k = gt l1 k := fun k hk => hout2 k (by omega)
        have t21 : SIn key l2 M e := fun p q k1 k2 k3 => by rw [g2 p k1, g2 q (by omega)]; exact hMid.s21 p q k1 k2 k3
        have t22 : SIn key l2 e b := fun p q k1 k2 k3 => by rw [g2 p (by omega), g2 q (by omega)]; exact hMid.s22 p q k1 k2 k3
        have tn : ∀ i j, M ≤ i → i < e → e ≤ j → j < b → gt l2 i < gt l2 j := fun i j k1 k2 k3 k4 => by rw [g2 i k1, g2 j (by omega)]; exact hMid.n2 i j k1 k2 k3 k4
        unfold V_slices_symMergeCmpFunc_int_k18
        rw [hhalf, wrap_of (n := (M : Int) + m) (by omega) (by omega), wrap_of (n := (M : Int) + m - c) (by omega) (by omega)]
        have ee : (M : Int) + m - c = (e : Int) := by omega
        rw [ee]
        refine cond_dec (fun h1 => cond_dec (fun h2 => ?_) (fun h2 => hfin w' l2 hS2 ?_ (SubIn.refl _ _ _) (fun _ _ => rfl))) (fun h1 => hfin w' l2 hS2 ?_ (SubIn.refl _ _ _) (fun _ _ => rfl))
        · refine call (symMerge_ok hI hl hc d hS2 (a := M) (m := e) (b := b) (by omega) (by omega) (by omega) hb t21 t22 tn) ?_
          rintro w3 ⟨l3, h3, h4, h5, h6⟩
          exact hfin w3 l3 h3 h4 h5 h6
        · have : e = b := by omega
          rw [← this]; exact t21
        · have : M = e := by omega
          rw [this]; exact t22
      have hk16 : ∀ (c e : Nat) (w' : World) (l1 : List Int), c + e = M + m → m ≤ e → e ≤ b → a ≤ c → c ≤ m → Mid key l l1 a b c e M → Sd w0 base s l0 w' l1 → V_slices_symMergeCmpFunc_int_k16 s a m b cmp (fun w' => ∃ l', Sd w0 base s l0 w' l' ∧ SIn key l' a b ∧ SubIn l l' a b ∧ SameOut l l' a b) c w' := by
        intro c e w' l1 hce hme heb hac hcm hMid hS1
        unfold V_slices_symMergeCmpFunc_int_k16
        rw [hhalf]
        refine cond_dec (fun h1 => cond_dec (fun h2 => ?_) (fun h2 => hk18 c e w' l1 l1 hce hme heb hac hcm hMid hS1 ?_ (SubIn.refl _ _ _) (fun _ _ => rfl))) (fun h1 => hk18 c e w' l1 l1 hce hme heb hac hcm hMid hS1 ?_ (SubIn.refl _ _ _) (fun _ _ => rfl))
        · refine call (symMerge_ok hI hl hc d hS1 (a := a) (m := c) (b := M) (by omega) (by omega) (by omega) (by omega) hMid.s11 hMid.s12 hMid.n1) ?_
          rintro w2 ⟨l2, h3, h4, h5, h6⟩
          exact hk18 c e w2 l1 l2 hce hme heb hac hcm hMid h3 h4 h5 h6
        · have : c = M := by omega
          rw [← this]; exact hMid.s11
        · have : a = c := by omega
          rw [this]; exact hMid.s12
      have hk13 : ∀ (st r : Nat), a ≤ st → st ≤ r → r ≤ m → r ≤ M → M + m ≤ st + b → (st = a ∨ st + b = M + m) → (r = m ∨ r = M) → V_slices_symMergeCmpFunc_int_k13 s a m b cmp (fun w' => ∃ l', Sd w0 base s l0 w' l' ∧ SIn key l' a b ∧ SubIn l l' a b ∧ SameOut l l' a b) st r w := by
        intro st r h1 h2 h3 h4 h5 h6 h7
        unfold V_slices_symMergeCmpFunc_int_k13
        rw [hhalf, wrap_of (n := (M : Int) + m) (by omega) (by omega), wrap_of (n := (M : Int) + m - 1) (by omega) (by omega)]
        refine ⟨fun x y w' => ∃ c r' : Nat, x = c ∧ y = r' ∧ st ≤ c ∧ c ≤ r' ∧ r' ≤ r ∧ Sd w0 base s l0 w' l ∧ (∀ t, st ≤ t → t < c → ¬ key (gt l (M + m - 1 - t)) < key (gt l t)) ∧ (∀ t, r' ≤ t → t < r → key (gt l (M + m - 1 - t)) < key (gt l t)), fun x y _ => y.toNat - x.toNat,
          ⟨st, r, rfl, rfl, by omega, h2, by omega, h, fun t k1 k2 => by omega, fun t k1 k2 => by omega⟩, ?_⟩
        rintro _ _ w16 ⟨c, r', rfl, rfl, hc1, hc2, hc3, hS, hlo, hhi⟩
        intros
        refine cond_dec (fun hlt => ⟨by omega, ?_⟩) (fun hge => ?_)
        · intro w17 hE17 _
          have hS2 := hS.ext hE17
          rw [half_nat (by omega)]
          have hh1 : c ≤ (c + r') / 2 := by omega
          have hh2 : (c + r') / 2 < r' := by omega
          generalize (c + r') / 2 = hf at *
          rw [wrap_of (n := (M : Int) + m - 1 - hf) (by omega) (by omega)]
          have ei : (M : Int) + m - 1 - hf = ((M + m - 1 - hf : Nat) : Int) := by omega
          rw [ei]
          refine hS2.ix hI (i := M + m - 1 - hf) (by omega) fun p1 hcc1 => LD_int hcc1 ⟨Ext.refl _, hS2.ix hI (i := hf) (by omega) fun p2 hcc2 => ⟨Ext.refl _, LD_int hcc2 ⟨Ext.refl _, ?_⟩⟩⟩
          refine callv (hc _ (hS2.mem (by omega)) _ (hS2.mem (by omega)) w17 hS2.chg) ?_
          rintro v w18 ⟨hr, hE18⟩
          refine ⟨hE18, hE18, hE18, ?_⟩
          refine cond_not (fun hnn => ?_) (fun hneg => ?_)
          · have hk : ¬ key (gt l (M + m - 1 - hf)) < key (gt l hf) := fun hh => by have := hr.2 hh; simp at hnn; omega
            rw [wrap_of (by omega) (by omega)]
            refine ⟨⟨hf + 1, r', by omega, rfl, by omega, by omega, hc3, hS2.ext hE18, fun t k1 k2 => ?_, hhi⟩, by simp only []; omega⟩
            by_cases ht : t = hf
            · subst ht; exact hk
            · have e1 := (hs1 t hf (by omega) (by omega) (by omega)).le
              have e2 := (hs2 (M + m - 1 - hf) (M + m - 1 - t) (by omega) (by omega) (by omega)).le
              omega
          · have hk := hr.1 (by simpa using hneg)
            refine ⟨⟨c, hf, rfl, rfl, hc1, hh1, by omega, hS2.ext hE18, hlo, fun t k1 k2 => ?_⟩, by simp only []; omega⟩
            by_cases ht : t = hf
            · subst ht; exact hk
            · have e1 := (hs1 hf t (by omega) (by omega) (by omega)).le
              have e2 := (hs2 (M + m - 1 - t) (M + m - 1 - hf) (by omega) (by omega) (by omega)).le
              omega
        · have : c = r' := by omega
          subst this
          obtain ⟨e, he⟩ : ∃ e, c + e = M + m := ⟨M + m - c, by omega⟩
          have hC : Cut key l a m b c e := by
            refine ⟨by omega, by omega, by omega, by omega, fun p q k1 k2 k3 k4 => ?_, fun p q k1 k2 k3 k4 => ?_⟩
            · by_cases cs : c = st
              · omega
              · have e1 := hlo (c - 1) (by omega) (by omega)
                rw [show M + m - 1 - (c - 1) = e by omega] at e1
                have hn := hnum p q k1 (by omega) (by omega) k4
                have e2 : key (gt l p) ≤ key (gt l (c - 1)) := by
                  by_cases hp : p = c - 1
                  · rw [hp]; exact Int.le_refl _
                  · exact (hs1 p (c - 1) k1 (by omega) (by omega)).le
                have e3 : key (gt l e) ≤ key (gt l q) := by
                  by_cases hq : q = e
                  · rw [hq]; exact Int.le_refl _
                  · exact (hs2 e q (by omega) (by omega) k4).le
                unfold ltK; omega
            · by_cases cr : c = r
              · omega
              · have e1 := hhi c (by omega) (by omega)
                rw [show M + m - 1 - c = e - 1 by omega] at e1
                have e2 : key (gt l p) ≤ key (gt l (e - 1)) := by
                  by_cases hp : p = e - 1
                  · rw [hp]; exact Int.le_refl _
                  · exact (hs2 p (e - 1) k1 (by omega) (by omega)).le
                have e3 : key (gt l c) ≤ key (gt l q) := by
                  by_cases hq : q = c
                  · rw [hq]; exact Int.le_refl _
                  · exact (hs1 c q (by omega) (by omega) k4).le
                omega
          have b1 := hC.ac
          have b2 := hC.cm
          have b3 := hC.me
          have b4 := hC.eb
          rw [wrap_of (n := (M : Int) + m - c) (by omega) (by omega)]
          have ee : (M : Int) + m - c = (e : Int) := by omega
          rw [ee]
          refine cond_dec (fun j1 => cond_dec (fun j2 => ?_) (fun j2 => ?_)) (fun j1 => ?_)
          · refine call (rotate_ok hS hI hl (a := c) (m := m) (b := e) (by omega) (by omega) (by omega)) ?_
            rintro w19 ⟨l1, hS1, hg1⟩
            exact hk16 c e w19 l1 he b3 b4 b1 b2 (mid_of hs1 hs2 hnum hC he hg1) hS1
          · exact hk16 c e w16 l he b3 b4 b1 b2 (mid_of hs1 hs2 hnum hC he fun k => by rw [sig_id (.inr (by omega)) b2 b3]) hS
          · exact hk16 c e w16 l he b3 b4 b1 b2 (mid_of hs1 hs2 hnum hC he fun k => by rw [sig_id (.inl (by omega)) b2 b3]) hS
      rw [hhalf]
      refine cond_dec (fun hgt => ?_) (fun hle => ?_)
      · rw [wrap_of (n := (M : Int) + m) (by omega) (by omega), wrap_of (n := (M : Int) + m - b) (by omega) (by omega)]
        have e1 : (M : Int) + m - b = ((M + m - b : Nat) : Int) := by omega
        rw [e1]
        exact hk13 (M + m - b) M (by omega) (by omega) (by omega) (by omega) (by omega) (.inr (by omega)) (.inr rfl)
      · exact hk13 a m (by omega) (by omega) (by omega) (by omega) (by omega) (.inl rfl) (.inl rfl)

/-- Behind the first phase: two blocks at most. -/
def Two (key : Int → Int) (l0 l : List Int) : Prop := (l0.length ≤ 20 → SIn key l 0 l0.length) ∧ (20 < l0.length → SIn key l 0 20 ∧ SIn key l 20 l0.length ∧ SubIn l0 l 0 20 ∧ SubIn l0 l 20 l0.length)

theorem stable_ok (h : Sd w0 base s l0 w l0) (hI : ∀ x ∈ l0, I64 x) (hl : l0.length ≤ 40) (hc : Cmp w0 s cmp key l0) (hinc : ∀ i j, i < j → j < l0.length → gt l0 i < gt l0 j) :
    Calls Try.prog F.slices_stableCmpFunc_int #[s.v, .int .i64 l0.length, cmp] w (Ret [] fun w' => ∃ l', Sd w0 base s l0 w' l' ∧ SIn key l' 0 l0.length) := by
  refine C_slices_stableCmpFunc_int ?_
  unfold V_slices_stableCmpFunc_int
  refine ⟨fun a b w' => ∃ t : Nat, a = ((20 * t : Nat) : Int) ∧ b = ((20 * t + 20 : Nat) : Int) ∧ 20 * t ≤ l0.length ∧ ∃ l', Sd w0 base s l0 w' l' ∧ (∀ k, k < t → SIn key l' (20 * k) (20 * k + 20) ∧ SubIn l0 l' (20 * k) (20 * k + 20)) ∧ SameOut l0 l' 0 (20 * t), fun a _ _ => 100 - a.toNat,
    ⟨0, rfl, rfl, by omega, l0, h, fun k hk => by omega, fun _ _ => rfl⟩, ?_⟩
  rintro _ _ w1 ⟨t, rfl, rfl, ht, l1, h1, hb1, ho1⟩
  intros
  have hinc1 : ∀ c, c ≤ l0.length → ∀ i j, 20 * t ≤ i → i < j → j < c → gt l1 i < gt l1 j := fun c hc i j k1 k2 k3 => by
    rw [ho1 i (by omega), ho1 j (by omega)]; exact hinc i j k2 (by omega)
  refine cond_dec (fun hle => ?_) (fun hgt => ?_)
  · refine call (insertion_ok h1 hI (by omega) hc (a := 20 * t) (b := 20 * t + 20) (by omega) (by omega) (hinc1 _ (by omega))) ?_
    rintro w2 ⟨l2, h2, hs2, hu2, ho2⟩
    rw [wrap_of (by omega) (by omega)]
    refine ⟨⟨t + 1, by omega, by omega, by omega, l2, h2, fun k hk => ?_, fun p hp => ?_⟩, by simp only []; omega⟩
    · by_cases hkt : k = t
      · subst hkt
        refine ⟨hs2, fun p k1 k2 => ?_⟩
        obtain ⟨q, e1, e2, e3⟩ := hu2 p k1 k2
        exact ⟨q, e1, e2, by rw [e3, ho1 q (by omega)]⟩
      · obtain ⟨e1, e2⟩ := hb1 k (by omega)
        refine ⟨fun p q k1 k2 k3 => ?_, fun p k1 k2 => ?_⟩
        · rw [ho2 p (by omega), ho2 q (by omega)]; exact e1 p q k1 k2 k3
        · rw [ho2 p (by omega)]; exact e2 p k1 k2
    · rw [ho2 p (by omega), ho1 p (by omega)]
  · refine call (insertion_ok h1 hI (by omega) hc (a := 20 * t) (b := l0.length) (by omega) (Nat.le_refl _) (hinc1 _ (Nat.le_refl _))) ?_
    rintro w3 ⟨l3, h3, hs3, hu3, ho3⟩
    have hP : Two key l0 l3 := by
      have hu3' : SubIn l0 l3 (20 * t) l0.length := fun p k1 k2 => by
        obtain ⟨q, e1, e2, e3⟩ := hu3 p k1 k2
        exact ⟨q, e1, e2, by rw [e3, ho1 q (by omega)]⟩
      have hblk : ∀ k, k < t → SIn key l3 (20 * k) (20 * k + 20) ∧ SubIn l0 l3 (20 * k) (20 * k + 20) := fun k hk => by
        obtain ⟨e1, e2⟩ := hb1 k hk
        refine ⟨fun p q k1 k2 k3 => ?_, fun p k1 k2 => ?_⟩
        · rw [ho3 p (by omega), ho3 q (by omega)]; exact e1 p q k1 k2 k3
        · rw [ho3 p (by omega)]; exact e2 p k1 k2
      refine ⟨fun h20 => ?_, fun h20 => ?_⟩
      · have : t = 0 ∨ (t = 1 ∧ l0.length = 20) := by omega
        rcases this with rfl | ⟨rfl, h20'⟩
        · simpa using hs3
        · rw [h20']; simpa using (hblk 0 (by omega)).1
      · have : t = 1 ∨ (t = 2 ∧ l0.length = 40) := by omega
        rcases this with rfl | ⟨rfl, h40⟩
        · exact ⟨by simpa using (hblk 0 (by omega)).1, by simpa using hs3, by simpa using (hblk 0 (by omega)).2, by simpa using hu3'⟩
        · rw [h40]
          exact ⟨by simpa using (hblk 0 (by omega)).1, by simpa using (hblk 1 (by omega)).1, by simpa using (hblk 0 (by omega)).2, by simpa using (hblk 1 (by omega)).2⟩
    refine ⟨fun bs w' => ∃ l', Sd w0 base s l0 w' l' ∧ ((bs = 20 ∧ Two key l0 l') ∨ (bs = 40 ∧ SIn key l' 0 l0.length)), fun bs _ => 100 - bs.toNat, ⟨l3, h3, .inl ⟨rfl, hP⟩⟩, ?_⟩
    rintro bs w4 ⟨l4, h4, hcase⟩
    intros
    refine cond_dec (fun hlt => ?_) (fun hge => ?_)
    rotate_left
    · rcases hcase with ⟨rfl, hT⟩ | ⟨rfl, hs⟩
      · exact ⟨l4, h4, hT.1 (by omega)⟩
      · exact ⟨l4, h4, hs⟩
    · rcases hcase with ⟨rfl, hT⟩ | ⟨rfl, hs⟩
      rotate_left
      · omega
      have e40 : IntKind.i64.wrap (2 * 20) = 40 := by rw [wrap_of (by decide) (by decide)]; rfl
      have e40' : IntKind.i64.wrap (20 * 2) = 40 := by rw [wrap_of (by decide) (by decide)]; rfl
      rw [e40, e40']
      obtain ⟨t1, t2, t3, t4⟩ := hT.2 (by omega)
      have hnum : ∀ i j, 0 ≤ i → i < 20 → 20 ≤ j → j < l0.length → gt l4 i < gt l4 j := fun i j k1 k2 k3 k4 => by
        obtain ⟨p, e1, e2, e3⟩ := t3 i k1 k2
        obtain ⟨q, e4, e5, e6⟩ := t4 j k3 k4
        rw [e3, e6]; exact hinc p q (by omega) e5
      refine ⟨fun a b w' => ∃ l', Sd w0 base s l0 w' l' ∧ ((a = 0 ∧ b = 40 ∧ l' = l4) ∨ (a = 40 ∧ b = 80 ∧ SIn key l' 0 l0.length)), fun a _ _ => 100 - a.toNat, ⟨l4, h4, .inl ⟨rfl, rfl, rfl⟩⟩, ?_⟩
      rintro a b w5 ⟨l5, h5, hcase⟩
      intros
      rcases hcase with ⟨rfl, rfl, rfl⟩ | ⟨rfl, rfl, hs⟩
      · have e20 : IntKind.i64.wrap (0 + 20) = ((20 : Nat) : Int) := by rw [wrap_of (by decide) (by decide)]; rfl
        rw [e20]
        refine cond_dec (fun hle => ?_) (fun hgt => ?_)
        · have h40 : l0.length = 40 := by omega
          refine call (symMerge_ok hI (by omega) hc 40 h5 (a := 0) (m := 20) (b := 40) (by omega) (by omega) (by omega) (by omega) t1 (by rw [← h40]; exact t2) (fun i j k1 k2 k3 k4 => hnum i j k1 k2 k3 (by omega))) ?_
          rintro w6 ⟨l6, h6, hs6, _, _⟩
          have e80 : IntKind.i64.wrap (40 + 40) = 80 := by rw [wrap_of (by decide) (by decide)]; rfl
          rw [e80]
          exact ⟨⟨l6, h6, .inr ⟨rfl, rfl, by rw [h40]; exact hs6⟩⟩, by simp only []; omega⟩
        · refine cond_dt (by omega) ?_
          refine call (symMerge_ok hI (by omega) hc 40 h5 (a := 0) (m := 20) (b := l0.length) (by omega) (by omega) (by omega) (Nat.le_refl _) t1 t2 hnum) ?_
          rintro w6 ⟨l6, h6, hs6, _, _⟩
          exact ⟨⟨l6, h6, .inr ⟨rfl, hs6⟩⟩, by simp only []; omega⟩
      · have e60 : IntKind.i64.wrap (40 + 20) = 60 := by rw [wrap_of (by decide) (by decide)]; rfl
        rw [e60]
        refine cond_df (by omega) (cond_df (by omega) ⟨⟨l5, h5, .inr ⟨rfl, hs⟩⟩, by simp only []; omega⟩)

theorem SIn.pairwise {l : List Int} (h : SIn key l 0 l.length) : l.Pairwise (ltK key) := by
  rw [List.pairwise_iff_getElem]
  intro i j hi hj hij
  have := h i j (by omega) hij hj
  rwa [gt_get hi, gt_get hj] at this

end

/-- The stable sort of an increasing list: by the keys, those of one key in their order. -/
theorem sortStable_ok {w : World} {base : Nat} {s : Sl} {l : List Int} {cmp : Value} {key : Int → Int} (h : OwnL w base T.t_int s l) (hI : ∀ x ∈ l, I64 x) (hl : l.length ≤ 40) (hinc : l.Pairwise (· < ·))
    (hc : ∀ x ∈ l, ∀ y ∈ l, ∀ w', Chg w w' (oB s) → CALLV Try.prog cmp #[.int .i64 x, .int .i64 y] w' (Ret [.at (.int .i64)] fun (r : Int) w'' => (r < 0 ↔ key x < key y) ∧ Ext w' w'')) :
    Calls Try.prog F.slices_SortStableFunc_sl_int_int #[s.v, cmp] w (Ret [] fun w' => ∃ l', OwnL w' base T.t_int s l' ∧ Chg w w' (oB s) ∧ l'.Perm l ∧ l'.Pairwise (ltK key)) := by
  refine C_slices_SortStableFunc_sl_int_int ?_
  unfold V_slices_SortStableFunc_sl_int_int
  rw [h.1]
  refine call (stable_ok (w0 := w) (base := base) (s := s) (l0 := l) ⟨h, Chg.refl _ _, List.Perm.refl _⟩ hI hl hc fun i j hij hj => ?_) ?_
  · rw [gt_get (by omega), gt_get hj]
    exact List.pairwise_iff_getElem.1 hinc i j (by omega) hj hij
  · rintro w' ⟨l', h', hs⟩
    rw [← h'.len] at hs
    exact ⟨l', h'.own, h'.chg, h'.perm, hs.pairwise⟩

end Go.Proofs.Ytoeaoinedidbiaa
