/- Colours by identifiers, in plain words: rounds of polynomials, then of halving. -/
import Derived.Test.YtoeaoinedidbiaaGreatPolyWalks
import Derived.Test.YtoeaoinedidbiaaGreatHalve
namespace Go.Proofs.YtoeaoinedidbiaaGreat

/-- Colours, palette, rounds. -/
structure St where
  l : List Int
  k : Int
  r : Int

def It1 (E : Ends) (a : Int) (s : St) : Nat → St → Prop
  | 0, t => t = s
  | j + 1, t => ∃ u, It1 E a s j u ∧ ∃ (q : Int) (d : Nat), PP u.k a q d ∧ q * q < u.k ∧ t = ⟨stepP E q d u.l, q * q, u.r + 1⟩

def Stop1 (a : Int) (t : St) : Prop := ∃ (q : Int) (d : Nat), PP t.k a q d ∧ ¬ q * q < t.k

theorem It1.det {E : Ends} {a : Int} {s : St} : ∀ {j : Nat} {t t' : St}, It1 E a s j t → It1 E a s j t' → t = t'
  | 0, t, t', h, h' => by rw [show t = s from h, show t' = s from h']
  | j + 1, t, t', ⟨u, hu, q, d, hP, _, ht⟩, ⟨u', hu', q', d', hP', _, ht'⟩ => by
    obtain rfl := hu.det hu'
    obtain ⟨rfl, rfl⟩ := PP_unique hP hP'
    rw [ht, ht']

theorem It1.pre {E : Ends} {a : Int} {s : St} : ∀ {j i : Nat} {t : St}, It1 E a s j t → i < j → ∃ u, It1 E a s i u ∧ ∃ (q : Int) (d : Nat), PP u.k a q d ∧ q * q < u.k
  | 0, _, _, _, h => by omega
  | j + 1, i, t, ⟨u, hu, q, d, hP, hlt, _⟩, h => by
    rcases Nat.lt_or_eq_of_le (Nat.le_of_lt_succ h) with h1 | h1
    · exact hu.pre h1
    · subst h1; exact ⟨u, hu, q, d, hP, hlt⟩

theorem it1_unique {E : Ends} {a : Int} {s t t' : St} {j j' : Nat} (h : It1 E a s j t) (hs : Stop1 a t) (h' : It1 E a s j' t') (hs' : Stop1 a t') : t = t' := by
  have key : ∀ {t t' : St} {j j' : Nat}, It1 E a s j t → Stop1 a t → It1 E a s j' t' → j < j' → False := by
    intro t t' j j' h hs h' hlt
    obtain ⟨u, hu, q, d, hP, hq⟩ := h'.pre hlt
    obtain rfl := h.det hu
    obtain ⟨q', d', hP', hq'⟩ := hs
    obtain ⟨rfl, rfl⟩ := PP_unique hP hP'
    exact hq' hq
  rcases Nat.lt_trichotomy j j' with hlt | heq | hgt
  · exact (key h hs h' hlt).elim
  · subst heq; exact h.det h'
  · exact (key h' hs' h hgt).elim

def half1 (E : Ends) (a : Int) (u : St) : St := ⟨halveOf E a u.l, palOf a u.k, u.r + (a + 1)⟩
def it2 (E : Ends) (a : Int) (s : St) : Nat → St
  | 0 => s
  | j + 1 => half1 E a (it2 E a s j)

def Done2 (E : Ends) (a : Int) (s : St) (i : Nat) : Prop := (∀ t < i, (it2 E a s t).k > 2 * (a + 1)) ∧ ¬ (it2 E a s i).k > 2 * (a + 1)

theorem done2_unique {E : Ends} {a : Int} {s : St} {i i' : Nat} (h : Done2 E a s i) (h' : Done2 E a s i') : i = i' := by
  rcases Nat.lt_trichotomy i i' with hlt | heq | hgt
  · exact absurd (h'.1 i hlt) h.2
  · exact heq
  · exact absurd (h.1 i' hgt) h'.2

theorem halfAt_self {d x : Int} (hd : 0 ≤ d ∧ d ≤ 6) (h0 : 0 ≤ x) : 0 ≤ halfAt d x ∧ halfAt d x ≤ x := by
  unfold halfAt
  rcases d_cases hd with rfl | rfl | rfl | rfl | rfl | rfl | rfl <;> omega

theorem HalOk.half {n : Net} {a : Int} {l : List Int} (h : HalOk n a l) (hd : 0 ≤ a ∧ a ≤ 6) : HalOk n a (halveOf n.ends a l) := by
  have hH := h.to hd (a + 1).toNat
  have key : ∀ x ∈ halveOf n.ends a l, 0 ≤ x ∧ x ≤ 1000000000000 := fun x hx => by
    obtain ⟨y, hy, rfl⟩ := List.mem_map.1 hx
    have h1 := halfAt_self hd (hH.nn y hy)
    have h2 := hH.le y hy
    omega
  exact ⟨⟨h.good, halveOf_len h hd, fun x hx => (key x hx).1, halveOf_I64 h hd, h.deg⟩, fun x hx => (key x hx).2⟩

theorem ColK.hal {n : Net} {l : List Int} {k a : Int} (h : ColK n l k a) : HalOk n a l :=
  ⟨⟨h.good, h.len, fun x hx => (h.all x hx).1, h.proper.1, h.deg⟩, fun x hx => by have := (h.all x hx).2; have := h.pal.2; omega⟩

theorem pal_less {d k : Int} (hd : 0 ≤ d ∧ d ≤ 6) (hk : k > 2 * (d + 1)) : 0 ≤ palOf d k ∧ palOf d k < k := by
  unfold palOf
  rcases d_cases hd with rfl | rfl | rfl | rfl | rfl | rfl | rfl <;> omega

/-! ### The answers -/

structure IdsAskedC (n : Net) (a : Int) : Prop where
  some : n.ids ≠ []
  pal : PalAsked n n.ids 1000000 a

structure AnsIds (n : Net) (a : Int) (y : List Int × Int) (b : Bool) : Prop where
  ok : b = true ↔ IdsAskedC n a
  yes : b = true → ∃ j s i, It1 n.ends a ⟨n.ids, 1000000, 0⟩ j s ∧ Stop1 a s ∧ Done2 n.ends a s i ∧ y = (redOf n.ends a (it2 n.ends a s i).l, (it2 n.ends a s i).r + most2 ((it2 n.ends a s i).k - a - 1) 0)
  no : b = false → y = ([], 0)

theorem AnsIds.eq {n : Net} {a : Int} {y y' : List Int × Int} {b b' : Bool} (h : AnsIds n a y b) (h' : AnsIds n a y' b') : y = y' ∧ b = b' := by
  have hoo : b = b' := by rw [Bool.eq_iff_iff, h.ok, h'.ok]
  subst hoo
  refine ⟨?_, rfl⟩
  cases b with
  | false => rw [h.no rfl, h'.no rfl]
  | true =>
    obtain ⟨j, s, i, h1, h2, h3, h4⟩ := h.yes rfl
    obtain ⟨j', s', i', h1', h2', h3', h4'⟩ := h'.yes rfl
    obtain rfl := it1_unique h1 h2 h1' h2'
    obtain rfl := done2_unique h3 h3'
    rw [h4, h4']

theorem AnsIds.none {n : Net} {a : Int} (h : ¬ IdsAskedC n a) : AnsIds n a ([], 0) false := ⟨by simp [h], fun hh => (by cases hh), fun _ => rfl⟩

end Go.Proofs.YtoeaoinedidbiaaGreat
