/- Degrees, greatest numbers, palettes; GreedyReduce, both sides. -/
import Derived.Test.YtjfodknpphhajaaGreatDrop
namespace Go.Proofs.YtjfodknpphhajaaGreat
open Go.GX Go.RowKit
set_option maxRecDepth 100000

/-! ### The greatest number -/

def most2 (a b : Int) : Int := if a > b then a else b
def mostOf (l : List Int) : Int := l.foldl most2 0

theorem mostOf_snoc (l : List Int) (x : Int) : mostOf (l ++ [x]) = most2 (mostOf l) x := by simp [mostOf]

theorem mostOf_spec (l : List Int) : 0 ≤ mostOf l ∧ (∀ x ∈ l, x ≤ mostOf l) ∧ (mostOf l = 0 ∨ mostOf l ∈ l) := by
  unfold mostOf
  have : ∀ (l : List Int) (m : Int), 0 ≤ m → 0 ≤ l.foldl most2 m ∧ m ≤ l.foldl most2 m ∧ (∀ x ∈ l, x ≤ l.foldl most2 m) ∧ (l.foldl most2 m = m ∨ l.foldl most2 m ∈ l) := by
    intro l
    induction l with
    | nil => intro m hm; simp; exact hm
    | cons y r ih =>
      intro m hm
      have hy : m ≤ most2 m y ∧ y ≤ most2 m y ∧ (most2 m y = m ∨ most2 m y = y) := by
        unfold most2; split <;> omega
      obtain ⟨h1, h2, h3, h4⟩ := ih (most2 m y) (by omega)
      rw [List.foldl_cons]
      refine ⟨h1, by omega, fun x hx => ?_, ?_⟩
      · rcases List.mem_cons.1 hx with rfl | hx
        · omega
        · exact h3 x hx
      · rcases h4 with h4 | h4
        · rcases hy.2.2 with h5 | h5
          · left; rw [h4, h5]
          · right; rw [h4, h5]; simp
        · right; exact List.mem_cons_of_mem _ h4
  obtain ⟨h1, _, h3, h4⟩ := this l 0 (by omega)
  exact ⟨h1, h3, h4⟩

theorem mostOf_le {l : List Int} {c : Int} (hc : 0 ≤ c) (h : ∀ x ∈ l, x ≤ c) : mostOf l ≤ c := by
  rcases (mostOf_spec l).2.2 with h1 | h1
  · omega
  · exact h _ h1

theorem mostOf_I64 {l : List Int} (h : ∀ x ∈ l, I64 x) : I64 (mostOf l) := by
  rcases (mostOf_spec l).2.2 with h1 | h1
  · rw [h1]; exact ⟨by decide, by decide⟩
  · exact h _ h1

/-! ### Degrees -/

def degsOf (E : Ends) : List Int := E.map fun r => (r.length : Int)

theorem degs_mem {E : Ends} {x : Int} (h : x ∈ degsOf E) : ∃ v, ∃ hv : v < E.length, x = E[v].length := by
  obtain ⟨r, hr, rfl⟩ := List.mem_map.1 h
  obtain ⟨v, hv, rfl⟩ := List.mem_iff_getElem.1 hr
  exact ⟨v, hv, rfl⟩

theorem degs_I64 {n : Net} (hg : Good n) : ∀ x ∈ degsOf n.ends, I64 x := fun x hx => by
  obtain ⟨v, hv, rfl⟩ := degs_mem hx
  have := hg.deg hv
  unfold I64; omega

/-! ### What is asked -/

structure PalAsked (n : Net) (l : List Int) (k a : Int) : Prop where
  good : Good n
  pal : 1 ≤ k ∧ k ≤ 1000000000000
  bound : 0 ≤ a ∧ a ≤ 6
  proper : Proper n l
  all : AllIn l 0 (k - 1)
  degs : mostOf (degsOf n.ends) ≤ a

theorem PalAsked.deg {n : Net} {l : List Int} {k a : Int} (h : PalAsked n l k a) {v : Nat} (hv : v < n.ends.length) : (n.ends[v].length : Int) ≤ a := by
  have := (mostOf_spec (degsOf n.ends)).2.1 (n.ends[v].length : Int) (List.mem_map.2 ⟨_, List.getElem_mem hv, rfl⟩)
  have := h.degs
  omega

/-! ### Dropping the greatest colours -/

/-- What a list of colours must be for the rounds. -/
structure ColsOk (n : Net) (a : Int) (l : List Int) : Prop where
  good : Good n
  len : l.length = n.ends.length
  nn : ∀ x ∈ l, 0 ≤ x
  i64 : ∀ x ∈ l, I64 x
  deg : ∀ v, (hv : v < n.ends.length) → (n.ends[v].length : Int) ≤ a

theorem dropOf_mem {n : Net} {a : Int} {l : List Int} (h : ColsOk n a l) {c : Int} : ∀ x ∈ dropOf n.ends l c, (0 ≤ x ∧ x ≤ a) ∨ (x ∈ l ∧ x ≠ c) := fun x hx => by
  obtain ⟨v, hv, rfl⟩ := List.mem_map.1 hx
  have hv' : v < l.length := by simpa using hv
  have hve : v < n.ends.length := by rw [← h.len]; exact hv'
  unfold dropAt
  split
  · left
    have h1 := mex_le (nearOf n.ends l v)
    have h2 : (nearOf n.ends l v).length = n.ends[v].length := by rw [near_adj, List.length_map, adj_len h.good hve]
    have := h.deg v hve
    omega
  · rename_i hne
    right
    simp [hv'] at hne ⊢
    exact hne

theorem ColsOk.drop {n : Net} {a : Int} {l : List Int} (h : ColsOk n a l) (c : Int) : ColsOk n a (dropOf n.ends l c) :=
  ⟨h.good, by rw [dropOf_len]; exact h.len, fun x hx => by
    rcases dropOf_mem h x hx with h1 | h1
    · exact h1.1
    · exact h.nn x h1.1, dropOf_I64 h.good h.i64 h.len c, h.deg⟩

theorem drop_lt {n : Net} {a : Int} {l : List Int} (h : ColsOk n a l) (ha : 0 ≤ a) (hm : mostOf l > a) : mostOf (dropOf n.ends l (mostOf l)) < mostOf l := by
  have : mostOf (dropOf n.ends l (mostOf l)) ≤ mostOf l - 1 := by
    refine mostOf_le (by omega) fun x hx => ?_
    rcases dropOf_mem h x hx with h1 | h1
    · omega
    · have := (mostOf_spec l).2.1 x h1.1
      have := h1.2
      omega
  omega

def redRun (E : Ends) (a : Int) : Nat → List Int → List Int
  | 0, l => l
  | f + 1, l => if mostOf l > a then redRun E a f (dropOf E l (mostOf l)) else l

def redOf (E : Ends) (a : Int) (l : List Int) : List Int := redRun E a ((mostOf l).toNat + 1) l

theorem redRun_done {E : Ends} {a : Int} {f : Nat} {l : List Int} (h : ¬ mostOf l > a) : redRun E a f l = l := by
  cases f with
  | zero => rfl
  | succ f => unfold redRun; rw [if_neg h]

theorem PalAsked.cols {n : Net} {l : List Int} {k a : Int} (h : PalAsked n l k a) (hi : ∀ x ∈ l, I64 x) : ColsOk n a l :=
  ⟨h.good, h.proper.1, fun x hx => (h.all x hx).1, hi, fun v hv => h.deg hv⟩

end Go.Proofs.YtjfodknpphhajaaGreat
