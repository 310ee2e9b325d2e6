/- Orders of nodes; sets that are kept in order; GreedyIndependent, both sides. -/
import Derived.Test.YtjfodknpphhajaaGreatMax
import Derived.Test.YtjfodknpphhajaaGreatMark
import Derived.Test.YtjfodknpphhajaaGreatLib
namespace Go.Proofs.YtjfodknpphhajaaGreat
open Go.GX Go.RowKit
set_option maxRecDepth 100000

structure PermOk (l : List Int) (k : Nat) : Prop where
  len : l.length = k
  all : AllIn l 0 (k - 1)
  nodup : l.Nodup

theorem PermOk.node {l : List Int} {k : Nat} (h : PermOk l k) : ∀ x ∈ l, ∃ u : Nat, x = u ∧ u < k := fun x hx => by
  have := h.all x hx
  exact ⟨x.toNat, by omega, by omega⟩

theorem nodup_not {l : List Int} {i : Nat} (hi : i < l.length) (hm : l[i] ∈ l.take i) : ¬ l.Nodup := fun hall => by
  obtain ⟨j, hj, he⟩ := List.mem_take_iff_getElem.1 hm
  exact (List.pairwise_iff_getElem.1 hall) j i (by omega) hi (by omega) he

/-! ### Lists in order -/

theorem sorted_ext : ∀ {a b : List Int}, a.Pairwise (· < ·) → b.Pairwise (· < ·) → (∀ x, x ∈ a ↔ x ∈ b) → a = b
  | [], [], _, _, _ => rfl
  | [], y :: b, _, _, h => by have := (h y).2 (by simp); cases this
  | x :: a, [], _, _, h => by have := (h x).1 (by simp); cases this
  | x :: a, y :: b, ha, hb, h => by
    obtain ⟨ha1, ha2⟩ := List.pairwise_cons.1 ha
    obtain ⟨hb1, hb2⟩ := List.pairwise_cons.1 hb
    have hxy : x = y := by
      have h1 := (h x).1 (by simp)
      have h2 := (h y).2 (by simp)
      rcases List.mem_cons.1 h1 with h3 | h3
      · exact h3
      · rcases List.mem_cons.1 h2 with h4 | h4
        · exact h4.symm
        · have := hb1 x h3; have := ha1 y h4; omega
    subst hxy
    rw [sorted_ext ha2 hb2 fun z => ?_]
    constructor
    · intro hz
      rcases List.mem_cons.1 ((h z).1 (by simp [hz])) with h3 | h3
      · have := ha1 z hz; omega
      · exact h3
    · intro hz
      rcases List.mem_cons.1 ((h z).2 (by simp [hz])) with h3 | h3
      · have := hb1 z hz; omega
      · exact h3

theorem eq_sortI {m S : List Int} (hm : m.Pairwise (· < ·)) (hS : S.Nodup) (h : ∀ x, x ∈ m ↔ x ∈ S) : m = sortI S :=
  sorted_ext hm (incr_iff_pairwise.1 (incr_sortI.2 hS)) fun x => (h x).trans (sortI_perm S).mem_iff.symm

/-- A slice's last elements. -/
theorem slr_drop {α : Type} [RepP α] {D : Nat → Prop} {w : World} {s : Sl} {l : List α} (h : SlR D w s l) {i : Nat} (hi : i ≤ l.length) {sz : Nat} (hsz : sz = Rep.sz α) {K : Sl → Prop} (hk : ∀ s', SlR D w s' (l.drop i) → K s') : SLC s (some (i : Int)) none sz K := by
  subst hsz
  have h1 := h.1
  have h2 := h.2.1
  refine SLC_from' h2.1 (by omega) fun d hd hc ha => hk d ⟨by simp; omega, by omega, fun j x hx => ?_⟩
  rw [List.getElem?_drop] at hx
  have hlt := (List.getElem?_eq_some_iff.1 hx).1
  obtain ⟨a, cs, e1, e2, e3, e4⟩ := h.2.2 (i + j) x hx
  refine ⟨a.add (i * Rep.sz α), cs, by rw [ha (by omega), e1]; rfl, by rw [add_block]; exact e2, e3, fun t v ht => ?_⟩
  rw [add_add, show i * Rep.sz α + (j * Rep.sz α + t) = (i + j) * Rep.sz α + t by rw [Nat.add_mul]; omega]
  exact e4 t v ht

/-! ### The greedy set -/

instance (E : Ends) (l : List Int) (v : Nat) : Decidable (Apart E l v) := by unfold Apart; exact inferInstance

/-- May a node join? -/
def joins (E : Ends) (S : List Int) (v : Int) : Prop := (adjOf E v.toNat).contains v = false ∧ Apart E S v.toNat
instance (E : Ends) (S : List Int) (v : Int) : Decidable (joins E S v) := by unfold joins; exact inferInstance
def joinI (E : Ends) (S : List Int) (v : Int) : List Int := if joins E S v then S ++ [v] else S
def greedyI (E : Ends) (order : List Int) : List Int := order.foldl (joinI E) []

theorem greedyI_snoc (E : Ends) (l : List Int) (v : Int) : greedyI E (l ++ [v]) = joinI E (greedyI E l) v := by simp [greedyI]

theorem greedyI_sub (E : Ends) (l : List Int) : (greedyI E l).Sublist l := by
  have : ∀ (l S : List Int), (l.foldl (joinI E) S).Sublist (S ++ l) := by
    intro l
    induction l with
    | nil => intro S; simp
    | cons v r ih =>
      intro S
      rw [List.foldl_cons]
      refine (ih _).trans ?_
      unfold joinI
      split
      · simp
      · exact List.Sublist.append_left (List.sublist_cons_self v r) S
  simpa [greedyI] using this l []

theorem greedyI_nodup {E : Ends} {l : List Int} (h : l.Nodup) : (greedyI E l).Nodup := h.sublist (greedyI_sub E l)
theorem greedyI_mem {E : Ends} {l : List Int} : ∀ x ∈ greedyI E l, x ∈ l := fun _ hx => (greedyI_sub E l).subset hx

structure OrderAsked (n : Net) (l : List Int) : Prop where
  good : Good n
  perm : PermOk l n.ends.length

theorem sortI_I64 {l : List Int} (h : ∀ x ∈ l, I64 x) : ∀ x ∈ sortI l, I64 x := fun x hx => h x ((sortI_perm l).mem_iff.1 hx)
theorem sortI_len (l : List Int) : (sortI l).length = l.length := (sortI_perm l).length_eq

end Go.Proofs.YtjfodknpphhajaaGreat
