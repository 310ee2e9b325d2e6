/- Dominating sets: both sides' tests. -/
import Derived.Test.YtoeaoinedidbiaaFar
import Derived.Test.YtoeaoinedidbiaaMax
namespace Go.Proofs.Ytoeaoinedidbiaa
open Go.GX Go.RowKit
set_option maxRecDepth 100000

/-- The least of the distances that are not negative. -/
def FarP (D l : List Int) (m : Int) : Prop := ∀ β : Int, (0 ≤ m ∧ m ≤ β) ↔ ∃ s ∈ l, 0 ≤ D.getD s.toNat (-1) ∧ D.getD s.toNat (-1) ≤ β

theorem farP_nil (D : List Int) : FarP D [] (-1) := fun β => by
  constructor
  · rintro ⟨h, _⟩; omega
  · rintro ⟨s, hs, _⟩; cases hs

theorem farP_keep {D l : List Int} {m s : Int} (h : FarP D l m) (hs : D.getD s.toNat (-1) < 0 ∨ (0 ≤ m ∧ m ≤ D.getD s.toNat (-1))) : FarP D (l ++ [s]) m := fun β => by
  rw [h β]
  constructor
  · rintro ⟨x, hx, h1⟩
    exact ⟨x, by simp [hx], h1⟩
  · rintro ⟨x, hx, h1⟩
    rcases List.mem_append.1 hx with h2 | h2
    · exact ⟨x, h2, h1⟩
    · rw [List.mem_singleton.1 h2] at h1
      rcases hs with h3 | h3
      · omega
      · exact (h β).1 (by omega)

theorem farP_take {D l : List Int} {m s : Int} (h : FarP D l m) (h0 : 0 ≤ D.getD s.toNat (-1)) (hs : m < 0 ∨ D.getD s.toNat (-1) < m) : FarP D (l ++ [s]) (D.getD s.toNat (-1)) := fun β => by
  constructor
  · rintro h1
    exact ⟨s, by simp, h1⟩
  · rintro ⟨x, hx, h1⟩
    rcases List.mem_append.1 hx with h2 | h2
    · have := (h β).2 ⟨x, h2, h1⟩
      omega
    · rw [List.mem_singleton.1 h2] at h1
      exact h1

/-- A node of the set lies within β steps. -/
def Within (E : Ends) (l : List Int) (β : Int) (v : Nat) : Prop := ∃ s : Nat, (s : Int) ∈ l ∧ ∃ k : Nat, (k : Int) ≤ β ∧ Reach E v k s

theorem farP_within {n : Net} {l : List Int} (hS : SetOk n l) {v : Nat} {D : List Int} (hD : Dists n.ends v D) {m : Int} (hF : FarP D l m) (β : Int) : (0 ≤ m ∧ m ≤ β) ↔ Within n.ends l β v := by
  rw [hF β]
  constructor
  · rintro ⟨x, hx, h0, h1⟩
    obtain ⟨u, rfl, _⟩ := hS.node x hx
    simp only [Int.toNat_natCast] at h0 h1
    obtain ⟨d, hd⟩ := Int.eq_ofNat_of_zero_le h0
    exact ⟨u, hx, d, by omega, hD.sound u d hd⟩
  · rintro ⟨u, hu, k, hk, hr⟩
    have := hD.least k u hr
    refine ⟨u, hu, ?_⟩
    simp only [Int.toNat_natCast]
    omega

theorem within_one (E : Ends) (l : List Int) (v : Nat) (hn : ∀ x ∈ adjOf E v, ∃ u : Nat, x = u) : Within E l 1 v ↔ (v : Int) ∈ l ∨ ¬ Apart E l v := by
  constructor
  · rintro ⟨s, hs, k, hk, hr⟩
    match k, hr with
    | 0, hr => left; have hr' : s = v := hr; subst hr'; exact hs
    | 1, ⟨y, hy, hm⟩ =>
      have hy' : y = v := hy
      subst hy'
      right
      exact fun hA => hA _ hm hs
    | k + 2, _ => push_cast at hk; omega
  · rintro (h | h)
    · exact ⟨v, h, 0, by omega, rfl⟩
    · unfold Apart at h
      have h' : ∃ x, x ∈ adjOf E v ∧ x ∈ l := by
        apply Classical.byContradiction
        intro hc
        exact h (fun x hx hxl => hc ⟨x, hx, hxl⟩)
      obtain ⟨x, hx, hxl⟩ := h'
      obtain ⟨u, rfl⟩ := hn x hx
      exact ⟨u, hxl, 1, by omega, v, rfl, hx⟩

/-! ### The program's side -/

def upTo (n : Nat) : List Int := (List.range n).map fun (k : Nat) => (k : Int)

theorem upTo_len (n : Nat) : (upTo n).length = n := by simp [upTo]
theorem upTo_ok (n : Nat) (hn : n ≤ 1048576) : ∀ x ∈ upTo n, Flat.ok x := fun x hx => by
  obtain ⟨k, hk, rfl⟩ := List.mem_map.1 hx
  have := List.mem_range.1 hk
  show I64 _
  unfold I64
  omega

theorem numbersTo_ok (n : Nat) (hn : n ≤ 1048576) (w : World) :
    Calls Try.prog F.i_numbersTo #[.int .i64 n] w (Ret [.at .sl] fun (r : Sl) w' => Ext w w' ∧ OwnL w' w.heap.size T.t_int r (upTo n)) := by
  refine C_i_numbersTo ?_
  unfold V_i_numbersTo
  refine RUN_make (α := Int) slt_int (d := 0) rfl (by omega) (by unfold maxLen; omega) fun s w1 hE1 hO1 => ?_
  have hsl : s.len = n := by have := hO1.1; simpa using this
  rw [hsl]
  have hul := upTo_len n
  refine ⟨IN n fun i w' => Ext w w' ∧ OwnL w' w.heap.size T.t_int s ((upTo n).take i ++ List.replicate (n - i) 0), MN n, IN_zero ⟨hE1, by simpa using hO1⟩, ?_⟩
  rintro _ w2 ⟨i, rfl, hi, hE, hO⟩
  intros
  refine cond_dec (fun hlt => ?_) (fun hge => ?_)
  · have hi' : i < n := by omega
    have hfl : ((upTo n).take i ++ List.replicate (n - i) 0).length = n := by simp [hul]; omega
    refine IX_own hO (by rw [hfl]; exact hi') rfl fun q hq => ?_
    refine ST_own hO (by rw [hfl]; exact hi') hq (i : Int) rfl fun w3 hO3 hs3 => ?_
    refine IN_next (by omega) hi' ⟨hs3.ext0 hE (fun k hk => (hO.blk k hk).1), ?_⟩
    have hf := fill_step (l := upTo n) (i := i) (by rw [hul]; exact hi') 0
    have hui : (upTo n)[i]'(by rw [hul]; exact hi') = (i : Int) := by simp [upTo]
    rw [hui, hul] at hf
    rw [← hf]
    exact hO3
  · have : i = n := by omega
    subst this
    refine ⟨hE, ?_⟩
    have h1 : (upTo i).take i = upTo i := List.take_of_length_le (by rw [hul]; exact Nat.le_refl _)
    rw [h1] at hO
    simpa using hO

def DomAt (E : Ends) (l : List Int) (v : Nat) : Prop := (v : Int) ∈ l ∨ ¬ Apart E l v
def Dom (E : Ends) (l : List Int) : Prop := ∀ v < E.length, DomAt E l v

end Go.Proofs.Ytoeaoinedidbiaa
