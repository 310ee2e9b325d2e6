/- Faults of labelings, in plain words: no program in sight. -/
import Derived.Test.YtjfodknpphhajaaGreatProbIn
import Derived.Test.YtjfodknpphhajaaGreatEdgeCol
import Derived.Test.YtjfodknpphhajaaGreatEdges
namespace Go.Proofs.YtjfodknpphhajaaGreat

def NodeBad (p : Prob) (L : List (List Int)) (v : Nat) : Prop := ((L.getD v []).length : Int) = p.degree ∧ ¬ NodeOk p (L.getD v [])
def endOf (E : Ends) (v k : Nat) : Int × Int := (E.getD v []).getD k (0, 0)
def PortBad (p : Prob) (E : Ends) (L : List (List Int)) (v k : Nat) : Prop := k < (E.getD v []).length ∧ isFirst v k (endOf E v k) = true ∧ ¬ EdgeIs p (at2 L v k) (at2 L (endOf E v k).1.toNat (endOf E v k).2.toNat)
def NoneAt (p : Prob) (E : Ends) (L : List (List Int)) (v : Nat) : Prop := ¬ NodeBad p L v ∧ ∀ k, ¬ PortBad p E L v k
def Clean (p : Prob) (E : Ends) (L : List (List Int)) : Prop := ∀ v < E.length, NoneAt p E L v
def FirstAt (p : Prob) (E : Ends) (L : List (List Int)) (v i : Int) : Prop := ∃ m : Nat, v = m ∧ m < E.length ∧ (∀ u < m, NoneAt p E L u) ∧
  ((i = -1 ∧ NodeBad p L m) ∨ ∃ k : Nat, i = k ∧ ¬ NodeBad p L m ∧ PortBad p E L m k ∧ ∀ j < k, ¬ PortBad p E L m j)

theorem FirstAt.bad {p : Prob} {E : Ends} {L : List (List Int)} {v i : Int} (h : FirstAt p E L v i) : ¬ Clean p E L := fun hc => by
  obtain ⟨m, _, hm, _, h⟩ := h
  obtain ⟨h1, h2⟩ := hc m hm
  rcases h with ⟨_, h⟩ | ⟨k, _, _, h, _⟩
  · exact h1 h
  · exact h2 k h

theorem FirstAt.eq {p : Prob} {E : Ends} {L : List (List Int)} {v i v' i' : Int} (h : FirstAt p E L v i) (h' : FirstAt p E L v' i') : v = v' ∧ i = i' := by
  obtain ⟨m, rfl, hm, hn, hb⟩ := h
  obtain ⟨m', rfl, hm', hn', hb'⟩ := h'
  have key : ∀ {m : Nat} {i : Int}, NoneAt p E L m → ((i = -1 ∧ NodeBad p L m) ∨ ∃ k : Nat, i = k ∧ ¬ NodeBad p L m ∧ PortBad p E L m k ∧ ∀ j < k, ¬ PortBad p E L m j) → False := by
    rintro m i ⟨h1, h2⟩ (⟨_, h⟩ | ⟨k, _, _, h, _⟩)
    · exact h1 h
    · exact h2 k h
  rcases Nat.lt_trichotomy m m' with hlt | heq | hgt
  · exact (key (hn' m hlt) hb).elim
  · subst heq
    refine ⟨rfl, ?_⟩
    rcases hb with ⟨rfl, h1⟩ | ⟨k, rfl, h1, h2, h3⟩
    · rcases hb' with ⟨rfl, _⟩ | ⟨k', rfl, h1', _⟩
      · rfl
      · exact absurd h1 h1'
    · rcases hb' with ⟨rfl, h1'⟩ | ⟨k', rfl, _, h2', h3'⟩
      · exact absurd h1' h1
      · rcases Nat.lt_trichotomy k k' with hlt | heq | hgt
        · exact absurd h2 (h3' k hlt)
        · rw [heq]
        · exact absurd h2' (h3 k' hgt)
  · exact (key (hn m' hgt) hb').elim

/-- What is asked of a labeling. -/
structure LabOk (p : Prob) (E : Ends) (L : List (List Int)) : Prop where
  rows : SameRows E L
  labs : ∀ r ∈ L, AllIn r 0 (p.labels - 1)

structure SolAsked (p : Prob) (n : Net) (L : List (List Int)) : Prop where
  prob : PGood p
  good : Good n
  lab : LabOk p n.ends L

structure AnsFF (p : Prob) (n : Net) (L : List (List Int)) (v i : Int) (b : Bool) : Prop where
  ok : b = true ↔ SolAsked p n L ∧ ¬ Clean p n.ends L
  yes : b = true → FirstAt p n.ends L v i
  no : b = false → v = 0 ∧ i = 0

theorem AnsFF.eq {p : Prob} {n : Net} {L : List (List Int)} {v i v' i' : Int} {b b' : Bool} (h : AnsFF p n L v i b) (h' : AnsFF p n L v' i' b') : v = v' ∧ i = i' ∧ b = b' := by
  have hoo : b = b' := by rw [Bool.eq_iff_iff, h.ok, h'.ok]
  subst hoo
  cases b with
  | false =>
    obtain ⟨rfl, rfl⟩ := h.no rfl
    obtain ⟨rfl, rfl⟩ := h'.no rfl
    exact ⟨rfl, rfl, rfl⟩
  | true =>
    obtain ⟨rfl, rfl⟩ := (h.yes rfl).eq (h'.yes rfl)
    exact ⟨rfl, rfl, rfl⟩

theorem AnsFF.none {p : Prob} {n : Net} {L : List (List Int)} (h : ¬ (SolAsked p n L ∧ ¬ Clean p n.ends L)) : AnsFF p n L 0 0 false := ⟨by simp only [Bool.false_eq_true, false_iff]; exact h, fun hh => (by cases hh), fun _ => ⟨rfl, rfl⟩⟩

end Go.Proofs.YtjfodknpphhajaaGreat
