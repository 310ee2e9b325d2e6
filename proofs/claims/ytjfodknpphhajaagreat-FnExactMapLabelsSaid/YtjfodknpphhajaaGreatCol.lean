/- Proper colourings: both sides' tests. -/
import Derived.Test.YtjfodknpphhajaaGreatEdges
namespace Go.Proofs.YtjfodknpphhajaaGreat
open Go.GX Go.RowKit
set_option maxRecDepth 100000

/-- Two nodes with an edge between them, the lesser first, that bear the same. -/
def Clash (E : Ends) (l : List Int) : Prop := ∃ v u : Nat, v ≤ u ∧ v < E.length ∧ u < E.length ∧ (u : Int) ∈ adjOf E v ∧ l.getD v 0 = l.getD u 0

theorem mem_adj {E : Ends} {v u : Nat} (hv : v < E.length) : (u : Int) ∈ adjOf E v ↔ ∃ i y, port E v i = some ((u : Int), y) := by
  unfold adjOf
  rw [rowOf_get hv]
  constructor
  · intro h
    obtain ⟨e, he, hu⟩ := List.mem_map.1 h
    obtain ⟨i, hi, rfl⟩ := List.mem_iff_getElem.1 he
    exact ⟨i, E[v][i].2, by rw [port_get hv hi, ← hu]⟩
  · rintro ⟨i, y, h⟩
    obtain ⟨_, hi, he⟩ := port_some h
    exact List.mem_map.2 ⟨E[v][i], List.getElem_mem hi, by rw [he]⟩

/-- Whatever holds of an edge's two nodes, either way round, holds of an edge in the list. -/
theorem exists_edge {n : Net} (hg : Good n) {P : Nat → Nat → Prop} (hs : ∀ a b, P a b → P b a) :
    (∃ q ∈ edgesOf n.ends, P q.1.toNat q.2.2.1.toNat) ↔ ∃ v u : Nat, v < n.ends.length ∧ (u : Int) ∈ adjOf n.ends v ∧ P v u := by
  constructor
  · rintro ⟨q, hq, hp⟩
    obtain ⟨v, i, x, y, rfl, h1, _, hv, hx, _⟩ := edge_at hg hq
    exact ⟨v, x, hv, (mem_adj hv).2 ⟨i, y, h1⟩, by simpa using hp⟩
  · rintro ⟨v, u, hv, hu, hp⟩
    obtain ⟨i, y, h⟩ := (mem_adj hv).1 hu
    obtain ⟨_, hi, he⟩ := port_some h
    obtain ⟨x, b, hxy, hx, hb⟩ := hg.far hv hi
    rw [he] at hxy
    obtain ⟨h1, rfl⟩ : u = x ∧ y = (b : Int) := by
      have h1 := congrArg Prod.fst hxy
      have h2 := congrArg Prod.snd hxy
      simp at h1 h2
      exact ⟨by omega, h2⟩
    subst h1
    by_cases hf : isFirst v i ((u : Int), (b : Int)) = true
    · exact ⟨_, mem_edgesOf.2 ⟨v, i, _, h, hf, rfl⟩, by simpa using hp⟩
    · refine ⟨_, mem_edgesOf.2 ⟨u, b, _, hb, ?_, rfl⟩, by simpa using hs _ _ hp⟩
      simp [isFirst] at hf ⊢
      omega

theorem clash_iff {n : Net} (hg : Good n) (l : List Int) : Clash n.ends l ↔ ∃ q ∈ edgesOf n.ends, l.getD q.1.toNat 0 = l.getD q.2.2.1.toNat 0 := by
  rw [exists_edge hg (P := fun a b => l.getD a 0 = l.getD b 0) (fun a b h => h.symm)]
  constructor
  · rintro ⟨v, u, _, hv, _, h1, h2⟩
    exact ⟨v, u, hv, h1, h2⟩
  · rintro ⟨v, u, hv, h1, h2⟩
    obtain ⟨x, hx, hx'⟩ := adj_ok hg hv _ h1
    have hu : u < n.ends.length := by omega
    rcases Nat.le_total v u with h3 | h3
    · exact ⟨v, u, h3, hv, hu, h1, h2⟩
    · refine ⟨u, v, h3, hu, hv, ?_, h2.symm⟩
      obtain ⟨i, y, h⟩ := (mem_adj hv).1 h1
      obtain ⟨_, hi, he⟩ := port_some h
      obtain ⟨x', b, hxy, _, hb⟩ := hg.far hv hi
      rw [he] at hxy
      have h4 := congrArg Prod.fst hxy
      simp at h4
      obtain rfl : u = x' := by omega
      exact (mem_adj hu).2 ⟨b, _, hb⟩

def Proper (n : Net) (l : List Int) : Prop := l.length = n.ends.length ∧ AllIn l 0 1000000000000 ∧ ¬ Clash n.ends l

end Go.Proofs.YtjfodknpphhajaaGreat
