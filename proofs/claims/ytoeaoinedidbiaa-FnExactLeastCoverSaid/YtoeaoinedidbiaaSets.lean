/- Sets of nodes and matchings: both sides' tests of independence, covers, maximality; sizes of matchings. -/
import Derived.Test.YtoeaoinedidbiaaCol
import Derived.Test.YtoeaoinedidbiaaMatch
namespace Go.Proofs.Ytoeaoinedidbiaa
open Go.GX Go.RowKit
set_option maxRecDepth 100000

structure SetOk (n : Net) (l : List Int) : Prop where
  good : Good n
  rising : Rising l 0 (n.ends.length - 1)

theorem SetOk.node {n : Net} {l : List Int} (h : SetOk n l) : ∀ x ∈ l, ∃ u : Nat, x = u ∧ u < n.ends.length := by
  intro x hx
  have := h.rising.1 x hx
  exact ⟨x.toNat, by omega, by omega⟩

/-! ### Independent sets -/

def Indep (E : Ends) (l : List Int) : Prop := ¬ ∃ v u : Nat, v < E.length ∧ (u : Int) ∈ adjOf E v ∧ (v : Int) ∈ l ∧ (u : Int) ∈ l

theorem indep_edges {n : Net} (hg : Good n) (l : List Int) : ((edgesOf n.ends).any fun q => l.contains q.1 && l.contains q.2.2.1) = true ↔ ¬ Indep n.ends l := by
  unfold Indep
  rw [Classical.not_not, List.any_eq_true, ← exists_edge hg (P := fun v u => (v : Int) ∈ l ∧ (u : Int) ∈ l) (fun a b h => ⟨h.2, h.1⟩)]
  constructor
  · rintro ⟨q, hq, h⟩
    obtain ⟨v, i, x, y, rfl, _⟩ := edge_at hg hq
    exact ⟨_, hq, by simpa using h⟩
  · rintro ⟨q, hq, h⟩
    obtain ⟨v, i, x, y, rfl, _⟩ := edge_at hg hq
    exact ⟨_, hq, by simpa using h⟩

/-- No neighbour of v lies in the set. -/
def Apart (E : Ends) (l : List Int) (v : Nat) : Prop := ∀ x ∈ adjOf E v, x ∉ l

theorem mtApart_ok {w : World} {a b c s : Sl} {n : Net} {l : List Int} (h : RNet w a b c n) (hl : R w s l) (hg : Good n) {v : Nat} (hv : v < n.ends.length) :
    Calls Try.prog F.s_mtApart #[.agg #[a.v, b.v, c.v], .int .i64 v, s.v] w (Ret [.at .bool] fun (x : Bool) w' => (x = true ↔ Apart n.ends l v) ∧ Ext w w') := by
  refine C_s_mtApart ?_
  unfold V_s_mtApart
  refine NEW_intro fun p w1 hp hs hE hb1 => LD_box3 hb1 ?_
  replace h := h.ext hE
  replace hl := hl.ext hE
  refine call (neNear_ok h hg hv) ?_
  rintro r w2 ⟨hE2, hO⟩
  replace hl := hl.ext hE2
  replace hE := hE.ext hE2
  have hR := (hO.rep (adj_I64 hg hv)).any
  rw [hR.len]
  refine ⟨IN (adjOf n.ends v).length fun i w' => w2 = w' ∧ ∀ x ∈ (adjOf n.ends v).take i, l.contains x = false, MN (adjOf n.ends v).length, IN_zero ⟨rfl, by simp⟩, ?_⟩
  rintro _ w3 ⟨i, rfl, hi, rfl, ha⟩
  intros
  refine cond_dec (fun hlt => ?_) (fun hge => ⟨?_, hE⟩)
  · have hi' : i < (adjOf n.ends v).length := by omega
    refine hR.ixI hi' fun q _ hc => LD_int hc ?_
    refine call (l1Has_ok hl _) ?_
    rintro x _ ⟨rfl, rfl⟩
    refine cond_b (fun ht => ⟨?_, hE⟩) (fun hf => IN_next hR.le hi' ⟨rfl, none_succ hi' ha hf⟩)
    simp only [Bool.false_eq_true, false_iff]
    intro hA
    exact hA _ (List.getElem_mem hi') (by simpa using ht)
  · have : i = (adjOf n.ends v).length := by omega
    subst this
    simp only [true_iff]
    intro x hx hm
    have := ha x (by simpa using hx)
    simp [hm] at this

/-! ### Covers -/

def Cover (E : Ends) (l : List Int) : Prop := ∀ q ∈ edgesOf E, q.1 ∈ l ∨ q.2.2.1 ∈ l

theorem isCover1_ok {n : Net} {l : List Int} {w : World} {s : Sl} {p : Addr} {t : TypeId} (hl : R w s l) (hb : Box w p t [s.v]) :
    AnswersG argsQ w (.func (.func F.i_isCover_1) #[] #[.pointer (some p)]) (edgesOf n.ends) (fun q => !(l.contains q.1) && !(l.contains q.2.2.1)) := by
  intro q hq w1 hE1
  replace hl := hl.ext hE1
  replace hb := hb.ext hE1
  refine CALLV_mk (by kernel_rfl) (C_i_isCover_1 ?_)
  unfold V_i_isCover_1
  refine NEW_intro fun p1 w2 hp1 hs2 hE2 hb2 => ?_
  replace hl := hl.ext hE2
  replace hb := hb.ext hE2
  refine LD_bs hb (LD_bi0 hb2 ?_)
  refine call (contains_ok hl _) ?_
  rintro x _ ⟨rfl, rfl⟩
  refine cond_not (fun hf => LD_bs hb (LD_bi2 hb2 ?_)) (fun ht => ⟨by simp only [ht, Bool.not_true, Bool.false_and], hE2⟩)
  refine call (contains_ok hl _) ?_
  rintro x _ ⟨rfl, rfl⟩
  exact ⟨by simp only [hf, Bool.not_false, Bool.true_and], hE2⟩

theorem isCover_ok {w : World} {a b c s : Sl} {n : Net} {l : List Int} (h : RNet w a b c n) (hl : R w s l) (hg : Good n) :
    Calls Try.prog F.i_isCover #[.agg #[a.v, b.v, c.v], s.v] w (Ret [.at .bool] fun (x : Bool) w' => (x = true ↔ Cover n.ends l) ∧ Ext w w') := by
  refine C_i_isCover ?_
  unfold V_i_isCover
  refine NEW_intro fun p w1 hp hs hE hb1 => ?_
  replace h := h.ext hE
  replace hl := hl.ext hE
  refine NEW_intro fun p2 w2 hp2 hs2 hE2 hb2 => ?_
  replace h := h.ext hE2
  replace hl := hl.ext hE2
  replace hb1 := hb1.ext hE2
  replace hE := hE.ext hE2
  refine LD_box3 hb1 ?_
  refine call (edges_ok h hg) ?_
  rintro r w4 ⟨hE4, hO⟩
  replace h := h.ext hE4
  replace hl := hl.ext hE4
  replace hb2 := hb2.ext hE4
  replace hE := hE.ext hE4
  refine call (containsFuncQ_ok (hO.rep (edge_I64 hg)).any (isCover1_ok hl hb2)) ?_
  rintro y w5 ⟨rfl, hE5⟩
  refine ⟨?_, hE.trans hE5⟩
  rw [Bool.not_eq_true', List.any_eq_false]
  unfold Cover
  constructor
  · intro h1 q hq
    have := h1 q hq
    simp at this
    by_cases h2 : q.1 ∈ l
    · exact .inl h2
    · exact .inr (this h2)
  · intro h1 q hq
    simp
    intro h2
    rcases h1 q hq with h3 | h3
    · exact absurd h3 h2
    · exact h3

theorem mtCovers_ok {w : World} {a b c s : Sl} {n : Net} {l : List Int} (h : RNet w a b c n) (hl : R w s l) (hg : Good n) :
    Calls Try.prog F.s_mtCovers #[.agg #[a.v, b.v, c.v], s.v] w (Ret [.at .bool] fun (x : Bool) w' => (x = true ↔ Cover n.ends l) ∧ Ext w w') := by
  refine C_s_mtCovers ?_
  unfold V_s_mtCovers
  refine NEW_intro fun p w1 hp hs hE hb1 => LD_box3 hb1 ?_
  replace h := h.ext hE
  replace hl := hl.ext hE
  refine call (neEdges_ok h hg) ?_
  rintro r w2 ⟨hE2, hO⟩
  replace hl := hl.ext hE2
  replace hE := hE.ext hE2
  have hR := hO.rep (four_ok hg)
  rw [hR.len, List.length_map]
  have hle := hR.le
  rw [List.length_map] at hle
  refine ⟨IN (edgesOf n.ends).length fun i w' => w2 = w' ∧ ∀ q ∈ (edgesOf n.ends).take i, q.1 ∈ l ∨ q.2.2.1 ∈ l, MN (edgesOf n.ends).length, IN_zero ⟨rfl, by simp⟩, ?_⟩
  rintro _ w3 ⟨i, rfl, hi, rfl, ha⟩
  intros
  refine cond_dec (fun hlt => ?_) (fun hge => ⟨?_, hE⟩)
  · have hi' : i < (edgesOf n.ends).length := by omega
    have hnext : ∀ (_ : (edgesOf n.ends)[i].1 ∈ l ∨ (edgesOf n.ends)[i].2.2.1 ∈ l), ∀ q ∈ (edgesOf n.ends).take (i + 1), q.1 ∈ l ∨ q.2.2.1 ∈ l := by
      intro hq q hm
      rw [List.take_succ_eq_append_getElem hi'] at hm
      rcases List.mem_append.1 hm with h1 | h1
      · exact ha q h1
      · rw [List.mem_singleton.1 h1]; exact hq
    refine hR.ixL (i := i) (by simpa using hi') fun q s1 hR1 hc => LD_sl hc ?_
    rw [List.getElem_map] at hR1
    refine hR1.ixI (i := 0) (by simp [four]) fun q _ hc => LD_int hc ?_
    refine call (l1Has_ok hl _) ?_
    rintro x _ ⟨rfl, rfl⟩
    refine cond_not (fun hf => ?_) (fun ht => IN_next hle hi' ⟨rfl, hnext (.inl (by simpa [four] using ht))⟩)
    refine hR1.ixI (i := 2) (by simp [four]) fun q _ hc => LD_int hc ?_
    refine call (l1Has_ok hl _) ?_
    rintro x _ ⟨rfl, rfl⟩
    refine cond_not (fun hf2 => ⟨?_, hE⟩) (fun ht => IN_next hle hi' ⟨rfl, hnext (.inr (by simpa [four] using ht))⟩)
    simp only [Bool.false_eq_true, false_iff]
    intro hC
    rcases hC _ (List.getElem_mem hi') with h1 | h1
    · simp [four, h1] at hf
    · simp [four, h1] at hf2
  · have : i = (edgesOf n.ends).length := by omega
    subst this
    simp only [true_iff]
    intro q hq
    exact ha q (by simpa using hq)

end Go.Proofs.Ytoeaoinedidbiaa
