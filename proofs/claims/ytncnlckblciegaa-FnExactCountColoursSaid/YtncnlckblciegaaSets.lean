/- Sets of nodes and matchings: both sides' tests of independence, covers, maximality; sizes of matchings. -/
import Derived.Test.YtncnlckblciegaaCol
import Derived.Test.YtncnlckblciegaaMatch
namespace Go.Proofs.Ytncnlckblciegaa
open Go.GX Go.RowKit
set_option maxRecDepth 100000

structure SetOk (n : Net) (l : List Int) : Prop where
  good : Good n
  rising : Rising l 0 (n.ends.length - 1)

theorem SetOk.node {n : Net} {l : List Int} (h : SetOk n l) : ∀ x ∈ l, ∃ u : Nat, x = u ∧ u < n.ends.length := by
  intro x hx
  have := h.rising.1 x hx
  exact ⟨x.toNat, by omega, by omega⟩

/-! ### Independent sets -/

def Indep (E : Ends) (l : List Int) : Prop := ¬ ∃ v u : Nat, v < E.length ∧ (u : Int) ∈ adjOf E v ∧ (v : Int) ∈ l ∧ (u : Int) ∈ l

theorem indep_edges {n : Net} (hg : Good n) (l : List Int) : ((edgesOf n.ends).any fun q => l.contains q.1 && l.contains q.2.2.1) = true ↔ ¬ Indep n.ends l := by
  unfold Indep
  rw [Classical.not_not, List.any_eq_true, ← exists_edge hg (P := fun v u => (v : Int) ∈ l ∧ (u : Int) ∈ l) (fun a b h => ⟨h.2, h.1⟩)]
  constructor
  · rintro ⟨q, hq, h⟩
    obtain ⟨v, i, x, y, rfl, _⟩ := edge_at hg hq
    exact ⟨_, hq, by simpa using h⟩
  · rintro ⟨q, hq, h⟩
    obtain ⟨v, i, x, y, rfl, _⟩ := edge_at hg hq
    exact ⟨_, hq, by simpa using h⟩

/-- No neighbour of v lies in the set. -/
def Apart (E : Ends) (l : List Int) (v : Nat) : Prop := ∀ x ∈ adjOf E v, x ∉ l

theorem mtApart_ok {w : World} {a b c s : Sl} {n : Net} {l : List Int} (h : RNet w a b c n) (hl : R w s l) (hg : Good n) {v : Nat} (hv : v < n.ends.length) :
    Calls Try.prog F.s_mtApart #[.agg #[a.v, b.v, c.v], .int .i64 v, s.v] w (Ret [.at .bool] fun (x : Bool) w' => (x = true ↔ Apart n.ends l v) ∧ Ext w w') := by
  refine C_s_mtApart ?_
  unfold V_s_mtApart
  refine NEW_intro fun p w1 hp hs hE hb1 => LD_box3 hb1 ?_
  replace h := h.ext hE
  replace hl := hl.ext hE
  refine call (neNear_ok h hg hv) ?_
  rintro r w2 ⟨hE2, hO⟩
  replace hl := hl.ext hE2
  replace hE := hE.ext hE2
  have hR := (hO.rep (adj_I64 hg hv)).any
  rw [hR.len]
  refine ⟨IN (adjOf n.ends v).length fun i w' => w2 = w' ∧ ∀ x ∈ (adjOf n.ends v).take i, l.contains x = false, MN (adjOf n.ends v).length, IN_zero ⟨rfl, by simp⟩, ?_⟩
  rintro _ w3 ⟨i, rfl, hi, rfl, ha⟩
  intros
  refine cond_dec (fun hlt => ?_) (fun hge => ⟨?_, hE⟩)
  · have hi' : i < (adjOf n.ends v).length := by omega
    refine hR.ixI hi' fun q _ hc => LD_int hc ?_
    refine call (l1Has_ok hl _) ?_
    rintro x _ ⟨rfl, rfl⟩
    refine cond_b (fun ht => ⟨?_, hE⟩) (fun hf => IN_next hR.le hi' ⟨rfl, none_succ hi' ha hf⟩)
    simp only [Bool.false_eq_true, false_iff]
    intro hA
    exact hA _ (List.getElem_mem hi') (by simpa using ht)
  · have : i = (adjOf n.ends v).length := by omega
    subst this
    simp only [true_iff]
    intro x hx hm
    have := ha x (by simpa using hx)
    simp [hm] at this

/-! ### Covers -/

def Cover (E : Ends) (l : List Int) : Prop := ∀ q ∈ edgesOf E, q.1 ∈ l ∨ q.2.2.1 ∈ l

end Go.Proofs.Ytncnlckblciegaa
