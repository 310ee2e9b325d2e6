/- Maximal matchings and maximal independent sets; sizes of matchings. -/
import Derived.Test.YtoeaoinedidbiaaSets
namespace Go.Proofs.Ytoeaoinedidbiaa
open Go.GX Go.RowKit
set_option maxRecDepth 100000

/-! ### Matchings that are asked rightly, and their size -/

structure MatchAsked (n : Net) (m : List Int) : Prop where
  good : Good n
  is : MatchOk n.ends m

/-- How many numbers are not negative. -/
def nonneg (l : List Int) : Nat := l.countP fun x => decide (x ≥ 0)

theorem nonneg_take_succ {l : List Int} {i : Nat} (hi : i < l.length) : nonneg (l.take (i + 1)) = nonneg (l.take i) + if l[i] ≥ 0 then 1 else 0 := by
  unfold nonneg
  rw [List.take_succ_eq_append_getElem hi, List.countP_append, List.countP_singleton]
  simp

theorem nonneg_le {l : List Int} {i : Nat} : nonneg (l.take i) ≤ i := Nat.le_trans (List.countP_le_length) (by simp; omega)

def half (k : Nat) : Int := IntKind.i64.wrap (Int.tdiv k 2)

/-- An answer that is a number, and whether it was asked rightly. -/
def AnsI (g : Prop) (k : Int) (x : Int) (ok : Bool) : Prop := (ok = true ↔ g) ∧ (g → x = k) ∧ (¬ g → x = 0)

theorem AnsI.eq {g : Prop} {k x x' : Int} {ok ok' : Bool} (h : AnsI g k x ok) (h' : AnsI g k x' ok') : x = x' ∧ ok = ok' := by
  refine ⟨?_, Bool.eq_iff_iff.2 (h.1.trans h'.1.symm)⟩
  by_cases hg : g
  · rw [h.2.1 hg, h'.2.1 hg]
  · rw [h.2.2 hg, h'.2.2 hg]

theorem AnsI.no {g : Prop} {k : Int} (h : ¬ g) : AnsI g k 0 false := ⟨by simp [h], fun h1 => absurd h1 h, fun _ => rfl⟩
theorem AnsI.mk {g : Prop} {k x : Int} (h : g) (hx : x = k) : AnsI g k x true := ⟨by simp [h], fun _ => hx, fun h1 => absurd h h1⟩

/-! ### Maximal matchings -/

/-- An edge that could be added: two nodes, both free. -/
def FreeEdge (l : List Int) (q : Edge) : Prop := q.1 ≠ q.2.2.1 ∧ l.getD q.1.toNat 0 < 0 ∧ l.getD q.2.2.1.toNat 0 < 0
instance (l : List Int) (q : Edge) : Decidable (FreeEdge l q) := by unfold FreeEdge; exact inferInstance
def Maximal (n : Net) (l : List Int) : Prop := ∀ q ∈ edgesOf n.ends, ¬ FreeEdge l q

/-! ### Maximal independent sets -/

theorem areJoined_ok {w : World} {a b c : Sl} {n : Net} (h : RNet w a b c n) {u : Nat} (hu : u < n.ends.length) (v : Int) :
    Calls Try.prog F.i_areJoined #[.agg #[a.v, b.v, c.v], .int .i64 u, .int .i64 v] w (Ret [.at .bool] fun (x : Bool) w' => x = (adjOf n.ends u).contains v ∧ Ext w w') := by
  refine C_i_areJoined ?_
  unfold V_i_areJoined
  refine NEW_intro fun p w1 hp hs hE hb1 => ?_
  replace h := h.ext hE
  refine NEW_intro fun p2 w2 hp2 hs2 hE2 hb2 => ?_
  replace h := h.ext hE2
  replace hb1 := hb1.ext hE2
  replace hE := hE.ext hE2
  refine LD_bs0 hb1 ?_
  refine h.1.ixL hu fun q s1 hR hc => LD_sl hc ?_
  refine call (containsFuncE_ok (p := fun e => e.1 == v) hR ?_) ?_
  · intro e he w3 hE3
    refine CALLV_mk (by kernel_rfl) (C_i_areJoined_1 ?_)
    unfold V_i_areJoined_1
    refine NEW_intro fun p1 w4 hp1 hs4 hE4 hb4 => LD_bi0 hb4 (LD_bi ((hb2.ext hE3).ext hE4) ?_)
    exact ⟨rfl, hE4⟩
  · rintro x w3 ⟨rfl, hE3⟩
    refine ⟨?_, hE.trans hE3⟩
    unfold adjOf
    rw [rowOf_get hu, Bool.eq_iff_iff]
    simp [List.any_eq_true]

theorem hasNear_ok {w : World} {a b c s : Sl} {n : Net} {l : List Int} (h : RNet w a b c n) (hl : R w s l) {v : Nat} (hv : v < n.ends.length) :
    Calls Try.prog F.i_hasNear #[.agg #[a.v, b.v, c.v], .int .i64 v, s.v] w (Ret [.at .bool] fun (x : Bool) w' => (x = true ↔ ¬ Apart n.ends l v) ∧ Ext w w') := by
  refine C_i_hasNear ?_
  unfold V_i_hasNear
  refine NEW_intro fun p w1 hp hs hE hb1 => ?_
  replace h := h.ext hE
  replace hl := hl.ext hE
  refine NEW_intro fun p2 w2 hp2 hs2 hE2 hb2 => ?_
  replace h := h.ext hE2
  replace hb1 := hb1.ext hE2
  replace hE := hE.ext hE2
  replace hl := hl.ext hE2
  refine LD_bs0 hb1 ?_
  refine h.1.ixL hv fun q s1 hR hc => LD_sl hc ?_
  refine call (containsFuncE_ok (p := fun e => l.contains e.1) hR ?_) ?_
  · intro e he w3 hE3
    refine CALLV_mk (by kernel_rfl) (C_i_hasNear_1 ?_)
    unfold V_i_hasNear_1
    refine NEW_intro fun p1 w4 hp1 hs4 hE4 hb4 => LD_bs ((hb2.ext hE3).ext hE4) (LD_bi0 hb4 ?_)
    refine call (contains_ok ((hl.ext hE3).ext hE4) _) ?_
    rintro x _ ⟨rfl, rfl⟩
    exact ⟨rfl, hE4⟩
  · rintro x w3 ⟨rfl, hE3⟩
    refine ⟨?_, hE.trans hE3⟩
    unfold Apart adjOf
    rw [rowOf_get hv, List.any_eq_true]
    simp

theorem mtOwn_ok {w : World} {a b c : Sl} {n : Net} (h : RNet w a b c n) (hg : Good n) {v : Nat} (hv : v < n.ends.length) :
    Calls Try.prog F.s_mtOwn #[.agg #[a.v, b.v, c.v], .int .i64 v] w (Ret [.at .bool] fun (x : Bool) w' => x = (adjOf n.ends v).contains (v : Int) ∧ Ext w w') := by
  refine C_s_mtOwn ?_
  unfold V_s_mtOwn
  refine NEW_intro fun p w1 hp hs hE hb1 => LD_box3 hb1 ?_
  replace h := h.ext hE
  refine call (neNear_ok h hg hv) ?_
  rintro r w2 ⟨hE2, hO⟩
  refine call (l1Has_ok (hO.rep (adj_I64 hg hv)).any _) ?_
  rintro x _ ⟨rfl, rfl⟩
  exact ⟨rfl, hE.trans hE2⟩

/-- A node outside the set that has no edge to itself has a neighbour in it. -/
def MaxAt (E : Ends) (l : List Int) (v : Nat) : Prop := l.contains (v : Int) = false → (adjOf E v).contains (v : Int) = false → ¬ Apart E l v

def MaxIndep (E : Ends) (l : List Int) : Prop := (∀ v < E.length, MaxAt E l v) ∧ Indep E l

end Go.Proofs.Ytoeaoinedidbiaa
