/- Matchings: both sides' tests, and the law IsMatching. -/
import Derived.Test.YtcilbmkieclelaaGood
namespace Go.Proofs.Ytcilbmkieclelaa
open Go.GX Go.RowKit
set_option maxRecDepth 100000

/-- Node v and its mate agree. -/
def MAt (E : Ends) (m : List Int) (v : Nat) : Prop :=
  ∀ x, m[v]? = some x → x = -1 ∨ ∃ e, portZ E v x = some e ∧ e.1 ≠ v ∧ ∃ u : Nat, e.1 = u ∧ m[u]? = some e.2

def MatchOk (E : Ends) (m : List Int) : Prop := m.length = E.length ∧ ∀ v < m.length, MAt E m v

theorem mat_get {E : Ends} {m : List Int} {v : Nat} (hv : v < m.length) : MAt E m v ↔ m[v] = -1 ∨ ∃ e, portZ E v m[v] = some e ∧ e.1 ≠ v ∧ ∃ u : Nat, e.1 = u ∧ m[u]? = some e.2 := by
  unfold MAt
  simp [hv]

theorem isMatching_ok {w : World} {a b c s : Sl} {n : Net} {m : List Int} (h : RNet w a b c n) (hm : R w s m) (hg : Good n) :
    Calls Try.prog F.i_isMatching #[.agg #[a.v, b.v, c.v], s.v] w (Ret [.at .bool] fun (x : Bool) w' => (x = true ↔ MatchOk n.ends m) ∧ Ext w w') := by
  refine C_i_isMatching ?_
  unfold V_i_isMatching
  refine NEW_intro fun p w1 hp hs hE1 hb1 => LD_bs0 hb1 ?_
  rw [h.1.len, hm.len]
  refine cond_ne (fun hne => ⟨?_, hE1⟩) (fun heq => ?_)
  · simp only [Bool.false_eq_true, false_iff]
    intro hM; have := hM.1; omega
  have hlen : m.length = n.ends.length := by omega
  refine ⟨IN m.length fun v w' => Ext w1 w' ∧ ∀ u < v, MAt n.ends m u, MN m.length, IN_zero ⟨Ext.refl _, fun u hu => absurd hu (by omega)⟩, ?_⟩
  rintro _ w2 ⟨v, rfl, hv, hE2, hI⟩
  intros
  have hE := hE1.trans hE2
  have hle := hm.le
  refine cond_dec (fun hlt => ?_) (fun hge => ⟨?_, hE⟩)
  · have hv' : v < m.length := by omega
    have hve : v < n.ends.length := by omega
    refine (hm.ext hE).ixI hv' fun q _ hc => LD_int hc ?_
    refine cond_eq (fun h1 => IN_next hle hv' ⟨hE2, all_succ hI ((mat_get hv').2 (.inl h1))⟩) (fun h1 => ?_)
    have hfail : ¬ (∃ e, portZ n.ends v m[v] = some e ∧ e.1 ≠ v ∧ ∃ u : Nat, e.1 = u ∧ m[u]? = some e.2) → ¬ MatchOk n.ends m := fun hn hM => by
      rcases (mat_get hv').1 (hM.2 v hv') with h2 | h2
      · exact h1 h2
      · exact hn h2
    have hb2 := hb1.ext hE2
    refine LD_box3 hb2 ?_
    refine call (hasPort_ok (h.ext hE) _ _) ?_
    rintro x w3 ⟨rfl, hE3⟩
    have hE03 := hE.trans hE3
    refine cond_not (fun hf => ⟨?_, hE03⟩) (fun ht => ?_)
    · simp only [Bool.false_eq_true, false_iff]
      refine hfail ?_
      rintro ⟨e, he, _⟩
      rw [he] at hf; cases hf
    obtain ⟨e, he⟩ := Option.isSome_iff_exists.1 ht
    obtain ⟨v', i, hvv, hi, hpe⟩ := portZ_some he
    obtain rfl : v = v' := by omega
    obtain ⟨_, hi', hee⟩ := port_some hpe
    rw [hi]
    refine LD_bs0 (hb2.ext hE3) ?_
    refine (h.ext hE03).1.ixL hve fun q s2 hR hc => LD_sl hc ?_
    refine hR.ixE hi' fun q _ _ hc0 hc1 => LD_int2 hc0 hc1 ?_
    rw [hee]
    refine NEW_ST (one2 _ _) rfl fun p6 w4 hp6 hE4 hb6 => ?_
    have hE04 := hE03.trans hE4
    refine LD_bi0 hb6 ?_
    refine cond_eq (fun h2 w5 hE5 => ⟨?_, hE04.trans hE5⟩) (fun h2 => ?_)
    · simp only [Bool.false_eq_true, false_iff]
      refine hfail ?_
      rintro ⟨e', he', hne, _⟩
      rw [he] at he'
      cases he'
      exact hne h2
    obtain ⟨x, y, hxy, hback⟩ := hg.back hve hi'
    obtain ⟨hx, _⟩ := port_some hback
    rw [hee] at hxy
    subst hxy
    refine LD_bi0 hb6 ?_
    refine (hm.ext hE04).ixI (i := x) (by omega) fun q _ hc => LD_int hc ?_
    refine LD_bi1 hb6 ?_
    intro w5 hE5
    have hx' : x < m.length := by omega
    refine cond_ne (fun h3 => ⟨?_, hE04.trans hE5⟩) (fun h3 => ?_)
    · simp only [Bool.false_eq_true, false_iff]
      refine hfail ?_
      rintro ⟨e', he', _, u, hu, hmu⟩
      rw [he] at he'
      cases he'
      obtain rfl : x = u := by simp at hu; omega
      simp [hx'] at hmu
      exact h3 hmu
    · exact IN_next hle hv' ⟨hE2.trans (hE3.trans (hE4.trans hE5)), all_succ hI ((mat_get hv').2 (.inr ⟨_, he, h2, x, rfl, by simp [hx', h3]⟩))⟩
  · simp only [true_iff]
    exact ⟨hlen, fun u hu => hI u (by omega)⟩

theorem mtIs_ok {w : World} {a b c s : Sl} {n : Net} {m : List Int} (h : RNet w a b c n) (hm : R w s m) (hg : Good n) :
    Calls Try.prog F.s_mtIs #[.agg #[a.v, b.v, c.v], s.v] w (Ret [.at .bool] fun (x : Bool) w' => (x = true ↔ MatchOk n.ends m) ∧ Ext w w') := by
  refine C_s_mtIs ?_
  unfold V_s_mtIs
  refine NEW_intro fun p w1 hp hs hE1 hb1 => LD_bs0 hb1 ?_
  rw [h.1.len, hm.len]
  refine cond_ne (fun hne => ⟨?_, hE1⟩) (fun heq => ?_)
  · simp only [Bool.false_eq_true, false_iff]
    intro hM; have := hM.1; omega
  have hlen : m.length = n.ends.length := by omega
  refine ⟨IN m.length fun v w' => Ext w1 w' ∧ ∀ u < v, MAt n.ends m u, MN m.length, IN_zero ⟨Ext.refl _, fun u hu => absurd hu (by omega)⟩, ?_⟩
  rintro _ w2 ⟨v, rfl, hv, hE2, hI⟩
  intros
  have hE := hE1.trans hE2
  have hle := hm.le
  refine cond_dec (fun hlt => ?_) (fun hge => ⟨?_, hE⟩)
  · have hv' : v < m.length := by omega
    have hve : v < n.ends.length := by omega
    refine (hm.ext hE).ixI hv' fun q _ hc => LD_int hc ?_
    refine cond_eq (fun h1 => IN_next hle hv' ⟨hE2, all_succ hI ((mat_get hv').2 (.inl h1))⟩) (fun h1 => ?_)
    have hfail : ¬ (∃ e, portZ n.ends v m[v] = some e ∧ e.1 ≠ v ∧ ∃ u : Nat, e.1 = u ∧ m[u]? = some e.2) → ¬ MatchOk n.ends m := fun hn hM => by
      rcases (mat_get hv').1 (hM.2 v hv') with h2 | h2
      · exact h1 h2
      · exact hn h2
    have hb2 := hb1.ext hE2
    refine LD_bs0 hb2 ?_
    refine (h.ext hE).1.ixL hve fun q s1 hR1 hc => LD_sl hc ?_
    have hl1 := hR1.le
    rw [hR1.len, wrap_of (by omega) (by omega)]
    refine call (l1In_ok _ _ _ _) ?_
    rintro x _ ⟨rfl, rfl⟩
    refine cond_not (fun hf => ⟨?_, hE⟩) (fun ht => ?_)
    · simp only [Bool.false_eq_true, false_iff]
      refine hfail ?_
      rintro ⟨e, he, _⟩
      obtain ⟨v', i, hvv, hi, hpe⟩ := portZ_some he
      obtain rfl : v = v' := by omega
      obtain ⟨_, hi', hee⟩ := port_some hpe
      exact inR_false hf (by omega)
    obtain ⟨i, hi⟩ := Int.eq_ofNat_of_zero_le (inR_true ht).1
    have hi' : i < n.ends[v].length := by have := (inR_true ht).2; omega
    have he : portZ n.ends v m[v] = some n.ends[v][i] := by rw [hi, portZ_nat]; exact port_get hve hi'
    rw [hi]
    refine LD_bs0 hb2 ?_
    refine (h.ext hE).1.ixL hve fun q s2 hR hc => LD_sl hc ?_
    refine hR.ixE hi' fun q _ _ hc0 hc1 => LD_int2 hc0 hc1 ?_
    refine NEW_ST (one2 _ _) rfl fun p6 w4 hp6 hE4 hb6 => ?_
    have hE04 := hE.trans hE4
    refine LD_bi0 hb6 ?_
    refine cond_eq (fun h2 w5 hE5 => ⟨?_, hE04.trans hE5⟩) (fun h2 => ?_)
    · simp only [Bool.false_eq_true, false_iff]
      refine hfail ?_
      rintro ⟨e', he', hne, _⟩
      rw [he] at he'
      cases he'
      exact hne h2
    obtain ⟨x, y, hxy, hback⟩ := hg.back hve hi'
    obtain ⟨hx, _⟩ := port_some hback
    rw [hxy] at hb6 he h2
    refine LD_bi0 hb6 ?_
    refine (hm.ext hE04).ixI (i := x) (by omega) fun q _ hc => LD_int hc ?_
    refine LD_bi1 hb6 ?_
    intro w5 hE5
    have hx' : x < m.length := by omega
    refine cond_ne (fun h3 => ⟨?_, hE04.trans hE5⟩) (fun h3 => ?_)
    · simp only [Bool.false_eq_true, false_iff]
      refine hfail ?_
      rintro ⟨e', he', _, u, hu, hmu⟩
      rw [he] at he'
      cases he'
      obtain rfl : x = u := by simp at hu; omega
      simp [hx'] at hmu
      exact h3 hmu
    · exact IN_next hle hv' ⟨hE2.trans (hE4.trans hE5), all_succ hI ((mat_get hv').2 (.inr ⟨_, he, h2, x, rfl, by simp [hx', h3]⟩))⟩
  · simp only [true_iff]
    exact ⟨hlen, fun u hu => hI u (by omega)⟩



end Go.Proofs.Ytcilbmkieclelaa
