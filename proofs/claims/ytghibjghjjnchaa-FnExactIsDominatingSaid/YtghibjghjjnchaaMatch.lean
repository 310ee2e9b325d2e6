/- Matchings: both sides' tests, and the law IsMatching. -/
import Derived.Test.YtghibjghjjnchaaGood
namespace Go.Proofs.Ytghibjghjjnchaa
open Go.GX Go.RowKit
set_option maxRecDepth 100000

/-- Node v and its mate agree. -/
def MAt (E : Ends) (m : List Int) (v : Nat) : Prop :=
  ∀ x, m[v]? = some x → x = -1 ∨ ∃ e, portZ E v x = some e ∧ e.1 ≠ v ∧ ∃ u : Nat, e.1 = u ∧ m[u]? = some e.2

def MatchOk (E : Ends) (m : List Int) : Prop := m.length = E.length ∧ ∀ v < m.length, MAt E m v

theorem mat_get {E : Ends} {m : List Int} {v : Nat} (hv : v < m.length) : MAt E m v ↔ m[v] = -1 ∨ ∃ e, portZ E v m[v] = some e ∧ e.1 ≠ v ∧ ∃ u : Nat, e.1 = u ∧ m[u]? = some e.2 := by
  unfold MAt
  simp [hv]

theorem isMatching_ok {w : World} {a b c s : Sl} {n : Net} {m : List Int} (h : RNet w a b c n) (hm : R w s m) (hg : Good n) :
    Calls Try.prog F.i_isMatching #[.agg #[a.v, b.v, c.v], s.v] w (Ret [.at .bool] fun (x : Bool) w' => (x = true ↔ MatchOk n.ends m) ∧ Ext w w') := by
  refine C_i_isMatching ?_
  unfold V_i_isMatching
  refine NEW_intro fun p w1 hp hs hE1 hb1 => LD_bs0 hb1 ?_
  rw [h.1.len, hm.len]
  refine cond_ne (fun hne => ⟨?_, hE1⟩) (fun heq => ?_)
  · simp only [Bool.false_eq_true, false_iff]
    intro hM; have := hM.1; omega
  have hlen : m.length = n.ends.length := by omega
  refine ⟨IN m.length fun v w' => Ext w1 w' ∧ ∀ u < v, MAt n.ends m u, MN m.length, IN_zero ⟨Ext.refl _, fun u hu => absurd hu (by omega)⟩, ?_⟩
  rintro _ w2 ⟨v, rfl, hv, hE2, hI⟩
  intros
  have hE := hE1.trans hE2
  have hle := hm.le
  refine cond_dec (fun hlt => ?_) (fun hge => ⟨?_, hE⟩)
  · have hv' : v < m.length := by omega
    have hve : v < n.ends.length := by omega
    refine (hm.ext hE).ixI hv' fun q _ hc => LD_int hc ?_
    refine cond_eq (fun h1 => IN_next hle hv' ⟨hE2, all_succ hI ((mat_get hv').2 (.inl h1))⟩) (fun h1 => ?_)
    have hfail : ¬ (∃ e, portZ n.ends v m[v] = some e ∧ e.1 ≠ v ∧ ∃ u : Nat, e.1 = u ∧ m[u]? = some e.2) → ¬ MatchOk n.ends m := fun hn hM => by
      rcases (mat_get hv').1 (hM.2 v hv') with h2 | h2
      · exact h1 h2
      · exact hn h2
    have hb2 := hb1.ext hE2
    refine LD_box3 hb2 ?_
    refine call (hasPort_ok (h.ext hE) _ _) ?_
    rintro x w3 ⟨rfl, hE3⟩
    have hE03 := hE.trans hE3
    refine cond_not (fun hf => ⟨?_, hE03⟩) (fun ht => ?_)
    · simp only [Bool.false_eq_true, false_iff]
      refine hfail ?_
      rintro ⟨e, he, _⟩
      rw [he] at hf; cases hf
    obtain ⟨e, he⟩ := Option.isSome_iff_exists.1 ht
    obtain ⟨v', i, hvv, hi, hpe⟩ := portZ_some he
    obtain rfl : v = v' := by omega
    obtain ⟨_, hi', hee⟩ := port_some hpe
    rw [hi]
    refine LD_bs0 (hb2.ext hE3) ?_
    refine (h.ext hE03).1.ixL hve fun q s2 hR hc => LD_sl hc ?_
    refine hR.ixE hi' fun q _ _ hc0 hc1 => LD_int2 hc0 hc1 ?_
    rw [hee]
    refine NEW_ST (one2 _ _) rfl fun p6 w4 hp6 hE4 hb6 => ?_
    have hE04 := hE03.trans hE4
    refine LD_bi0 hb6 ?_
    refine cond_eq (fun h2 w5 hE5 => ⟨?_, hE04.trans hE5⟩) (fun h2 => ?_)
    · simp only [Bool.false_eq_true, false_iff]
      refine hfail ?_
      rintro ⟨e', he', hne, _⟩
      rw [he] at he'
      cases he'
      exact hne h2
    obtain ⟨x, y, hxy, hback⟩ := hg.back hve hi'
    obtain ⟨hx, _⟩ := port_some hback
    rw [hee] at hxy
    subst hxy
    refine LD_bi0 hb6 ?_
    refine (hm.ext hE04).ixI (i := x) (by omega) fun q _ hc => LD_int hc ?_
    refine LD_bi1 hb6 ?_
    intro w5 hE5
    have hx' : x < m.length := by omega
    refine cond_ne (fun h3 => ⟨?_, hE04.trans hE5⟩) (fun h3 => ?_)
    · simp only [Bool.false_eq_true, false_iff]
      refine hfail ?_
      rintro ⟨e', he', _, u, hu, hmu⟩
      rw [he] at he'
      cases he'
      obtain rfl : x = u := by simp at hu; omega
      simp [hx'] at hmu
      exact h3 hmu
    · exact IN_next hle hv' ⟨hE2.trans (hE3.trans (hE4.trans hE5)), all_succ hI ((mat_get hv').2 (.inr ⟨_, he, h2, x, rfl, by simp [hx', h3]⟩))⟩
  · simp only [true_iff]
    exact ⟨hlen, fun u hu => hI u (by omega)⟩

theorem mtIs_ok {w : World} {a b c s : Sl} {n : Net} {m : List Int} (h : RNet w a b c n) (hm : R w s m) (hg : Good n) :
    Calls Try.prog F.s_mtIs #[.agg #[a.v, b.v, c.v], s.v] w (Ret [.at .bool] fun (x : Bool) w' => (x = true ↔ MatchOk n.ends m) ∧ Ext w w') := by
  refine C_s_mtIs ?_
  unfold V_s_mtIs
  refine NEW_intro fun p w1 hp hs hE1 hb1 => LD_bs0 hb1 ?_
  rw [h.1.len, hm.len]
  refine cond_ne (fun hne => ⟨?_, hE1⟩) (fun heq => ?_)
  · simp only [Bool.false_eq_true, false_iff]
    intro hM; have := hM.1; omega
  have hlen : m.length = n.ends.length := by omega
  refine ⟨IN m.length fun v w' => Ext w1 w' ∧ ∀ u < v, MAt n.ends m u, MN m.length, IN_zero ⟨Ext.refl _, fun u hu => absurd hu (by omega)⟩, ?_⟩
  rintro _ w2 ⟨v, rfl, hv, hE2, hI⟩
  intros
  have hE := hE1.trans hE2
  have hle := hm.le
  refine cond_dec (fun hlt => ?_) (fun hge => ⟨?_, hE⟩)
  · have hv' : v < m.length := by omega
    have hve : v < n.ends.length := by omega
    refine (hm.ext hE).ixI hv' fun q _ hc => LD_int hc ?_
    refine cond_eq (fun h1 => IN_next hle hv' ⟨hE2, all_succ hI ((mat_get hv').2 (.inl h1))⟩) (fun h1 => ?_)
    have hfail : ¬ (∃ e, portZ n.ends v m[v] = some e ∧ e.1 ≠ v ∧ ∃ u : Nat, e.1 = u ∧ m[u]? = some e.2) → ¬ MatchOk n.ends m := fun hn hM => by
      rcases (mat_get hv').1 (hM.2 v hv') with h2 | h2
      · exact h1 h2
      · exact hn h2
    have hb2 := hb1.ext hE2
    refine LD_bs0 hb2 ?_
    refine (h.ext hE).1.ixL hve fun q s1 hR1 hc => LD_sl hc ?_
    have hl1 := hR1.le
    rw [hR1.len, wrap_of (by omega) (by omega)]
    refine call (l1In_ok _ _ _ _) ?_
    rintro x _ ⟨rfl, rfl⟩
    refine cond_not (fun hf => ⟨?_, hE⟩) (fun ht => ?_)
    · simp only [Bool.false_eq_true, false_iff]
      refine hfail ?_
      rintro ⟨e, he, _⟩
      obtain ⟨v', i, hvv, hi, hpe⟩ := portZ_some he
      obtain rfl : v = v' := by omega
      obtain ⟨_, hi', hee⟩ := port_some hpe
      exact inR_false hf (by omega)
    obtain ⟨i, hi⟩ := Int.eq_ofNat_of_zero_le (inR_true ht).1
    have hi' : i < n.ends[v].length := by have := (inR_true ht).2; omega
    have he : portZ n.ends v m[v] = some n.ends[v][i] := by rw [hi, portZ_nat]; exact port_get hve hi'
    rw [hi]
    refine LD_bs0 hb2 ?_
    refine (h.ext hE).1.ixL hve fun q s2 hR hc => LD_sl hc ?_
    refine hR.ixE hi' fun q _ _ hc0 hc1 => LD_int2 hc0 hc1 ?_
    refine NEW_ST (one2 _ _) rfl fun p6 w4 hp6 hE4 hb6 => ?_
    have hE04 := hE.trans hE4
    refine LD_bi0 hb6 ?_
    refine cond_eq (fun h2 w5 hE5 => ⟨?_, hE04.trans hE5⟩) (fun h2 => ?_)
    · simp only [Bool.false_eq_true, false_iff]
      refine hfail ?_
      rintro ⟨e', he', hne, _⟩
      rw [he] at he'
      cases he'
      exact hne h2
    obtain ⟨x, y, hxy, hback⟩ := hg.back hve hi'
    obtain ⟨hx, _⟩ := port_some hback
    rw [hxy] at hb6 he h2
    refine LD_bi0 hb6 ?_
    refine (hm.ext hE04).ixI (i := x) (by omega) fun q _ hc => LD_int hc ?_
    refine LD_bi1 hb6 ?_
    intro w5 hE5
    have hx' : x < m.length := by omega
    refine cond_ne (fun h3 => ⟨?_, hE04.trans hE5⟩) (fun h3 => ?_)
    · simp only [Bool.false_eq_true, false_iff]
      refine hfail ?_
      rintro ⟨e', he', _, u, hu, hmu⟩
      rw [he] at he'
      cases he'
      obtain rfl : x = u := by simp at hu; omega
      simp [hx'] at hmu
      exact h3 hmu
    · exact IN_next hle hv' ⟨hE2.trans (hE4.trans hE5), all_succ hI ((mat_get hv').2 (.inr ⟨_, he, h2, x, rfl, by simp [hx', h3]⟩))⟩
  · simp only [true_iff]
    exact ⟨hlen, fun u hu => hI u (by omega)⟩


theorem IsMatching_ok {w : World} {a b c s : Sl} {n : Net} {m : List Int} (h : RNet w a b c n) (hm : R w s m) (hn : Small n) :
    Calls Try.prog F.i_IsMatching #[.agg #[a.v, b.v, c.v], s.v] w (Ret [.at .bool, .at .bool] fun (x y : Bool) w' => Ans2 (Good n) (MatchOk n.ends m) x y ∧ Ext w w') := by
  refine C_i_IsMatching ?_
  unfold V_i_IsMatching
  refine NEW_intro fun p w1 hp hs hE1 hb1 => LD_box3 hb1 ?_
  refine call (isNetwork_ok (h.ext hE1) hn.2.2.1) ?_
  rintro x w2 ⟨hx, hE2⟩
  have hE := hE1.trans hE2
  refine cond_not (fun hf => ⟨?_, hE⟩) (fun ht => ?_)
  · subst hf; simp at hx; exact ⟨by simp [hx], by simp [hx]⟩
  have hg := hx.1 ht
  refine LD_box3 (hb1.ext hE2) ?_
  refine call (isMatching_ok (h.ext hE) (hm.ext hE) hg) ?_
  rintro y w3 ⟨hy, hE3⟩
  exact ⟨⟨by rw [hy]; simp [hg], by simp [hg]⟩, hE.trans hE3⟩

theorem sIsMatching_ok {w : World} {a b c s : Sl} {n : Net} {m : List Int} (h : RNet w a b c n) (hm : R w s m) :
    Calls Try.prog F.s_IsMatching #[.agg #[a.v, b.v, c.v], s.v] w (Ret [.at .bool, .at .bool] fun (x y : Bool) w' => Ans2 (Good n) (MatchOk n.ends m) x y ∧ Ext w w') := by
  refine C_s_IsMatching ?_
  unfold V_s_IsMatching
  refine NEW_intro fun p w1 hp hs hE1 hb1 => LD_box3 hb1 ?_
  refine call (neGood_ok (h.ext hE1)) ?_
  rintro x w2 ⟨hx, hE2⟩
  have hE := hE1.trans hE2
  refine cond_not (fun hf => ⟨?_, hE⟩) (fun ht => ?_)
  · subst hf; simp at hx; exact ⟨by simp [hx], by simp [hx]⟩
  have hg := hx.1 ht
  refine LD_box3 (hb1.ext hE2) ?_
  refine call (mtIs_ok (h.ext hE) (hm.ext hE) hg) ?_
  rintro y w3 ⟨hy, hE3⟩
  exact ⟨⟨by rw [hy]; simp [hg], by simp [hg]⟩, hE.trans hE3⟩

theorem fnExactIsMatching_ok {w : World} {a b c s : Sl} {n : Net} {m : List Int} (h : RNet w a b c n) (hm : R w s m) :
    Calls Try.prog F.l_FnExactIsMatching #[.agg #[a.v, b.v, c.v], s.v] w (Ret [.at .bool] fun (x : Bool) w' => x = true ∧ Ext w w') := by
  refine C_l_FnExactIsMatching ?_
  unfold V_l_FnExactIsMatching
  refine NEW_intro fun p w1 hp hs hE1 hb1 => ?_
  rw [hm.len]
  refine cond_dec (fun _ => ⟨rfl, hE1⟩) (fun hml => ?_)
  have hml' : m.length ≤ 1048576 := by omega
  refine LD_box3 hb1 ?_
  refine call (szNetwork_ok (h.ext hE1)) ?_
  rintro z w2 ⟨hz, hE2⟩
  have hE02 := hE1.trans hE2
  refine cond_dec (fun _ => ⟨rfl, hE02⟩) (fun hzl => ?_)
  have hS := hz (by omega)
  have hb2 := hb1.ext hE2
  refine LD_box3 hb2 ?_
  refine call (toNetwork_ok (h.ext hE02) hS) ?_
  rintro x1 y1 z1 w3 ⟨hE3, hN3⟩
  have hE03 := hE02.trans hE3
  refine call (toIntS_ok (hm.ext hE03) hml') ?_
  rintro s4 w4 ⟨hE4, hO4⟩
  have hE04 := hE03.trans hE4
  have hR4 := (hO4.rep (flat_ok hm)).any
  refine call (sIsMatching_ok (hN3.ext hE4) hR4) ?_
  rintro r1 k1 w5 ⟨hA1, hE5⟩
  have hE05 := hE04.trans hE5
  have hb5 := ((hb2.ext hE3).ext hE4).ext hE5
  refine LD_box3 hb5 ?_
  refine call (toNetwork_ok (h.ext hE05) hS) ?_
  rintro x6 y6 z6 w6 ⟨hE6, hN6⟩
  have hE06 := hE05.trans hE6
  refine NEW_ST (one3 _ _ _) rfl fun p0 w8 hp0 hE8 hb0 => ?_
  have hE08 := hE06.trans hE8
  refine call (toIntS_ok (hm.ext hE08) hml') ?_
  rintro s9 w9 ⟨hE9, hO9⟩
  have hE09 := hE08.trans hE9
  have hR9 := (hO9.rep (flat_ok hm)).any
  have hb09 := hb0.ext hE9
  refine LD_box3 hb09 ?_
  have hN9 := (hN6.ext hE8).ext hE9
  refine call (IsMatching_ok hN9 hR9 hS) ?_
  rintro r2 k2 w10 ⟨hA2, hE10⟩
  obtain ⟨rfl, rfl⟩ := hA1.eq hA2
  refine cond_f (by simp) (cond_f (by simp) ?_)
  unfold V_l_FnExactIsMatching_k3
  intro w12 hE12 _
  have hE012 := hE09.trans (hE10.trans hE12)
  have hb12 := (((hb5.ext hE6).ext hE8).ext hE9).ext (hE10.trans hE12)
  refine LD_box3 (hb09.ext (hE10.trans hE12)) (LD_box3 hb12 ?_)
  refine ⟨Ext.refl _, call (toNetwork_ok (h.ext hE012) hS) ?_⟩
  rintro x13 y13 z13 w13 ⟨hE13, hN13⟩
  refine ⟨hE13, call (eqNetwork_ok (hN9.ext (hE10.trans (hE12.trans hE13))) hN13) ?_⟩
  rintro r w14 ⟨rfl, hE14⟩
  have hE014 := hE012.trans (hE13.trans hE14)
  refine ⟨hE13.trans hE14, ?_⟩
  show cond (!true) _ _
  refine call (toIntS_ok (hm.ext hE014) hml') ?_
  rintro s15 w15 ⟨hE15, hO15⟩
  refine call (eqIntS_ok (hR9.ext (hE10.trans (hE12.trans (hE13.trans (hE14.trans hE15))))) (hO15.rep (flat_ok hm)).any) ?_
  rintro r w16 ⟨rfl, hE16⟩
  refine cond_f (by simp) ⟨rfl, hE014.trans (hE15.trans hE16)⟩

end Go.Proofs.Ytghibjghjjnchaa
