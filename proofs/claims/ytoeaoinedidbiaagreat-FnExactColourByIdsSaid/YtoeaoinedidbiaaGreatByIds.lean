/- Colours by identifiers, both sides. -/
import Derived.Test.YtoeaoinedidbiaaGreatByIdsPure
import Derived.Test.YtoeaoinedidbiaaGreatPolyProg
namespace Go.Proofs.YtoeaoinedidbiaaGreat
open Go.GX Go.RowKit
set_option maxRecDepth 100000

theorem PP.qq {k a q : Int} {d : Nat} (h : PP k a q d) (hk : k ≤ 1000000000000) (ha : 0 ≤ a ∧ a ≤ 6) : 0 ≤ q * q ∧ q * q ≤ 1849 := by
  have hq2 := h.1.1
  have hq43 := h.le43 hk ha
  exact ⟨Int.mul_nonneg (by omega) (by omega), by have : q * q ≤ 43 * 43 := Int.mul_le_mul hq43 hq43 (by omega) (by omega); omega⟩

theorem ColsOk.len40 {n : Net} {a : Int} {l : List Int} (h : ColsOk n a l) : l.length ≤ 40 := by
  have := h.len; have := h.good.size.2; omega

theorem most2_nn (x : Int) : 0 ≤ most2 x 0 ∧ (0 ≤ x → most2 x 0 = x) ∧ (x ≤ 0 → most2 x 0 = 0) := by
  unfold most2
  split <;> omega

theorem wrap_pal {a : Int} (ha : 0 ≤ a ∧ a ≤ 6) : IntKind.i64.wrap (2 * IntKind.i64.wrap (a + 1)) = 2 * (a + 1) := by
  rw [wrap_of (n := a + 1) (by omega) (by omega), wrap_of (by omega) (by omega)]

theorem ColourByIds_ok {w : World} {a b c : Sl} {n : Net} {d : Int} (h : RNet w a b c n) (_ : I64 d) (hn : Small n) :
    Calls Tryz.prog F.i_ColourByIds #[.agg #[a.v, b.v, c.v], .int .i64 d] w (Ret [.at .sl, .at (.int .i64), .at .bool] fun (r : Sl) (x : Int) (y : Bool) w' => Ext w w' ∧ ∃ m, OutL w.heap.size w' r m ∧ AnsIds n d (m, x) y) := by
  refine C_i_ColourByIds ?_
  unfold V_i_ColourByIds
  refine NEW_intro fun p w1 hp hs hE hb1 => LD_box3 hb1 ?_
  replace h := h.ext hE
  refine call (isNetwork_ok h hn.2.2.1) ?_
  rintro x w2 ⟨hx, hE2⟩
  replace hE := hE.ext hE2
  replace h := h.ext hE2
  replace hb1 := hb1.ext hE2
  refine cond_not (fun hf => ⟨hE, [], OutL.nil _ _, .none fun hA => ?_⟩) (fun ht => LD_bs1 hb1 ?_)
  · rw [hx.2 hA.pal.good] at hf; cases hf
  rw [h.2.1.len]
  refine cond_eq (fun h0 => ⟨hE, [], OutL.nil _ _, .none fun hA => hA.some (List.eq_nil_of_length_eq_zero (by have h0' : ((n.ids.length : Nat) : Int) = 0 := h0; omega))⟩) (fun hne => ?_)
  refine LD_box3 hb1 (LD_bs1 hb1 ?_)
  refine call (paletteOk_ok h h.2.1 hn) ?_
  rintro y w4 ⟨hy, hE4⟩
  replace hE := hE.ext hE4
  replace h := h.ext hE4
  replace hb1 := hb1.ext hE4
  refine cond_not (fun hf => ⟨hE, [], OutL.nil _ _, .none fun hA => ?_⟩) (fun ht2 => ?_)
  · rw [hy.2 hA.pal] at hf; cases hf
  have hPal := hy.1 ht2
  have hA : IdsAskedC n d := ⟨fun he => hne (by rw [he]; rfl), hPal⟩
  have hbd := hPal.bound
  have hC0 := hPal.colK
  have h40 := hC0.proper.2
  unfold V_i_ColourByIds_k1
  refine LD_bs1 hb1 ?_
  refine call (clone_ok h.2.1 (by omega)) ?_
  rintro r5 w5 ⟨hE5, hO5⟩
  have hz := hE.size_le
  refine ⟨fun (k : Int) sl (r : Int) w' => ∃ j t, It1 n.ends d ⟨n.ids, 1000000, 0⟩ j t ∧ t.k = k ∧ t.r = r ∧ ColK n t.l k d ∧ OwnL w' w.heap.size T.t_int sl t.l ∧ Ext w4 w' ∧ 0 ≤ r ∧ r + 7 * k ≤ 7000000, fun k _ _ _ => k.toNat,
    ⟨0, ⟨n.ids, 1000000, 0⟩, rfl, rfl, rfl, hC0, hO5.low hz, hE5, by omega, by omega⟩, ?_⟩
  rintro k sl r w6 ⟨j, t, hIt, rfl, rfl, hC, hO6, hE6, hr0, hr7⟩
  intros
  have hkp := hC.pal
  refine call (polynomialParameters_ok t.k d hkp.1 hkp.2 hbd.1 hbd.2 w6) ?_
  rintro q _ _ ⟨⟨e, rfl, hP⟩, rfl⟩
  change Int at q
  have hqq := hP.qq hkp.2 hbd
  rw [wrap_of (n := q * q) (by omega) (by omega)]
  refine cond_dec (fun hge => ?_) (fun hlt => ?_)
  rotate_left
  · refine LD_box3 (hb1.ext hE6) ?_
    refine call (polynomialStep_ok (h.ext hE6) (hO6.rep hC.proper.1).any hC) ?_
    rintro r8 x w8 ⟨q', e', hP', rfl, hE8, hO8⟩
    obtain ⟨rfl, rfl⟩ := PP_unique hP hP'
    rw [wrap_of (n := t.r + 1) (by omega) (by omega)]
    refine ⟨⟨j + 1, ⟨stepP n.ends q e t.l, q * q, t.r + 1⟩, ⟨t, hIt, q, e, hP, by omega, rfl⟩, rfl, rfl, step_colK hC hP, hO8.low (Nat.le_trans hz hE6.size_le), hE6.trans hE8, by omega, by omega⟩, ?_⟩
    show (q * q).toNat < t.k.toNat
    omega
  have hst : Stop1 d t := ⟨q, e, hP, by omega⟩
  rw [wrap_pal hbd]
  refine ⟨fun (k : Int) sl (r : Int) w' => ∃ i, (it2 n.ends d t i).k = k ∧ (it2 n.ends d t i).r = r ∧ HalOk n d (it2 n.ends d t i).l ∧ OwnL w' w.heap.size T.t_int sl (it2 n.ends d t i).l ∧ Ext w4 w' ∧ (∀ s < i, (it2 n.ends d t s).k > 2 * (d + 1)) ∧ 0 ≤ k ∧ k ≤ 1000000 ∧ 0 ≤ r ∧ r + 7 * k ≤ 7000000, fun k _ _ _ => k.toNat,
    ⟨0, rfl, rfl, hC.hal, hO6, hE6, fun s hs => absurd hs (by omega), by omega, by omega, hr0, hr7⟩, ?_⟩
  rintro k2 sl2 r2 w9 ⟨i, rfl, rfl, hH, hO9, hE9, hall, hk0, hk1, hr0', hr7'⟩
  intros
  have hRl := (hO9.rep hH.i64).any
  refine cond_dec (fun hgt => ?_) (fun hng => ?_)
  · refine LD_box3 (hb1.ext hE9) ?_
    refine call (halveColours_ok (h.ext hE9) hRl hH hbd ⟨hk0, by omega⟩) ?_
    rintro r10 x w10 ⟨hE10, hO10, rfl⟩
    have hpl := pal_less hbd hgt
    rw [wrap_of (n := d + 1) (by omega) (by omega), wrap_of (n := (it2 n.ends d t i).r + (d + 1)) (by omega) (by omega)]
    refine ⟨⟨i + 1, rfl, rfl, hH.half hbd, hO10.low (Nat.le_trans hz hE9.size_le), hE9.trans hE10, all_succ hall hgt, by omega, by omega, by omega, by omega⟩, ?_⟩
    show (palOf d _).toNat < (it2 n.ends d t i).k.toNat
    omega
  · refine LD_box3 (hb1.ext hE9) ?_
    refine call (greedyReduce_ok (h.ext hE9) hRl hH.toColsOk hbd ⟨hk0, by omega⟩) ?_
    rintro r11 x w11 ⟨hE11, hO11, rfl, hCo⟩
    have hm := most2_nn ((it2 n.ends d t i).k - d - 1)
    have hm1 : most2 ((it2 n.ends d t i).k - d - 1) 0 ≤ 1000000 := by unfold most2; split <;> omega
    rw [wrap_of (by omega) (by omega)]
    refine ⟨hE.trans (hE9.trans hE11), _, ⟨hO11.low (Nat.le_trans hz hE9.size_le), hCo.i64, by have := hCo.len40; omega⟩, ⟨by simp [hA], fun _ => ⟨j, t, i, hIt, hst, ⟨hall, hng⟩, rfl⟩, fun h => by cases h⟩⟩

theorem sColourByIds_ok {w : World} {a b c : Sl} {n : Net} {d : Int} (h : RNet w a b c n) (_ : I64 d) :
    Calls Tryz.prog F.s_ColourByIds #[.agg #[a.v, b.v, c.v], .int .i64 d] w (Ret [.at .sl, .at (.int .i64), .at .bool] fun (r : Sl) (x : Int) (y : Bool) w' => Ext w w' ∧ ∃ m, R w' r m ∧ AnsIds n d (m, x) y) := by
  refine C_s_ColourByIds ?_
  unfold V_s_ColourByIds
  refine NEW_intro fun p w1 hp hs hE hb1 => LD_box3 hb1 ?_
  replace h := h.ext hE
  refine call (neGood_ok h) ?_
  rintro x w2 ⟨hx, hE2⟩
  replace hE := hE.ext hE2
  replace h := h.ext hE2
  replace hb1 := hb1.ext hE2
  refine cond_not (fun hf => ⟨hE, [], (OutL.nil 0 _).rep, .none fun hA => ?_⟩) (fun ht => LD_bs1 hb1 ?_)
  · rw [hx.2 hA.pal.good] at hf; cases hf
  rw [h.2.1.len]
  refine cond_eq (fun h0 => ⟨hE, [], (OutL.nil 0 _).rep, .none fun hA => hA.some (List.eq_nil_of_length_eq_zero (by have h0' : ((n.ids.length : Nat) : Int) = 0 := h0; omega))⟩) (fun hne => ?_)
  refine LD_box3 hb1 (LD_bs1 hb1 ?_)
  refine call (clAsked_ok h h.2.1) ?_
  rintro y w4 ⟨hy, hE4⟩
  replace hE := hE.ext hE4
  replace h := h.ext hE4
  replace hb1 := hb1.ext hE4
  refine cond_not (fun hf => ⟨hE, [], (OutL.nil 0 _).rep, .none fun hA => ?_⟩) (fun ht2 => ?_)
  · rw [hy.2 hA.pal] at hf; cases hf
  have hPal := hy.1 ht2
  have hA : IdsAskedC n d := ⟨fun he => hne (by rw [he]; rfl), hPal⟩
  have hbd := hPal.bound
  have hC0 := hPal.colK
  refine LD_box3 hb1 ?_
  refine call (rs := [.at .sl, .at (.int .i64)]) (Q := fun (r : Sl) (x : Int) w' => Ext w w' ∧ ∃ m, R w' r m ∧ AnsIds n d (m, x) true) ?_ ?_
  rotate_left
  · rintro r x w5 ⟨hE5, m, hm, hAn⟩
    exact ⟨hE5, m, hm, hAn⟩
  refine C_s_clByIds ?_
  unfold V_s_clByIds
  refine NEW_intro fun p2 u1 hp2 hs2 hU hb2 => LD_bs1 hb2 ?_
  replace hE := hE.ext hU
  replace h := h.ext hU
  refine call (clParameters_ok 1000000 d (by omega) (by omega) hbd.1 hbd.2 u1) ?_
  rintro q0 _ _ ⟨⟨e0, rfl, hP0⟩, rfl⟩
  refine ⟨fun sl (k : Int) (r : Int) (q : Int) (dd : Int) w' => ∃ j t, It1 n.ends d ⟨n.ids, 1000000, 0⟩ j t ∧ t.k = k ∧ t.r = r ∧ (∃ e : Nat, dd = e ∧ PP k d q e) ∧ ColK n t.l k d ∧ R w' sl t.l ∧ Ext u1 w' ∧ 0 ≤ r ∧ r + 7 * k ≤ 7000000, fun _ k _ _ _ _ => k.toNat,
    ⟨0, ⟨n.ids, 1000000, 0⟩, rfl, rfl, rfl, ⟨e0, rfl, hP0⟩, hC0, h.2.1, Ext.refl _, by omega, by omega⟩, ?_⟩
  rintro sl k r q _ w6 ⟨j, t, hIt, rfl, rfl, ⟨e, rfl, hP⟩, hC, hO6, hE6, hr0, hr7⟩
  intros
  have hkp := hC.pal
  have hqq := hP.qq hkp.2 hbd
  rw [wrap_of (n := q * q) (by omega) (by omega)]
  refine cond_dec (fun hlt => ?_) (fun hge => ?_)
  · refine LD_box3 (hb2.ext hE6) ?_
    refine call (clStep_ok (h.ext hE6) hO6 hC hP) ?_
    rintro r8 w8 ⟨hE8, hO8⟩
    have hCn := step_colK hC hP
    refine call (clParameters_ok (q * q) d hCn.pal.1 hCn.pal.2 hbd.1 hbd.2 w8) ?_
    rintro q' _ _ ⟨⟨e', rfl, hP'⟩, rfl⟩
    rw [wrap_of (n := t.r + 1) (by omega) (by omega)]
    refine ⟨⟨j + 1, ⟨stepP n.ends q e t.l, q * q, t.r + 1⟩, ⟨t, hIt, q, e, hP, hlt, rfl⟩, rfl, rfl, ⟨e', rfl, hP'⟩, hCn, (hO8.rep hCn.proper.1).any, hE6.trans hE8, by omega, by omega⟩, ?_⟩
    show (q * q).toNat < t.k.toNat
    omega
  have hst : Stop1 d t := ⟨q, e, hP, hge⟩
  rw [wrap_pal hbd]
  refine ⟨fun sl (k : Int) (r : Int) w' => ∃ i, (it2 n.ends d t i).k = k ∧ (it2 n.ends d t i).r = r ∧ HalOk n d (it2 n.ends d t i).l ∧ R w' sl (it2 n.ends d t i).l ∧ Ext u1 w' ∧ (∀ s < i, (it2 n.ends d t s).k > 2 * (d + 1)) ∧ 0 ≤ k ∧ k ≤ 1000000 ∧ 0 ≤ r ∧ r + 7 * k ≤ 7000000, fun _ k _ _ => k.toNat,
    ⟨0, rfl, rfl, hC.hal, hO6, hE6, fun s hs => absurd hs (by omega), by omega, by omega, hr0, hr7⟩, ?_⟩
  rintro sl2 k2 r2 w9 ⟨i, rfl, rfl, hH, hRl, hE9, hall, hk0, hk1, hr0', hr7'⟩
  intros
  refine cond_dec (fun hgt => ?_) (fun hng => ?_)
  · refine LD_box3 (hb2.ext hE9) ?_
    refine call (clHalve_ok (h.ext hE9) hRl hH hbd ⟨hk0, by omega⟩) ?_
    rintro r10 x w10 ⟨hE10, hO10, rfl⟩
    have hpl := pal_less hbd hgt
    rw [wrap_of (n := d + 1) (by omega) (by omega), wrap_of (n := (it2 n.ends d t i).r + (d + 1)) (by omega) (by omega)]
    refine ⟨⟨i + 1, rfl, rfl, hH.half hbd, hO10, hE9.trans hE10, all_succ hall hgt, by omega, by omega, by omega, by omega⟩, ?_⟩
    show (palOf d _).toNat < (it2 n.ends d t i).k.toNat
    omega
  · refine LD_box3 (hb2.ext hE9) ?_
    refine call (clGreedy_ok (h.ext hE9) hRl hH.toColsOk hbd ⟨hk0, by omega⟩) ?_
    rintro r11 x w11 ⟨hE11, hO11, rfl, hCo⟩
    have hm := most2_nn ((it2 n.ends d t i).k - d - 1)
    have hm1 : most2 ((it2 n.ends d t i).k - d - 1) 0 ≤ 1000000 := by unfold most2; split <;> omega
    rw [wrap_of (by omega) (by omega)]
    exact ⟨hE.trans (hE9.trans hE11), _, hO11, ⟨by simp [hA], fun _ => ⟨j, t, i, hIt, hst, ⟨hall, hng⟩, rfl⟩, fun h => by cases h⟩⟩

end Go.Proofs.YtoeaoinedidbiaaGreat
