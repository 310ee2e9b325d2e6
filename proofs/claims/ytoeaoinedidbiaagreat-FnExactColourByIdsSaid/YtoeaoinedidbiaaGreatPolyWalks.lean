/- A round of colours by polynomials, both sides. -/
import Derived.Test.YtoeaoinedidbiaaGreatPolyStep
import Derived.Test.YtoeaoinedidbiaaGreatPolyAt
import Derived.Test.YtoeaoinedidbiaaGreatHalve
import Derived.Test.YtoeaoinedidbiaaGreatRowsD
import Derived.Test.YtoeaoinedidbiaaGreatMat
namespace Go.Proofs.YtoeaoinedidbiaaGreat
open Go.GX Go.RowKit
set_option maxRecDepth 100000

theorem ixID {D : Nat → Prop} {w : World} {s : Sl} {l : List Int} (h : SlR D w s l) {i : Nat} (hi : i < l.length) {K : Addr → Prop}
    (hk : ∀ p, I64 l[i] → w.cell? p = some (.int .i64 l[i]) → D p.block → K p) : IX s i 1 K := by
  obtain ⟨a, cs, h1, h2, h3, h4⟩ := h.2.2 i l[i] (by simp [hi])
  obtain ⟨rfl, h64⟩ := h3
  refine ⟨a, h1, by omega, by rw [h.1]; omega, hk _ h64 ?_ (by rw [add_block]; exact h2)⟩
  have := h4 0 _ rfl
  simpa [Rep.sz] using this

/-! ### Digits and values -/

theorem nuValue_ok {w : World} {s : Sl} {zs : List Int} (hR : R w s zs) {q x : Int} (hq2 : 2 ≤ q) (hq : q ≤ 1000) (hx0 : 0 ≤ x) (hxq : x < q) (hl : zs.length ≤ 60) (hz : ∀ c ∈ zs, 0 ≤ c ∧ c < q) :
    Calls Tryz.prog F.s_nuValue #[.int .i64 q, s.v, .int .i64 x] w (Ret [.at (.int .i64)] fun (v : Int) w' => v = hvm q zs x ∧ w = w') := by
  refine C_s_nuValue ?_
  unfold V_s_nuValue
  rw [hR.len, wrap_of (by omega) (by omega)]
  refine ⟨fun out (i : Int) w' => ∃ m : Nat, m ≤ zs.length ∧ i = (m : Int) - 1 ∧ out = hvm q (zs.drop m) x ∧ w = w', fun _ i _ => (i + 1).toNat, ⟨zs.length, Nat.le_refl _, rfl, by simp [hvm], rfl⟩, ?_⟩
  rintro _ _ _ ⟨m, hm, rfl, rfl, rfl⟩
  intros
  refine cond_dec (fun hge => ?_) (fun hlt => ?_)
  rotate_left
  · have : m = 0 := by omega
    subst this
    exact ⟨rfl, rfl⟩
  obtain ⟨j, rfl⟩ : ∃ j, m = j + 1 := ⟨m - 1, by omega⟩
  have hj : j < zs.length := by omega
  rw [show ((j + 1 : Nat) : Int) - 1 = (j : Int) by omega]
  refine hR.ixI hj fun p h64 hc => LD_int hc ⟨by omega, ?_⟩
  have hd : zs.drop j = zs[j] :: zs.drop (j + 1) := List.drop_eq_getElem_cons hj
  have hr := hvm_range (x := x) (show 0 < q by omega) (zs.drop (j + 1))
  have hcj := hz _ (List.getElem_mem hj)
  have hms := mul_small hr.1 hr.2 hx0 hxq hq
  rw [wrap_of (n := hvm q (zs.drop (j + 1)) x * x) (by omega) (by omega), wrap_of (n := hvm q (zs.drop (j + 1)) x * x + zs[j]) (by omega) (by omega), wrap_of (n := (j : Int) - 1) (by omega) (by omega), Int.tmod_eq_emod_of_nonneg (by omega)]
  exact ⟨⟨j, by omega, rfl, by rw [hd, hvm], rfl⟩, by simp only; omega⟩

theorem nuDigits_ok {q c : Int} {m : Nat} (hq : 2 ≤ q) (hq2 : q ≤ 1000) (hc0 : 0 ≤ c) (hc : c ≤ 1000000000000) (hm : m ≤ 60) (w : World) :
    Calls Tryz.prog F.s_nuDigits #[.int .i64 c, .int .i64 q, .int .i64 m] w (Ret [.at .sl] fun (r : Sl) w' => Ext w w' ∧ OwnL w' w.heap.size T.t_int r (dg q m c)) := by
  refine C_s_nuDigits ?_
  unfold V_s_nuDigits
  refine RUN_make (α := Int) slt_int (d := 0) rfl (by omega) (by unfold maxLen; omega) fun r w1 hE1 hO1 => ?_
  rw [hO1.1, List.length_replicate]
  refine ⟨fun (n2 : Int) (i : Int) w' => ∃ j : Nat, i = j ∧ j ≤ m ∧ 0 ≤ n2 ∧ n2 ≤ c ∧ Ext w w' ∧ ∃ pre : List Int, pre.length = j ∧ pre ++ dg q (m - j) n2 = dg q m c ∧ OwnL w' w.heap.size T.t_int r (pre ++ List.replicate (m - j) 0), fun _ i _ => m - i.toNat,
    ⟨0, rfl, by omega, hc0, Int.le_refl _, hE1, [], rfl, rfl, by simpa using hO1⟩, ?_⟩
  rintro n2 _ w2 ⟨j, rfl, hj, hn0, hnc, hE, pre, hpl, hpre, hO⟩
  intros
  refine cond_dec (fun hlt => ?_) (fun hge => ?_)
  rotate_left
  · have : j = m := by omega
    subst this
    rw [Nat.sub_self] at hpre hO
    simp only [dg, List.append_nil] at hpre
    rw [List.replicate_zero, List.append_nil, hpre] at hO
    exact ⟨hE, hO⟩
  obtain ⟨t, ht⟩ : ∃ t, m - j = t + 1 := ⟨m - j - 1, by omega⟩
  have hlen : (pre ++ List.replicate (m - j) (0 : Int)).length = m := by simp; omega
  refine ⟨by omega, ?_⟩
  refine IX_own hO (by rw [hlen]; omega) rfl fun p hp => ?_
  refine ST_own hO (by rw [hlen]; omega) hp (Int.tmod n2 q) rfl fun w3 hO3 hs3 => ⟨by omega, ?_⟩
  have hdiv : 0 ≤ n2 / q := Int.ediv_nonneg hn0 (by omega)
  have hdle : n2 / q ≤ n2 := Int.ediv_le_self _ hn0
  rw [tdiv_nn hn0, wrap_of (n := n2 / q) (by omega) (by omega), wrap_of (n := (j : Int) + 1) (by omega) (by omega)]
  refine ⟨⟨j + 1, by omega, by omega, hdiv, by omega, hs3.ext0 hE (fun k hk => (hO.blk k hk).1), pre ++ [n2 % q], by simp [hpl], ?_, ?_⟩, by simp only; omega⟩
  · rw [ht, dg] at hpre
    rw [show m - (j + 1) = t by omega, List.append_assoc, ← hpre]
    rfl
  · rw [ht, List.replicate_succ, tmod_nn hn0, List.set_append_right _ _ (by omega), hpl, Nat.sub_self, List.set_cons_zero] at hO3
    rw [show m - (j + 1) = t by omega, List.append_assoc]
    exact hO3

theorem isWhole_ok (n : Int) (w : World) : Calls Tryz.prog F.i_isWhole #[.int .i64 n] w (Ret [.at .bool] fun (b : Bool) w' => b = inR n 0 1000000000000 ∧ w = w') := by
  refine C_i_isWhole ?_
  unfold V_i_isWhole
  exact within_ok _ _ _ _

theorem DigitsOf_ok {q c : Int} {m : Nat} (hq : 2 ≤ q) (hq2 : q ≤ 1000) (hc0 : 0 ≤ c) (hc : c ≤ 1000000000000) (hm : m ≤ 60) (hcq : c < q ^ m) (w : World) :
    Calls Tryz.prog F.i_DigitsOf #[.int .i64 c, .int .i64 q, .int .i64 m] w (Ret [.at .sl, .at .bool] fun (r : Sl) (_ : Bool) w' => Ext w w' ∧ OwnL w' w.heap.size T.t_int r (dg q m c)) := by
  refine C_i_DigitsOf ?_
  unfold V_i_DigitsOf
  refine call (isWhole_ok _ _) ?_
  rintro _ _ ⟨rfl, rfl⟩
  refine cond_not (fun hf => absurd ⟨hc0, hc⟩ (inR_false hf)) (fun _ => ?_)
  refine call (within_ok _ _ _ _) ?_
  rintro _ _ ⟨rfl, rfl⟩
  refine cond_not (fun hf => absurd ⟨hq, hq2⟩ (inR_false hf)) (fun _ => ?_)
  refine call (within_ok _ _ _ _) ?_
  rintro _ _ ⟨rfl, rfl⟩
  refine cond_not (fun hf => absurd ⟨by omega, by omega⟩ (inR_false hf)) (fun _ => ?_)
  unfold V_i_DigitsOf_k1
  refine ⟨fun (n2 : Int) out (i : Int) w' => ∃ j : Nat, i = j ∧ j ≤ m ∧ 0 ≤ n2 ∧ n2 ≤ c ∧ n2 < q ^ (m - j) ∧ Ext w w' ∧ ∃ pre : List Int, pre.length = j ∧ pre ++ dg q (m - j) n2 = dg q m c ∧ OwnL w' w.heap.size T.t_int out pre, fun _ _ i _ => m - i.toNat,
    ⟨0, rfl, by omega, hc0, Int.le_refl _, hcq, Ext.refl _, [], rfl, rfl, OwnL.nil _ _ _⟩, ?_⟩
  rintro n2 out _ w2 ⟨j, rfl, hj, hn0, hnc, hnq, hE, pre, hpl, hpre, hO⟩
  intros
  refine cond_dec (fun hlt => ?_) (fun hge => ?_)
  rotate_left
  · have : j = m := by omega
    subst this
    rw [Nat.sub_self] at hpre hnq
    simp only [dg, List.append_nil] at hpre
    subst hpre
    rw [Int.pow_zero] at hnq
    exact cond_dec (fun h => absurd h (by omega)) (fun _ => ⟨hE, hO⟩)
  obtain ⟨t, ht⟩ : ∃ t, m - j = t + 1 := ⟨m - j - 1, by omega⟩
  refine ⟨by omega, ?_⟩
  have hmod := Int.emod_nonneg n2 (show q ≠ 0 by omega)
  have hmod2 := Int.emod_lt_of_pos n2 (show 0 < q by omega)
  rw [tmod_nn hn0]
  refine RUN_lit1 (α := Int) slt_int (n2 % q) rfl (by decide) fun r3 w3 hE3 hO3 => ?_
  replace hE := hE.ext hE3
  replace hO := hO.ext hE3
  refine RUN_append (α := Int) slt_int hO hE.size_le (hO3.rep (by intro z hz; simp at hz; subst hz; show I64 _; unfold I64; omega)).any (by simp; omega) (by simp [maxLen]; omega) fun r' w4 hO4 hs4 => ⟨by omega, ?_⟩
  have hdiv : 0 ≤ n2 / q := Int.ediv_nonneg hn0 (by omega)
  have hdle : n2 / q ≤ n2 := Int.ediv_le_self _ hn0
  rw [tdiv_nn hn0, wrap_of (n := n2 / q) (by omega) (by omega), wrap_of (n := (j : Int) + 1) (by omega) (by omega)]
  refine ⟨⟨j + 1, by omega, by omega, hdiv, by omega, ?_, hs4.ext0 hE (fun k hk => (hO.blk k hk).1), pre ++ [n2 % q], by simp [hpl], ?_, hO4⟩, by simp only; omega⟩
  · rw [ht, Int.pow_succ] at hnq
    rw [show m - (j + 1) = t by omega]
    exact Int.ediv_lt_of_lt_mul (by omega) hnq
  · rw [ht, dg] at hpre
    rw [show m - (j + 1) = t by omega, List.append_assoc, ← hpre]
    rfl

/-! ### The reference's side -/

theorem valC_dg (q : Int) (d : Nat) (c : Int) (x : Nat) : hvm q (dg q (d + 1) c) x = valC q d c x := rfl

theorem clTake_ok {w : World} {s : Sl} {k a q own : Int} {d : Nat} {near : List Int} (hR : R w s near) (h : PP k a q d) (hk : k ≤ 1000000000000) (ha : 0 ≤ a ∧ a ≤ 6) (ho : 0 ≤ own ∧ own < k) (hn : ∀ c ∈ near, 0 ≤ c ∧ c < k ∧ c ≠ own) (hl : (near.length : Int) ≤ a) :
    Calls Tryz.prog F.s_clTake #[.int .i64 q, .int .i64 d, .int .i64 own, s.v] w (Ret [.at (.int .i64)] fun (v : Int) w' => v = takeC q d own near ∧ Ext w w') := by
  have hq2 := h.1.1
  have hq43 := h.le43 hk ha
  have hd := h.deg hk ha
  obtain ⟨ht1, ht2, ht3⟩ := take_spec h ho hn hl
  have hdr : ∀ c, ∀ y ∈ dg q (d + 1) c, 0 ≤ y ∧ y < q := fun c => dg_range (by omega) _ c
  have hd64 : ∀ c, ∀ y ∈ dg q (d + 1) c, I64 y := fun c y hy => by have := hdr c y hy; unfold I64; omega
  refine C_s_clTake ?_
  unfold V_s_clTake
  rw [wrap_of (n := (d : Int) + 1) (by omega) (by omega), show (d : Int) + 1 = ((d + 1 : Nat) : Int) by omega]
  refine call (nuDigits_ok hq2 (by omega) ho.1 (by omega) (by omega) w) ?_
  rintro r w1 ⟨hE1, hO1⟩
  have hR1 := (hO1.rep (hd64 own)).any
  refine ⟨fun (x : Int) w' => ∃ X : Nat, x = X ∧ X ≤ takeX q d own near ∧ Ext w1 w', fun x _ => takeX q d own near - x.toNat, ⟨0, rfl, by omega, Ext.refl _⟩, ?_⟩
  rintro _ w2 ⟨X, rfl, hX, hE2⟩
  intros
  refine call (nuValue_ok (hR1.ext hE2) hq2 (by omega) (by omega) (by omega) (by rw [dg_len]; omega) (hdr own)) ?_
  rintro _ _ ⟨rfl, rfl⟩
  rw [valC_dg, hR.len]
  refine ⟨fun (fr : Bool) (i : Int) w' => ∃ j : Nat, i = j ∧ j ≤ near.length ∧ Ext w1 w' ∧ fr = (near.take j).all (fun c => valC q d c X != valC q d own X), fun _ i _ => near.length - i.toNat, ⟨0, rfl, by omega, hE2, by simp⟩, ?_⟩
  rintro fr _ w4 ⟨j, rfl, hj, hE4, hfr⟩
  intros
  refine cond_dec (fun hlt => ?_) (fun hge => ?_)
  · have hj' : j < near.length := by omega
    have hE14 := hE1.trans hE4
    refine (hR.ext hE14).ixI hj' fun p h64 hc => LD_int hc ?_
    have hnext : (near.take (j + 1)).all (fun c => valC q d c X != valC q d own X) = (fr && (valC q d near[j] X != valC q d own X)) := by
      rw [List.take_succ_eq_append_getElem hj', List.all_append, ← hfr]; simp
    have hw : IntKind.i64.wrap ((j : Int) + 1) = ((j + 1 : Nat) : Int) := by rw [wrap_of (by omega) (by omega)]; omega
    rw [hw]
    refine cond_b (fun hft => ?_) (fun hff => ?_)
    · have hnj := hn _ (List.getElem_mem hj')
      refine call (nuDigits_ok hq2 (by omega) hnj.1 (by omega) (by omega) w4) ?_
      rintro r5 w5 ⟨hE5, hO5⟩
      refine call (nuValue_ok (hO5.rep (hd64 _)).any hq2 (by omega) (by omega) (by omega) (by rw [dg_len]; omega) (hdr _)) ?_
      rintro _ _ ⟨rfl, rfl⟩
      rw [valC_dg]
      exact ⟨⟨j + 1, rfl, by omega, hE4.trans hE5, by rw [hnext, hft, Bool.true_and]⟩, by simp only; omega⟩
    · exact ⟨⟨j + 1, rfl, by omega, hE4, by rw [hnext, hff, Bool.false_and]⟩, by simp only; omega⟩
  · have hjn : j = near.length := by omega
    subst hjn
    rw [List.take_length] at hfr
    have hfr' : fr = freeAt q d own near X := hfr
    have hv := valC_range (show 0 < q by omega) d own X
    refine cond_b (fun hft => ?_) (fun hff => ?_)
    · have hXe : X = takeX q d own near := by
        rcases Nat.lt_or_eq_of_le hX with hlt | heq
        · rw [hfr', ht3 X hlt] at hft; cases hft
        · exact heq
      have h6 : (X : Int) * q ≤ 43 * 43 := Int.mul_le_mul (by omega) hq43 (by omega) (by omega)
      have h7 : 0 ≤ (X : Int) * q := Int.mul_nonneg (by omega) (by omega)
      rw [wrap_of (n := (X : Int) * q) (by omega) (by omega), wrap_of (by omega) (by omega)]
      refine ⟨?_, hE1.trans hE4⟩
      unfold takeC
      rw [← hXe]
    · have hlt : X < takeX q d own near := by
        rcases Nat.lt_or_eq_of_le hX with hlt | heq
        · exact hlt
        · rw [hfr', heq, ht2] at hff; cases hff
      rw [wrap_of (n := (X : Int) + 1) (by omega) (by omega)]
      exact ⟨⟨X + 1, by omega, by omega, hE4⟩, by simp only; omega⟩

theorem stepAt_I64 {n : Net} {l : List Int} {k a q : Int} {d : Nat} (hC : ColK n l k a) (hP : PP k a q d) : ∀ x ∈ stepP n.ends q d l, I64 x := fun x hx => by
  have := (step_colK hC hP).all x hx
  have h43 := hP.le43 hC.pal.2 hC.bound
  have h2 := hP.1.1
  have : q * q ≤ 43 * 43 := Int.mul_le_mul h43 h43 (by omega) (by omega)
  unfold I64; omega

theorem ColK.proper {n : Net} {l : List Int} {k a : Int} (h : ColK n l k a) : (∀ x ∈ l, I64 x) ∧ l.length ≤ 40 := by
  have h1 := h.len
  have h2 := h.good.size.2
  refine ⟨fun x hx => ?_, by omega⟩
  have := h.all x hx
  have := h.pal
  unfold I64; omega

theorem stepP_take (E : Ends) (q : Int) (d : Nat) (l : List Int) {v : Nat} (hv : v < E.length) : (stepP E q d l).take (v + 1) = (stepP E q d l).take v ++ [takeC q d (l.getD v 0) (nearOf E l v)] := by
  have hl : v < (stepP E q d l).length := by simp [stepP]; exact hv
  rw [List.take_succ_eq_append_getElem hl]
  simp [stepP, stepAt]

theorem clStep_ok {w : World} {a b c s : Sl} {n : Net} {l : List Int} {k g q : Int} {d : Nat} (h : RNet w a b c n) (hl : R w s l) (hC : ColK n l k g) (hP : PP k g q d) :
    Calls Tryz.prog F.s_clStep #[.agg #[a.v, b.v, c.v], s.v, .int .i64 q, .int .i64 d] w (Ret [.at .sl] fun (r : Sl) w' => Ext w w' ∧ OwnL w' w.heap.size T.t_int r (stepP n.ends q d l)) := by
  have hg := hC.good
  have h40 := hg.size.2
  have hlen := hC.len
  have hok := stepAt_I64 hC hP
  have hl40 : (stepP n.ends q d l).length = n.ends.length := by simp [stepP]
  refine C_s_clStep ?_
  unfold V_s_clStep
  refine NEW_intro fun p w1 hp hs hE hb1 => LD_bs0 hb1 ?_
  replace h := h.ext hE
  replace hl := hl.ext hE
  rw [h.1.len]
  have hsz := hE.size_le
  refine ⟨IN2 n.ends.length fun v out w' => Ext w1 w' ∧ OwnL w' w1.heap.size T.t_int out ((stepP n.ends q d l).take v), MN2 n.ends.length, IN2_zero ⟨Ext.refl _, by simpa using OwnL.nil _ _ _⟩, ?_⟩
  rintro out _ w2 ⟨v, rfl, hv, hE2, hO⟩
  intros
  refine cond_dec (fun hlt => ?_) (fun hge => ?_)
  rotate_left
  · have : v = n.ends.length := by omega
    subst this
    rw [← hl40, List.take_length] at hO
    exact ⟨hE.trans hE2, hO.low hsz⟩
  have hv' : v < n.ends.length := by omega
  intro w3 hE3 _
  replace hE2 := hE2.ext hE3
  replace hO := hO.ext hE3
  have hvl : v < l.length := by omega
  have hlb := hl.below.ext hE2
  have hnb : ∀ b, b < w1.heap.size → ¬ oB out b := fun b hb hh => by have := (hO.blk b hh).1; omega
  refine ⟨oB out, ixID hlb hvl fun q1 h64 hc hb => ⟨hnb _ hb.2, LD_int hc ⟨hnb _ hb1.lt, LD_box3 (hb1.ext hE2) ⟨Chg.refl _ _, ?_⟩⟩⟩⟩
  refine call (neNear_ok (h.ext hE2) hg hv') ?_
  rintro r4 w4 ⟨hE4, hO4⟩
  refine ⟨.of_ext hE4, call (through_ok ((h.ext hE2).ext hE4) ((hl.ext hE2).ext hE4) hg hlen hv' hO4) ?_⟩
  rintro r5 w5 ⟨hE5, hO5⟩
  have hE35 := hE4.trans hE5
  obtain ⟨hn1, hn2, hn3⟩ := hC.near hv'
  have hgv : l.getD v 0 = l[v] := by simp [hvl]
  refine ⟨.of_ext hE35, call (clTake_ok (hO5.rep (near_I64 hg hC.proper.1 hlen hv')).any hP hC.pal.2 hC.bound (by rw [← hgv]; exact hn3) (by rw [← hgv]; exact hn1) hn2) ?_⟩
  rintro _ w6 ⟨rfl, hE6⟩
  have hE36 := hE35.trans hE6
  refine ⟨.of_ext hE36, ?_⟩
  have htk := stepP_take n.ends q d l hv'
  have h64t : I64 (takeC q d l[v] (nearOf n.ends l v)) := by
    rw [← hgv]
    exact hok _ (by rw [List.mem_iff_getElem]; exact ⟨v, by rw [hl40]; exact hv', by simp [stepP, stepAt]⟩)
  refine RUN_lit1 (α := Int) slt_int (takeC q d l[v] (nearOf n.ends l v)) rfl (by decide) fun r7 w7 hE7 hO7 => ?_
  have hE37 := hE36.trans hE7
  refine ⟨.of_ext hE37, ?_⟩
  refine RUN_append (α := Int) slt_int (hO.ext hE37) (Nat.le_trans hE2.size_le hE37.size_le) (hO7.rep (by intro z hz; simp at hz; subst hz; exact h64t)).any (by simp; omega) (by simp [maxLen]; omega) fun r' w8 hO8 hs8 => ?_
  refine ⟨(Chg.of_ext hE37).trans (.of_step hs8 fun k hk => hk), ?_⟩
  refine IN2_next (by omega) hv' ⟨hs8.ext0 (hE2.trans hE37) (fun k hk => ((hO.ext hE37).blk k hk).1), ?_⟩
  rw [htk, hgv]
  exact hO8

end Go.Proofs.YtoeaoinedidbiaaGreat
