/- The first one of the least vertex covers, both sides. -/
import Derived.Test.YtoeaoinedidbiaaSubsets
import Derived.Test.YtoeaoinedidbiaaSets
import Derived.Test.YtoeaoinedidbiaaMark
import Derived.Test.YtoeaoinedidbiaaCopy
namespace Go.Proofs.Ytoeaoinedidbiaa
open Go.GX Go.RowKit
set_option maxRecDepth 100000

def covB (E : Ends) (l : List Int) : Bool := (edgesOf E).all fun q => l.contains q.1 || l.contains q.2.2.1

theorem covB_iff {E : Ends} {l : List Int} : covB E l = true ↔ Cover E l := by
  unfold covB Cover
  rw [List.all_eq_true]
  refine forall_congr' fun q => forall_congr' fun _ => ?_
  rw [Bool.or_eq_true, List.contains_iff_mem, List.contains_iff_mem]

theorem covB_bool {E : Ends} {l : List Int} {x : Bool} (h : x = true ↔ Cover E l) : x = covB E l := by
  rw [← covB_iff] at h
  cases x <;> cases hc : covB E l <;> simp_all

theorem cov_full {n : Net} (hg : Good n) : covB n.ends (upTo n.ends.length) = true := by
  rw [covB_iff]
  intro q hq
  obtain ⟨v, i, x, y, rfl, _, _, hv, hx, _, _⟩ := edge_at hg hq
  left
  unfold upTo
  exact List.mem_map.2 ⟨v, List.mem_range.2 hv, rfl⟩

/-! ### Numbers of subsets -/

theorem two14 {n : Nat} (h : n ≤ 14) : 2 ^ n ≤ 16384 := by
  have := Nat.pow_le_pow_right (n := 2) (by omega) h
  omega

theorem rowAt_I64 {k t i : Nat} (ht : t ≤ 14) : ∀ x ∈ rowAt k t i, 0 ≤ x ∧ x ≤ 32768 := by
  intro x hx
  obtain ⟨j, hj, rfl⟩ := List.mem_map.1 hx
  have h1 := ch_le t j
  have h2 := ch_le (t + 1) j
  have h3 := two14 ht
  rw [Nat.pow_succ] at h2
  split <;> omega

theorem binomial_ok (n k : Nat) (hn : n ≤ 14) (w : World) :
    Calls Try.prog F.i_binomial #[.int .i64 n, .int .i64 k] w (Ret [.at (.int .i64)] fun (r : Int) w' => r = ch n k ∧ Ext w w') := by
  refine C_i_binomial ?_
  unfold V_i_binomial
  refine cond_dec (fun h => absurd h (by omega)) (fun _ => ?_)
  refine cond_dec (fun h => ⟨by rw [ch_over n k (by omega)]; rfl, Ext.refl _⟩) (fun hle => ?_)
  unfold V_i_binomial_k1
  rw [wrap_of (by omega) (by omega)]
  refine RUN_make (α := Int) slt_int (d := 0) (n := k + 1) rfl (by omega) (by unfold maxLen; omega) fun s w1 hE1 hO1 => ?_
  refine IX_own hO1 (by simp) rfl fun q hq => ?_
  refine ST_own hO1 (by simp) hq 1 rfl fun w2 hO2 hs2 => ?_
  have hE2 := hs2.ext0 hE1 (fun k hk => (hO1.blk k hk).1)
  rw [rowAt_start] at hO2
  refine ⟨IN n fun t w' => Ext w w' ∧ OwnL w' w.heap.size T.t_int s (rowAt k t k), MN n, IN_zero ⟨hE2, hO2⟩, ?_⟩
  rintro _ w3 ⟨t, rfl, ht, hE3, hO3⟩
  intros
  refine cond_dec (fun hlt => ?_) (fun hge => ?_)
  rotate_left
  · have : t = n := by omega
    subst this
    have hR := (hO3.rep fun x hx => by have := rowAt_I64 hn x hx; show I64 x; unfold I64; omega).any
    refine hR.ixI (i := k) (by rw [rowAt_len]; omega) fun q _ hc => LD_int hc ⟨?_, hE3⟩
    rw [rowAt_get (Nat.le_refl k), if_pos (Nat.le_refl k)]
  have ht' : t < n := by omega
  refine ⟨fun (x : Int) w' => ∃ i : Nat, x = i ∧ i ≤ k ∧ Ext w w' ∧ OwnL w' w.heap.size T.t_int s (rowAt k t i), fun x _ => x.toNat, ⟨k, rfl, Nat.le_refl _, hE3, hO3⟩, ?_⟩
  rintro _ w4 ⟨i, rfl, hi, hE4, hO4⟩
  intros
  refine cond_dec (fun hpos => ?_) (fun hnp => ?_)
  · obtain ⟨j, rfl⟩ : ∃ j, i = j + 1 := ⟨i - 1, by omega⟩
    intro w5 hE5 _
    replace hE4 := hE4.ext hE5
    replace hO4 := hO4.ext hE5
    have hR := (hO4.rep fun x hx => by have := rowAt_I64 (by omega) x hx; show I64 x; unfold I64; omega).any
    refine ⟨fun _ => False, hR.ixI (i := j + 1) (by rw [rowAt_len]; omega) fun q _ hc => ⟨not_false, LD_int hc ⟨Chg.refl _ _, Chg.refl _ _, ?_⟩⟩⟩
    rw [show ((j + 1 : Nat) : Int) - 1 = (j : Int) by omega, wrap_of (n := (j : Int)) (by omega) (by omega)]
    refine hR.ixI (i := j) (by rw [rowAt_len]; omega) fun q2 _ hc2 => ⟨Chg.refl _ _, LD_int hc2 ⟨Chg.refl _ _, Chg.refl _ _, ?_⟩⟩
    refine IX_own hO4 (i := j + 1) (by rw [rowAt_len]; omega) rfl fun q3 hq3 => ?_
    rw [rowAt_get (by omega), rowAt_get (by omega), if_pos (Nat.le_refl _), if_pos (by omega)]
    have h1 := ch_le t (j + 1)
    have h2 := ch_le t j
    have h3 := two14 (n := t) (by omega)
    rw [wrap_of (by omega) (by omega)]
    refine ST_own hO4 (by rw [rowAt_len]; omega) hq3 ((ch t (j + 1) : Int) + (ch t j : Int)) rfl fun w6 hO6 hs6 => ?_
    rw [rowAt_set (by omega)] at hO6
    exact ⟨⟨j, rfl, by omega, hs6.ext0 hE4 (fun k hk => (hO4.blk k hk).1), hO6⟩, by simp only; omega⟩
  · have : i = 0 := by omega
    subst this
    rw [rowAt_next] at hO4
    exact IN_next (by omega) ht' ⟨hE4, hO4⟩

/-! ### One subset -/

theorem subs_I64 {n s r : Nat} {l : List Int} (hn : n ≤ 14) (h : (subs n 0 s)[r]? = some l) : (∀ x ∈ l, I64 x) ∧ l.length = s := by
  obtain ⟨h1, h2⟩ := mem_subs n 0 s (List.mem_of_getElem? h)
  exact ⟨fun x hx => by have := h2 x hx; unfold I64; omega, h1⟩

theorem subsetAt_ok {n s r : Nat} {l : List Int} (hn : n ≤ 14) (hs : s ≤ n) (h : (subs n 0 s)[r]? = some l) (w : World) :
    Calls Try.prog F.i_subsetAt #[.int .i64 n, .int .i64 s, .int .i64 r] w (Ret [.at .sl] fun (q : Sl) w' => Ext w w' ∧ OwnL w' w.heap.size T.t_int q l) := by
  refine C_i_subsetAt ?_
  unfold V_i_subsetAt
  obtain ⟨hl64, hll⟩ := subs_I64 hn h
  refine ⟨fun (r2 : Int) out (x : Int) w' => ∃ rr xx : Nat, ∃ o rest : List Int, r2 = rr ∧ x = xx ∧ xx ≤ n ∧ Ext w w' ∧ OwnL w' w.heap.size T.t_int out o ∧ o ++ rest = l ∧ (subs (n - xx) xx (s - o.length))[rr]? = some rest, fun _ _ x _ => n - x.toNat,
    ⟨r, 0, [], l, rfl, rfl, by omega, Ext.refl _, OwnL.nil _ _ _, rfl, by simpa using h⟩, ?_⟩
  rintro _ out _ w1 ⟨rr, xx, o, rest, rfl, rfl, hxx, hE, hO, hol, hsub⟩
  intros
  have hlen : o.length + rest.length = s := by rw [← hll, ← hol, List.length_append]
  rw [hO.1]
  refine cond_dec (fun hlt => ?_) (fun hge => ?_)
  rotate_left
  · have hr0 : rest = [] := List.eq_nil_of_length_eq_zero (by omega)
    subst hr0
    rw [List.append_nil] at hol
    subst hol
    exact ⟨hE, hO⟩
  have hpos : xx < n := by
    by_cases he : xx = n
    · subst he
      obtain ⟨t, ht⟩ : ∃ t, s - o.length = t + 1 := ⟨s - o.length - 1, by omega⟩
      rw [ht, Nat.sub_self] at hsub
      simp [subs] at hsub
    · omega
  obtain ⟨m, hm⟩ : ∃ m, n - xx = m + 1 := ⟨n - xx - 1, by omega⟩
  obtain ⟨t, ht⟩ : ∃ t, s - o.length = t + 1 := ⟨s - o.length - 1, by omega⟩
  rw [hm, ht, subs_at] at hsub
  have e1 : IntKind.i64.wrap (IntKind.i64.wrap ((n : Int) - (xx : Int)) - 1) = (m : Int) := by
    rw [wrap_of (n := (n : Int) - (xx : Int)) (by omega) (by omega), wrap_of (by omega) (by omega)]; omega
  have e2 : IntKind.i64.wrap (IntKind.i64.wrap ((s : Int) - (o.length : Int)) - 1) = (t : Int) := by
    rw [wrap_of (n := (s : Int) - (o.length : Int)) (by omega) (by omega), wrap_of (by omega) (by omega)]; omega
  rw [e1, e2]
  refine call (binomial_ok m t (by omega) w1) ?_
  rintro _ w2 ⟨rfl, hE2⟩
  replace hE := hE.ext hE2
  replace hO := hO.ext hE2
  have hxw : IntKind.i64.wrap ((xx : Int) + 1) = ((xx + 1 : Nat) : Int) := by rw [wrap_of (by omega) (by omega)]; omega
  rw [hxw]
  have hcast : ((xx : Int) + 1) = ((xx + 1 : Nat) : Int) := by omega
  refine cond_dec (fun hlt2 => ?_) (fun hge2 => ?_)
  · rw [if_pos (by omega)] at hsub
    cases hs' : (subs m ((xx : Int) + 1) t)[rr]? with
    | none => rw [hs'] at hsub; cases hsub
    | some rest' =>
      rw [hs'] at hsub
      have hre : (xx : Int) :: rest' = rest := by simpa using hsub
      subst hre
      refine RUN_lit1 (α := Int) slt_int (xx : Int) rfl (by decide) fun r3 w3 hE3 hO3 => ?_
      replace hE := hE.ext hE3
      replace hO := hO.ext hE3
      refine RUN_append (α := Int) slt_int hO hE.size_le (hO3.rep (by intro z hz; simp at hz; subst hz; show I64 _; unfold I64; omega)).any (by simp; omega) (by simp [maxLen]; omega) fun r' w4 hO4 hs4 => ?_
      refine ⟨⟨rr, xx + 1, o ++ [(xx : Int)], rest', rfl, rfl, by omega, hs4.ext0 hE (fun k hk => (hO.blk k hk).1), hO4, by rw [← hol]; simp, ?_⟩, by simp only; omega⟩
      rw [show n - (xx + 1) = m by omega, List.length_append, List.length_singleton, show s - (o.length + 1) = t by omega, ← hcast]
      exact hs'
  · rw [if_neg (by omega)] at hsub
    have hr' : IntKind.i64.wrap ((rr : Int) - (ch m t : Int)) = ((rr - ch m t : Nat) : Int) := by
      have hb : rr - ch m t < (subs m ((xx : Int) + 1) (t + 1)).length := (List.getElem?_eq_some_iff.1 hsub).1
      rw [subs_len] at hb
      have h1 := ch_le m (t + 1)
      have h2 := ch_le m t
      have h3 := two14 (n := m) (by omega)
      rw [wrap_of (by omega) (by omega)]; omega
    rw [hr']
    refine ⟨⟨rr - ch m t, xx + 1, o, rest, rfl, rfl, by omega, hE, hO, hol, ?_⟩, by simp only; omega⟩
    rw [show n - (xx + 1) = m by omega, ht, ← hcast]
    exact hsub

/-! ### The program's side -/

def LcAsked (n : Net) : Prop := Good n ∧ n.ends.length ≤ 14
def lcSet (n : Net) : List Int := leastOf (covB n.ends) n.ends.length

theorem LeastCover_ok {w : World} {a b c : Sl} {n : Net} (h : RNet w a b c n) (hn : Small n) :
    Calls Try.prog F.i_LeastCover #[.agg #[a.v, b.v, c.v]] w (Ret [.at .sl, .at .bool] fun (r : Sl) (y : Bool) w' => Ext w w' ∧ ∃ m, OutL w.heap.size w' r m ∧ AnsG (LcAsked n) (lcSet n) [] m y) := by
  refine C_i_LeastCover ?_
  unfold V_i_LeastCover
  refine NEW_intro fun p w1 hp hs1 hE hb1 => LD_box3 hb1 ?_
  replace h := h.ext hE
  refine call (isNetwork_ok h hn.2.2.1) ?_
  rintro x w3 ⟨hx, hE3⟩
  replace hE := hE.ext hE3
  replace h := h.ext hE3
  replace hb1 := hb1.ext hE3
  refine cond_not (fun hf => ⟨hE, [], OutL.nil _ _, .no fun hg => ?_⟩) (fun ht => ?_)
  · rw [hx.2 hg.1] at hf; cases hf
  have hg := hx.1 ht
  refine LD_bs0 hb1 ?_
  rw [h.1.len]
  refine cond_dec (fun hgt => ⟨hE, [], OutL.nil _ _, .no fun hA => by have := hA.2; omega⟩) (fun hle => ?_)
  have hA : LcAsked n := ⟨hg, by omega⟩
  have h14 := hA.2
  unfold V_i_LeastCover_k1
  refine LD_bs0 hb1 ?_
  rw [h.1.len]
  have hsz := hE.size_le
  refine ⟨IN n.ends.length fun s w' => Ext w3 w' ∧ ∀ t < s, ∀ x ∈ subs n.ends.length 0 t, covB n.ends x = false, MN n.ends.length, IN_zero ⟨Ext.refl _, fun t ht => absurd ht (by omega)⟩, ?_⟩
  rintro _ w4 ⟨s, rfl, hs, hE4, hI⟩
  intros
  refine cond_dec (fun hlt => ?_) (fun hge => ?_)
  rotate_left
  · have : s = n.ends.length := by omega
    subst this
    refine call (numbersTo_ok n.ends.length (by omega) w4) ?_
    rintro r w9 ⟨hE9, hO9⟩
    have hEt := hE.trans (hE4.trans hE9)
    have hle' : lcSet n = upTo n.ends.length := least_eq hI (by
      rw [(subs_full n.ends.length 0).1, fullS_upTo]
      simp [cov_full hg])
    refine ⟨hEt, lcSet n, ⟨?_, by rw [hle']; exact upTo_ok _ (by omega), by rw [hle', upTo_len]; omega⟩, .yes hA⟩
    rw [hle']
    exact hO9.low (Nat.le_trans hsz hE4.size_le)
  have hs' : s < n.ends.length := by omega
  refine call (binomial_ok n.ends.length s h14 w4) ?_
  rintro _ w5 ⟨rfl, hE5⟩
  have hsl := subs_len n.ends.length 0 s
  have hcl := ch_le n.ends.length s
  have h2l := two14 h14
  refine ⟨IN (ch n.ends.length s) fun r w' => Ext w3 w' ∧ ∀ x ∈ (subs n.ends.length 0 s).take r, covB n.ends x = false, MN (ch n.ends.length s), IN_zero ⟨hE4.trans hE5, by simp⟩, ?_⟩
  rintro _ w6 ⟨r, rfl, hr, hE6, hJ⟩
  intros
  refine cond_dec (fun hlt2 => ?_) (fun hge2 => ?_)
  rotate_left
  · have : r = (subs n.ends.length 0 s).length := by omega
    rw [this, List.take_length] at hJ
    exact IN_next (by omega) hs' ⟨hE6, all_succ hI hJ⟩
  have hr' : r < (subs n.ends.length 0 s).length := by omega
  have hget : (subs n.ends.length 0 s)[r]? = some (subs n.ends.length 0 s)[r] := by simp [hr']
  obtain ⟨h64, hln⟩ := subs_I64 h14 hget
  refine call (subsetAt_ok h14 (by omega) hget w6) ?_
  rintro q w7 ⟨hE7, hO7⟩
  have hE37 := hE6.trans hE7
  refine LD_box3 (hb1.ext hE37) ?_
  refine call (isCover_ok (h.ext hE37) (hO7.rep h64).any hg) ?_
  rintro x w8 ⟨hx8, hE8⟩
  obtain rfl := covB_bool hx8
  refine cond_b (fun hc => ?_) (fun hc => IN_next (by omega) (by omega) ⟨hE37.trans hE8, fun x hx => ?_⟩)
  · have hle' : lcSet n = (subs n.ends.length 0 s)[r] := least_eq hI (by
      rw [List.find?_eq_some_iff_getElem]
      refine ⟨hc, r, hr', rfl, fun j hj => ?_⟩
      have := hJ ((subs n.ends.length 0 s)[j]'(by omega)) (List.mem_take_iff_getElem.2 ⟨j, by omega, rfl⟩)
      simp [this])
    refine ⟨hE.trans (hE37.trans hE8), lcSet n, ⟨?_, by rw [hle']; exact h64, by rw [hle', hln]; omega⟩, .yes hA⟩
    rw [hle']
    exact (hO7.ext hE8).low (Nat.le_trans hsz hE6.size_le)
  · rw [List.take_succ_eq_append_getElem hr'] at hx
    rcases List.mem_append.1 hx with h1 | h1
    · exact hJ x h1
    · rw [List.mem_singleton.1 h1]; exact hc

/-! ### The reference's side -/

theorem elHas_ok (b a : Nat) (ha : a ≤ 60) (w : World) :
    Calls Try.prog F.s_elHas #[.int .i64 b, .int .i64 a] w (Ret [.at .bool] fun (x : Bool) w' => x = b.testBit a ∧ w = w') := by
  refine C_s_elHas ?_
  unfold V_s_elHas
  refine ⟨by omega, by omega, ?_, rfl⟩
  rw [shr_nat .i64 b a (by show a ≤ 64; omega), Nat.testBit_eq_decide_div_mod_eq]
  generalize b / 2 ^ a = q
  have : Int.tmod (q : Int) 2 = ((q % 2 : Nat) : Int) := rfl
  rw [this]
  rcases Nat.mod_two_eq_zero_or_one q with h | h <;> rw [h] <;> rfl

theorem mtChosen_ok (n b : Nat) (hn : n ≤ 14) (w : World) :
    Calls Try.prog F.s_mtChosen #[.int .i64 n, .int .i64 b] w (Ret [.at .sl] fun (q : Sl) w' => Ext w w' ∧ OwnL w' w.heap.size T.t_int q (chosen n 0 b)) := by
  refine C_s_mtChosen ?_
  unfold V_s_mtChosen
  refine ⟨IN2 n fun v out w' => Ext w w' ∧ ∃ o, OwnL w' w.heap.size T.t_int out o ∧ o ++ chosen (n - v) v b = chosen n 0 b ∧ o.length ≤ v, MN2 n, IN2_zero ⟨Ext.refl _, [], OwnL.nil _ _ _, rfl, by simp⟩, ?_⟩
  rintro out _ w1 ⟨v, rfl, hv, hE, o, hO, ho, hol⟩
  intros
  refine cond_dec (fun hlt => ?_) (fun hge => ?_)
  rotate_left
  · have : v = n := by omega
    subst this
    rw [Nat.sub_self] at ho
    simp only [chosen, List.append_nil] at ho
    subst ho
    exact ⟨hE, hO⟩
  have hv' : v < n := by omega
  obtain ⟨m, hm⟩ : ∃ m, n - v = m + 1 := ⟨n - v - 1, by omega⟩
  have e1 : IntKind.i64.wrap (IntKind.i64.wrap ((n : Int) - 1) - (v : Int)) = (m : Int) := by
    rw [wrap_of (n := (n : Int) - 1) (by omega) (by omega), wrap_of (by omega) (by omega)]; omega
  rw [e1]
  rw [hm, chosen] at ho
  have hcast : ((v : Int) + 1) = ((v + 1 : Nat) : Int) := by omega
  rw [hcast] at ho
  refine call (elHas_ok b m (by omega) w1) ?_
  rintro _ _ ⟨rfl, rfl⟩
  refine cond_b (fun ht => ?_) (fun hf => ?_)
  · rw [ht, if_pos rfl] at ho
    refine RUN_lit1 (α := Int) slt_int (v : Int) rfl (by decide) fun r3 w3 hE3 hO3 => ?_
    replace hE := hE.ext hE3
    replace hO := hO.ext hE3
    refine RUN_append (α := Int) slt_int hO hE.size_le (hO3.rep (by intro z hz; simp at hz; subst hz; show I64 _; unfold I64; omega)).any (by simp; omega) (by simp [maxLen]; omega) fun r' w4 hO4 hs4 => ?_
    refine IN2_next (by omega) hv' ⟨hs4.ext0 hE (fun k hk => (hO.blk k hk).1), _, hO4, ?_, by simp; omega⟩
    rw [show n - (v + 1) = m by omega, ← ho, List.append_assoc]
    rfl
  · rw [hf] at ho
    refine IN2_next (by omega) hv' ⟨hE, o, hO, ?_, by omega⟩
    rw [show n - (v + 1) = m by omega, ← ho]
    rfl

theorem chosen_I64 (b : Nat) : ∀ (n o : Nat), n + o ≤ 100 → (∀ x ∈ chosen n o b, I64 x) ∧ (chosen n o b).length ≤ n
  | 0, _, _ => by simp [chosen]
  | n + 1, o, h => by
    obtain ⟨h1, h2⟩ := chosen_I64 b n (o + 1) (by omega)
    have hc : ((o + 1 : Nat) : Int) = (o : Int) + 1 := by omega
    rw [hc] at h1 h2
    rw [chosen]
    split
    · refine ⟨fun x hx => ?_, by simp; omega⟩
      rcases List.mem_cons.1 hx with rfl | hx
      · unfold I64; omega
      · exact h1 x hx
    · exact ⟨h1, by omega⟩

theorem sLeastCover_ok {w : World} {a b c : Sl} {n : Net} (h : RNet w a b c n) :
    Calls Try.prog F.s_LeastCover #[.agg #[a.v, b.v, c.v]] w (Ret [.at .sl, .at .bool] fun (r : Sl) (y : Bool) w' => Ext w w' ∧ ∃ m, R w' r m ∧ AnsG (LcAsked n) (lcSet n) [] m y) := by
  refine C_s_LeastCover ?_
  unfold V_s_LeastCover
  refine NEW_intro fun p w1 hp hs1 hE hb1 => LD_box3 hb1 ?_
  replace h := h.ext hE
  refine call (neGood_ok h) ?_
  rintro x w3 ⟨hx, hE3⟩
  replace hE := hE.ext hE3
  replace h := h.ext hE3
  replace hb1 := hb1.ext hE3
  refine cond_not (fun hf => ⟨hE, [], (OutL.nil 0 _).rep, .no fun hg => ?_⟩) (fun ht => ?_)
  · rw [hx.2 hg.1] at hf; cases hf
  have hg := hx.1 ht
  refine LD_bs0 hb1 ?_
  rw [h.1.len]
  refine cond_dec (fun hgt => ⟨hE, [], (OutL.nil 0 _).rep, .no fun hA => by have := hA.2; omega⟩) (fun hle => ?_)
  have hA : LcAsked n := ⟨hg, by omega⟩
  have h14 := hA.2
  unfold V_s_LeastCover_k1
  refine LD_bs0 hb1 ?_
  rw [h.1.len]
  have h2l := two14 h14
  have h2p := Nat.two_pow_pos n.ends.length
  have hshl : shlI .i64 1 (n.ends.length : Int) = ((2 ^ n.ends.length : Nat) : Int) := by
    unfold shlI
    have hb64 : IntKind.i64.bits = 64 := rfl
    rw [Int.toNat_natCast, hb64, Nat.min_eq_left (by omega), Int.one_mul]
    have e : (2 : Int) ^ n.ends.length = ((2 ^ n.ends.length : Nat) : Int) := by push_cast; rfl
    rw [e, wrap_of (by omega) (by omega)]
  rw [hshl]
  generalize hB : 2 ^ n.ends.length = B at *
  rw [wrap_of (by omega) (by omega)]
  have hal := allD_len n.ends.length 0
  rw [hB] at hal
  have hI0 : ∀ i : Int, i = (B : Int) - 1 → ∃ j : Nat, j ≤ B ∧ i = (B : Int) - 1 - j := fun i hi => ⟨0, by omega, by omega⟩
  refine ⟨by omega, fun best found (bits : Int) w' => ∃ j : Nat, j ≤ B ∧ bits = (B : Int) - 1 - j ∧ Ext w3 w' ∧ found = (((allD n.ends.length 0).take j).foldl (stepB (covB n.ends)) none).isSome ∧ R w' best ((((allD n.ends.length 0).take j).foldl (stepB (covB n.ends)) none).getD []), fun _ _ bits _ => (bits + 1).toNat, ⟨0, by omega, by omega, Ext.refl _, rfl, by simpa using (OutL.nil 0 _).rep⟩, ?_⟩
  rintro best _ _ w4 ⟨j, hj, rfl, hE4, rfl, hR4⟩
  intros
  refine cond_dec (fun hge => ?_) (fun hlt => ?_)
  rotate_left
  · have : j = (allD n.ends.length 0).length := by omega
    subst this
    rw [List.take_length] at hR4
    exact ⟨hE.trans hE4, _, hR4, .yes hA⟩
  have hj' : j < (allD n.ends.length 0).length := by omega
  refine LD_bs0 (hb1.ext hE4) ?_
  rw [h.1.len]
  have ebits : (B : Int) - 1 - (j : Int) = ((B - 1 - j : Nat) : Int) := by omega
  have hget : (allD n.ends.length 0)[j] = chosen n.ends.length 0 (B - 1 - j) := by
    have := allD_get n.ends.length 0 (B - 1 - j) (by omega)
    rw [hB, show B - 1 - (B - 1 - j) = j by omega] at this
    simpa [hj'] using this
  rw [ebits]
  refine call (mtChosen_ok n.ends.length (B - 1 - j) h14 w4) ?_
  rintro q w5 ⟨hE5, hO5⟩
  obtain ⟨hc64, hcl⟩ := chosen_I64 (B - 1 - j) n.ends.length 0 (by omega)
  have hR5 := (hO5.rep hc64).any
  have hE35 := hE4.trans hE5
  have hacc : ((allD n.ends.length 0).take (j + 1)).foldl (stepB (covB n.ends)) none = stepB (covB n.ends) (((allD n.ends.length 0).take j).foldl (stepB (covB n.ends)) none) (chosen n.ends.length 0 (B - 1 - j)) := by
    rw [List.take_succ_eq_append_getElem hj', List.foldl_append, hget]; rfl
  have ewr : IntKind.i64.wrap (((B - 1 - j : Nat) : Int) - 1) = (B : Int) - 1 - ((j + 1 : Nat) : Int) := by rw [wrap_of (by omega) (by omega)]; omega
  generalize hC : chosen n.ends.length 0 (B - 1 - j) = C at *
  generalize hAc : ((allD n.ends.length 0).take j).foldl (stepB (covB n.ends)) none = acc at *
  cases acc with
  | none =>
    refine cond_not (fun _ => ?_) (fun hh => by cases hh)
    refine LD_box3 (hb1.ext hE35) ?_
    refine call (mtCovers_ok (h.ext hE35) hR5 hg) ?_
    rintro x w6 ⟨hx6, hE6⟩
    obtain rfl := covB_bool hx6
    refine cond_b (fun hc => ?_) (fun hc => ?_)
    · unfold V_s_LeastCover_k5
      rw [ewr]
      refine ⟨⟨j + 1, by omega, rfl, hE35.trans hE6, ?_, ?_⟩, by simp only; omega⟩
      · rw [hacc]; simp [stepB, hc]
      · rw [hacc]; simpa [stepB, hc] using hR5.ext hE6
    · unfold V_s_LeastCover_k5
      rw [ewr]
      refine ⟨⟨j + 1, by omega, rfl, hE35.trans hE6, ?_, ?_⟩, by simp only; omega⟩
      · rw [hacc]; simp [stepB, hc]
      · rw [hacc]; simpa [stepB, hc] using (hR4.ext hE5).ext hE6
  | some m =>
    refine cond_not (fun hh => by cases hh) (fun _ => ?_)
    rw [hR5.len, hR4.len]
    refine cond_dec (fun hlt => ?_) (fun hge2 => ?_)
    · have hlt' : C.length < m.length := by simpa using hlt
      refine LD_box3 (hb1.ext hE35) ?_
      refine call (mtCovers_ok (h.ext hE35) hR5 hg) ?_
      rintro x w6 ⟨hx6, hE6⟩
      obtain rfl := covB_bool hx6
      refine cond_b (fun hc => ?_) (fun hc => ?_)
      · unfold V_s_LeastCover_k5
        rw [ewr]
        refine ⟨⟨j + 1, by omega, rfl, hE35.trans hE6, ?_, ?_⟩, by simp only; omega⟩
        · rw [hacc]; simp [stepB, hc, hlt']
        · rw [hacc]; simpa [stepB, hc, hlt'] using hR5.ext hE6
      · unfold V_s_LeastCover_k5
        rw [ewr]
        refine ⟨⟨j + 1, by omega, rfl, hE35.trans hE6, ?_, ?_⟩, by simp only; omega⟩
        · rw [hacc]; simp [stepB, hc]
        · rw [hacc]; simpa [stepB, hc] using (hR4.ext hE5).ext hE6
    · have hge' : ¬ C.length < m.length := by simpa using hge2
      unfold V_s_LeastCover_k5
      rw [ewr]
      refine ⟨⟨j + 1, by omega, rfl, hE35, ?_, ?_⟩, by simp only; omega⟩
      · rw [hacc]; simp [stepB, hge']
      · rw [hacc]; simpa [stepB, hge'] using hR4.ext hE5

end Go.Proofs.Ytoeaoinedidbiaa
