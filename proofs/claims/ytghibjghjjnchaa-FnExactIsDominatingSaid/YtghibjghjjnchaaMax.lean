/- Maximal matchings and maximal independent sets; sizes of matchings. -/
import Derived.Test.YtghibjghjjnchaaSets
namespace Go.Proofs.Ytghibjghjjnchaa
open Go.GX Go.RowKit
set_option maxRecDepth 100000

/-! ### Matchings that are asked rightly, and their size -/

structure MatchAsked (n : Net) (m : List Int) : Prop where
  good : Good n
  is : MatchOk n.ends m

theorem matchingOk_ok {w : World} {a b c s : Sl} {n : Net} {l : List Int} (h : RNet w a b c n) (hl : R w s l) (hn : Small n) :
    Calls Try.prog F.i_matchingOk #[.agg #[a.v, b.v, c.v], s.v] w (Ret [.at .bool] fun (x : Bool) w' => (x = true ↔ MatchAsked n l) ∧ Ext w w') := by
  refine C_i_matchingOk ?_
  unfold V_i_matchingOk
  refine NEW_intro fun p w1 hp hs hE hb1 => LD_box3 hb1 ?_
  replace h := h.ext hE
  replace hl := hl.ext hE
  refine call (isNetwork_ok h hn.2.2.1) ?_
  rintro x w2 ⟨hx, hE2⟩
  replace h := h.ext hE2
  replace hl := hl.ext hE2
  replace hb1 := hb1.ext hE2
  replace hE := hE.ext hE2
  refine cond_b (fun ht => LD_box3 hb1 ?_) (fun hf => ⟨?_, hE⟩)
  · refine call (isMatching_ok h hl (hx.1 ht)) ?_
    rintro y w3 ⟨hy, hE3⟩
    refine ⟨?_, hE.trans hE3⟩
    rw [hy]
    exact ⟨fun h1 => ⟨hx.1 ht, h1⟩, fun h1 => h1.is⟩
  · simp only [Bool.false_eq_true, false_iff]
    intro h1
    rw [hx.2 h1.good] at hf; cases hf

theorem mtAsked_ok {w : World} {a b c s : Sl} {n : Net} {l : List Int} (h : RNet w a b c n) (hl : R w s l) :
    Calls Try.prog F.s_mtAsked #[.agg #[a.v, b.v, c.v], s.v] w (Ret [.at .bool] fun (x : Bool) w' => (x = true ↔ MatchAsked n l) ∧ Ext w w') := by
  refine C_s_mtAsked ?_
  unfold V_s_mtAsked
  refine NEW_intro fun p w1 hp hs hE hb1 => LD_box3 hb1 ?_
  replace h := h.ext hE
  replace hl := hl.ext hE
  refine call (neGood_ok h) ?_
  rintro x w2 ⟨hx, hE2⟩
  replace h := h.ext hE2
  replace hl := hl.ext hE2
  replace hb1 := hb1.ext hE2
  replace hE := hE.ext hE2
  refine cond_b (fun ht => LD_box3 hb1 ?_) (fun hf => ⟨?_, hE⟩)
  · refine call (mtIs_ok h hl (hx.1 ht)) ?_
    rintro y w3 ⟨hy, hE3⟩
    refine ⟨?_, hE.trans hE3⟩
    rw [hy]
    exact ⟨fun h1 => ⟨hx.1 ht, h1⟩, fun h1 => h1.is⟩
  · simp only [Bool.false_eq_true, false_iff]
    intro h1
    rw [hx.2 h1.good] at hf; cases hf

/-- How many numbers are not negative. -/
def nonneg (l : List Int) : Nat := l.countP fun x => decide (x ≥ 0)

theorem nonneg_take_succ {l : List Int} {i : Nat} (hi : i < l.length) : nonneg (l.take (i + 1)) = nonneg (l.take i) + if l[i] ≥ 0 then 1 else 0 := by
  unfold nonneg
  rw [List.take_succ_eq_append_getElem hi, List.countP_append, List.countP_singleton]
  simp

theorem nonneg_le {l : List Int} {i : Nat} : nonneg (l.take i) ≤ i := Nat.le_trans (List.countP_le_length) (by simp; omega)

def half (k : Nat) : Int := IntKind.i64.wrap (Int.tdiv k 2)

/-- An answer that is a number, and whether it was asked rightly. -/
def AnsI (g : Prop) (k : Int) (x : Int) (ok : Bool) : Prop := (ok = true ↔ g) ∧ (g → x = k) ∧ (¬ g → x = 0)

theorem AnsI.eq {g : Prop} {k x x' : Int} {ok ok' : Bool} (h : AnsI g k x ok) (h' : AnsI g k x' ok') : x = x' ∧ ok = ok' := by
  refine ⟨?_, Bool.eq_iff_iff.2 (h.1.trans h'.1.symm)⟩
  by_cases hg : g
  · rw [h.2.1 hg, h'.2.1 hg]
  · rw [h.2.2 hg, h'.2.2 hg]

theorem AnsI.no {g : Prop} {k : Int} (h : ¬ g) : AnsI g k 0 false := ⟨by simp [h], fun h1 => absurd h1 h, fun _ => rfl⟩
theorem AnsI.mk {g : Prop} {k x : Int} (h : g) (hx : x = k) : AnsI g k x true := ⟨by simp [h], fun _ => hx, fun h1 => absurd h h1⟩

theorem MatchingSize_ok {w : World} {a b c s : Sl} {n : Net} {l : List Int} (h : RNet w a b c n) (hl : R w s l) (hn : Small n) :
    Calls Try.prog F.i_MatchingSize #[.agg #[a.v, b.v, c.v], s.v] w (Ret [.at (.int .i64), .at .bool] fun (x : Int) (y : Bool) w' => AnsI (MatchAsked n l) (half (nonneg l)) x y ∧ Ext w w') := by
  refine C_i_MatchingSize ?_
  unfold V_i_MatchingSize
  refine NEW_intro fun p w1 hp hs hE hb1 => LD_box3 hb1 ?_
  replace h := h.ext hE
  replace hl := hl.ext hE
  refine call (matchingOk_ok h hl hn) ?_
  rintro x w2 ⟨hx, hE2⟩
  replace h := h.ext hE2
  replace hl := hl.ext hE2
  replace hb1 := hb1.ext hE2
  replace hE := hE.ext hE2
  refine cond_not (fun hf => ⟨.no fun hg => ?_, hE⟩) (fun ht => ?_)
  · rw [hx.2 hg] at hf; cases hf
  have hg := hx.1 ht
  have h40 := hg.good.size.2
  have hlen := hg.is.1
  rw [hl.len]
  refine ⟨IN2 l.length fun i k w' => w2 = w' ∧ k = (nonneg (l.take i) : Nat), MN2 l.length, IN2_zero ⟨rfl, by simp [nonneg]⟩, ?_⟩
  rintro _ _ w3 ⟨i, rfl, hi, rfl, rfl⟩
  intros
  refine cond_dec (fun hlt => ?_) (fun hge => ?_)
  · have hi' : i < l.length := by omega
    refine hl.ixI hi' fun q _ hc => LD_int hc ?_
    refine call (oneIf_ok _ _) ?_
    rintro r _ ⟨rfl, rfl⟩
    have := nonneg_le (l := l) (i := i)
    refine IN2_next hl.le hi' ⟨rfl, ?_⟩
    rw [nonneg_take_succ hi']
    by_cases h1 : l[i] ≥ 0
    · simp [h1]; rw [wrap_of (by omega) (by omega)]
    · simp [h1]; rw [wrap_of (by omega) (by omega)]
  · have : i = l.length := by omega
    subst this
    refine ⟨by decide, .mk hg ?_, hE⟩
    simp [half]

theorem mtSize_ok {w : World} {s : Sl} {l : List Int} (hl : R w s l) (hlen : l.length ≤ 1048576) :
    Calls Try.prog F.s_mtSize #[s.v] w (Ret [.at (.int .i64)] fun (x : Int) w' => x = half (nonneg l) ∧ w = w') := by
  refine C_s_mtSize ?_
  unfold V_s_mtSize
  rw [hl.len]
  refine ⟨IN2 l.length fun i k w' => w = w' ∧ k = (nonneg (l.take i) : Nat), MN2 l.length, IN2_zero ⟨rfl, by simp [nonneg]⟩, ?_⟩
  rintro _ _ w3 ⟨i, rfl, hi, rfl, rfl⟩
  intros
  refine cond_dec (fun hlt => ?_) (fun hge => ?_)
  · have hi' : i < l.length := by omega
    have := nonneg_le (l := l) (i := i)
    refine hl.ixI hi' fun q _ hc => LD_int hc ?_
    refine cond_dec (fun h1 => IN2_next hl.le hi' ⟨rfl, ?_⟩) (fun h1 => IN2_next hl.le hi' ⟨rfl, ?_⟩)
    · rw [nonneg_take_succ hi', wrap_of (by omega) (by omega)]; simp [h1]
    · rw [nonneg_take_succ hi']; simp [h1]
  · have : i = l.length := by omega
    subst this
    refine ⟨by decide, ?_, rfl⟩
    simp [half]

theorem sMatchingSize_ok {w : World} {a b c s : Sl} {n : Net} {l : List Int} (h : RNet w a b c n) (hl : R w s l) :
    Calls Try.prog F.s_MatchingSize #[.agg #[a.v, b.v, c.v], s.v] w (Ret [.at (.int .i64), .at .bool] fun (x : Int) (y : Bool) w' => AnsI (MatchAsked n l) (half (nonneg l)) x y ∧ Ext w w') := by
  refine C_s_MatchingSize ?_
  unfold V_s_MatchingSize
  refine NEW_intro fun p w1 hp hs hE hb1 => LD_box3 hb1 ?_
  replace h := h.ext hE
  replace hl := hl.ext hE
  refine call (mtAsked_ok h hl) ?_
  rintro x w2 ⟨hx, hE2⟩
  replace h := h.ext hE2
  replace hl := hl.ext hE2
  replace hb1 := hb1.ext hE2
  replace hE := hE.ext hE2
  refine cond_not (fun hf => ⟨.no fun hg => ?_, hE⟩) (fun ht => ?_)
  · rw [hx.2 hg] at hf; cases hf
  have hg := hx.1 ht
  refine call (mtSize_ok hl (by have := hg.good.size.2; have := hg.is.1; omega)) ?_
  rintro k _ ⟨hk, rfl⟩
  exact ⟨.mk hg hk, hE⟩

/-! ### Maximal matchings -/

/-- An edge that could be added: two nodes, both free. -/
def FreeEdge (l : List Int) (q : Edge) : Prop := q.1 ≠ q.2.2.1 ∧ l.getD q.1.toNat 0 < 0 ∧ l.getD q.2.2.1.toNat 0 < 0
instance (l : List Int) (q : Edge) : Decidable (FreeEdge l q) := by unfold FreeEdge; exact inferInstance
def Maximal (n : Net) (l : List Int) : Prop := ∀ q ∈ edgesOf n.ends, ¬ FreeEdge l q

theorem isMaximalMatching1_ok {n : Net} (hg : Good n) {l : List Int} (hlen : l.length = n.ends.length) {w : World} {s : Sl} {p : Addr} {t : TypeId} (hl : R w s l) (hb : Box w p t [s.v]) :
    AnswersG argsQ w (.func (.func F.i_IsMaximalMatching_1) #[] #[.pointer (some p)]) (edgesOf n.ends) (fun q => decide (FreeEdge l q)) := by
  intro q hq w1 hE1
  replace hl := hl.ext hE1
  replace hb := hb.ext hE1
  obtain ⟨v, i, x, y, rfl, _, _, hv, hx, _⟩ := edge_at hg hq
  refine CALLV_mk (by kernel_rfl) (C_i_IsMaximalMatching_1 ?_)
  unfold V_i_IsMaximalMatching_1
  refine NEW_intro fun p1 w2 hp1 hs2 hE2 hb2 => ?_
  replace hl := hl.ext hE2
  replace hb := hb.ext hE2
  have hv' : v < l.length := by omega
  have hx' : x < l.length := by omega
  refine LD_bi0 hb2 (LD_bi2 hb2 ?_)
  refine cond_ne (fun h1 => LD_bs hb (LD_bi0 hb2 ?_)) (fun h1 => ⟨?_, hE2⟩)
  · refine hl.ixI hv' fun q _ hc => LD_int hc ?_
    refine cond_dec (fun h2 => LD_bs hb (LD_bi2 hb2 ?_)) (fun h2 => ⟨?_, hE2⟩)
    · refine hl.ixI hx' fun q _ hc => LD_int hc ⟨?_, hE2⟩
      have h1' : (v : Int) ≠ x := h1
      simp [FreeEdge, hv', hx', h2, h1']
    · simp [FreeEdge, hv', h2]
  · have h1' : (v : Int) = x := h1
    simp [FreeEdge, h1']

theorem IsMaximalMatching_ok {w : World} {a b c s : Sl} {n : Net} {l : List Int} (h : RNet w a b c n) (hl : R w s l) (hn : Small n) :
    Calls Try.prog F.i_IsMaximalMatching #[.agg #[a.v, b.v, c.v], s.v] w (Ret [.at .bool, .at .bool] fun (x y : Bool) w' => Ans2 (MatchAsked n l) (Maximal n l) x y ∧ Ext w w') := by
  refine C_i_IsMaximalMatching ?_
  unfold V_i_IsMaximalMatching
  refine NEW_intro fun p w1 hp hs hE hb1 => ?_
  replace h := h.ext hE
  replace hl := hl.ext hE
  refine NEW_intro fun p2 w2 hp2 hs2 hE2 hb2 => ?_
  replace h := h.ext hE2
  replace hl := hl.ext hE2
  replace hb1 := hb1.ext hE2
  replace hE := hE.ext hE2
  refine LD_box3 hb1 (LD_bs hb2 ?_)
  refine call (matchingOk_ok h hl hn) ?_
  rintro x w3 ⟨hx, hE3⟩
  replace h := h.ext hE3
  replace hl := hl.ext hE3
  replace hb1 := hb1.ext hE3
  replace hb2 := hb2.ext hE3
  replace hE := hE.ext hE3
  refine cond_not (fun hf => ⟨.no fun hg => ?_, hE⟩) (fun ht => LD_box3 hb1 ?_)
  · rw [hx.2 hg] at hf; cases hf
  have hg := hx.1 ht
  refine call (edges_ok h hg.good) ?_
  rintro r w4 ⟨hE4, hO⟩
  replace hl := hl.ext hE4
  replace hb2 := hb2.ext hE4
  replace hE := hE.ext hE4
  refine call (containsFuncQ_ok (hO.rep (edge_I64 hg.good)).any (isMaximalMatching1_ok hg.good hg.is.1 hl hb2)) ?_
  rintro y w5 ⟨rfl, hE5⟩
  refine ⟨.mk hg ?_, hE.trans hE5⟩
  rw [Bool.not_eq_true', List.any_eq_false]
  unfold Maximal
  simp

theorem mtMaximal_ok {w : World} {a b c s : Sl} {n : Net} {l : List Int} (h : RNet w a b c n) (hl : R w s l) (hg : Good n) (hlen : l.length = n.ends.length) :
    Calls Try.prog F.s_mtMaximal #[.agg #[a.v, b.v, c.v], s.v] w (Ret [.at .bool] fun (x : Bool) w' => (x = true ↔ Maximal n l) ∧ Ext w w') := by
  refine C_s_mtMaximal ?_
  unfold V_s_mtMaximal
  refine NEW_intro fun p w1 hp hs hE hb1 => LD_box3 hb1 ?_
  replace h := h.ext hE
  replace hl := hl.ext hE
  refine call (neEdges_ok h hg) ?_
  rintro r w2 ⟨hE2, hO⟩
  replace hl := hl.ext hE2
  replace hE := hE.ext hE2
  have hR := hO.rep (four_ok hg)
  rw [hR.len, List.length_map]
  have hle := hR.le
  rw [List.length_map] at hle
  refine ⟨IN (edgesOf n.ends).length fun i w' => Ext w2 w' ∧ ∀ q ∈ (edgesOf n.ends).take i, ¬ FreeEdge l q, MN (edgesOf n.ends).length, IN_zero ⟨Ext.refl _, by simp⟩, ?_⟩
  rintro _ w3 ⟨i, rfl, hi, hE3, ha⟩
  intros
  replace hl := hl.ext hE3
  replace hE := hE.ext hE3
  replace hR := hR.ext hE3
  refine cond_dec (fun hlt => ?_) (fun hge => ⟨?_, hE⟩)
  · have hi' : i < (edgesOf n.ends).length := by omega
    have hnext : ∀ w4, Ext w3 w4 → (¬ FreeEdge l (edgesOf n.ends)[i]) → IN (edgesOf n.ends).length (fun i w' => Ext w2 w' ∧ ∀ q ∈ (edgesOf n.ends).take i, ¬ FreeEdge l q) (IntKind.i64.wrap ((i : Int) + 1)) w4 ∧ MN (edgesOf n.ends).length (IntKind.i64.wrap ((i : Int) + 1)) w4 < MN (edgesOf n.ends).length i w3 := by
      intro w4 hE4 hq
      refine IN_next hle hi' ⟨hE3.trans hE4, fun q hm => ?_⟩
      rw [List.take_succ_eq_append_getElem hi'] at hm
      rcases List.mem_append.1 hm with h1 | h1
      · exact ha q h1
      · rw [List.mem_singleton.1 h1]; exact hq
    obtain ⟨v, j, x, y, hq, _, _, hv, hx, _⟩ := edge_at hg (List.getElem_mem hi')
    have hv' : v < l.length := by omega
    have hx' : x < l.length := by omega
    refine hR.ixL (i := i) (by simpa using hi') fun q s1 hR1 hc => LD_sl hc ?_
    rw [List.getElem_map, hq] at hR1
    rw [hq] at hnext
    refine hR1.ixI (i := 0) (by simp [four]) fun q _ hc => LD_int hc ?_
    refine hR1.ixI (i := 2) (by simp [four]) fun q _ hc => LD_int hc ?_
    refine cond_ne (fun h1 => ?_) (fun h1 w4 hE4 => hnext w4 hE4 (fun hF => hF.1 h1))
    refine hR1.ixI (i := 0) (by simp [four]) fun q _ hc => LD_int hc ?_
    refine hl.ixI (i := v) hv' fun q _ hc => LD_int hc ?_
    refine cond_dec (fun h2 => ?_) (fun h2 w4 hE4 => hnext w4 hE4 (fun hF => h2 (by have := hF.2.1; simpa [hv'] using this)))
    refine hR1.ixI (i := 2) (by simp [four]) fun q _ hc => LD_int hc ?_
    refine hl.ixI (i := x) hx' fun q _ hc => LD_int hc ?_
    intro w4 hE4
    refine cond_dec (fun h3 => ⟨?_, hE.trans hE4⟩) (fun h3 => hnext w4 hE4 (fun hF => h3 (by have := hF.2.2; simpa [hx'] using this)))
    simp only [Bool.false_eq_true, false_iff]
    intro hM
    refine hM _ (List.getElem_mem hi') ?_
    rw [hq]
    exact ⟨h1, by simpa [hv'] using h2, by simpa [hx'] using h3⟩
  · have : i = (edgesOf n.ends).length := by omega
    subst this
    simp only [true_iff]
    intro q hq
    exact ha q (by simpa using hq)

theorem sIsMaximalMatching_ok {w : World} {a b c s : Sl} {n : Net} {l : List Int} (h : RNet w a b c n) (hl : R w s l) :
    Calls Try.prog F.s_IsMaximalMatching #[.agg #[a.v, b.v, c.v], s.v] w (Ret [.at .bool, .at .bool] fun (x y : Bool) w' => Ans2 (MatchAsked n l) (Maximal n l) x y ∧ Ext w w') := by
  refine C_s_IsMaximalMatching ?_
  unfold V_s_IsMaximalMatching
  refine NEW_intro fun p w1 hp hs hE hb1 => LD_box3 hb1 ?_
  replace h := h.ext hE
  replace hl := hl.ext hE
  refine call (mtAsked_ok h hl) ?_
  rintro x w2 ⟨hx, hE2⟩
  replace h := h.ext hE2
  replace hl := hl.ext hE2
  replace hb1 := hb1.ext hE2
  replace hE := hE.ext hE2
  refine cond_not (fun hf => ⟨.no fun hg => ?_, hE⟩) (fun ht => LD_box3 hb1 ?_)
  · rw [hx.2 hg] at hf; cases hf
  have hg := hx.1 ht
  refine call (mtMaximal_ok h hl hg.good hg.is.1) ?_
  rintro y w3 ⟨hy, hE3⟩
  exact ⟨.mk hg hy, hE.trans hE3⟩

/-! ### Maximal independent sets -/

theorem areJoined_ok {w : World} {a b c : Sl} {n : Net} (h : RNet w a b c n) {u : Nat} (hu : u < n.ends.length) (v : Int) :
    Calls Try.prog F.i_areJoined #[.agg #[a.v, b.v, c.v], .int .i64 u, .int .i64 v] w (Ret [.at .bool] fun (x : Bool) w' => x = (adjOf n.ends u).contains v ∧ Ext w w') := by
  refine C_i_areJoined ?_
  unfold V_i_areJoined
  refine NEW_intro fun p w1 hp hs hE hb1 => ?_
  replace h := h.ext hE
  refine NEW_intro fun p2 w2 hp2 hs2 hE2 hb2 => ?_
  replace h := h.ext hE2
  replace hb1 := hb1.ext hE2
  replace hE := hE.ext hE2
  refine LD_bs0 hb1 ?_
  refine h.1.ixL hu fun q s1 hR hc => LD_sl hc ?_
  refine call (containsFuncE_ok (p := fun e => e.1 == v) hR ?_) ?_
  · intro e he w3 hE3
    refine CALLV_mk (by kernel_rfl) (C_i_areJoined_1 ?_)
    unfold V_i_areJoined_1
    refine NEW_intro fun p1 w4 hp1 hs4 hE4 hb4 => LD_bi0 hb4 (LD_bi ((hb2.ext hE3).ext hE4) ?_)
    exact ⟨rfl, hE4⟩
  · rintro x w3 ⟨rfl, hE3⟩
    refine ⟨?_, hE.trans hE3⟩
    unfold adjOf
    rw [rowOf_get hu, Bool.eq_iff_iff]
    simp [List.any_eq_true]

theorem hasNear_ok {w : World} {a b c s : Sl} {n : Net} {l : List Int} (h : RNet w a b c n) (hl : R w s l) {v : Nat} (hv : v < n.ends.length) :
    Calls Try.prog F.i_hasNear #[.agg #[a.v, b.v, c.v], .int .i64 v, s.v] w (Ret [.at .bool] fun (x : Bool) w' => (x = true ↔ ¬ Apart n.ends l v) ∧ Ext w w') := by
  refine C_i_hasNear ?_
  unfold V_i_hasNear
  refine NEW_intro fun p w1 hp hs hE hb1 => ?_
  replace h := h.ext hE
  replace hl := hl.ext hE
  refine NEW_intro fun p2 w2 hp2 hs2 hE2 hb2 => ?_
  replace h := h.ext hE2
  replace hb1 := hb1.ext hE2
  replace hE := hE.ext hE2
  replace hl := hl.ext hE2
  refine LD_bs0 hb1 ?_
  refine h.1.ixL hv fun q s1 hR hc => LD_sl hc ?_
  refine call (containsFuncE_ok (p := fun e => l.contains e.1) hR ?_) ?_
  · intro e he w3 hE3
    refine CALLV_mk (by kernel_rfl) (C_i_hasNear_1 ?_)
    unfold V_i_hasNear_1
    refine NEW_intro fun p1 w4 hp1 hs4 hE4 hb4 => LD_bs ((hb2.ext hE3).ext hE4) (LD_bi0 hb4 ?_)
    refine call (contains_ok ((hl.ext hE3).ext hE4) _) ?_
    rintro x _ ⟨rfl, rfl⟩
    exact ⟨rfl, hE4⟩
  · rintro x w3 ⟨rfl, hE3⟩
    refine ⟨?_, hE.trans hE3⟩
    unfold Apart adjOf
    rw [rowOf_get hv, List.any_eq_true]
    simp

theorem mtOwn_ok {w : World} {a b c : Sl} {n : Net} (h : RNet w a b c n) (hg : Good n) {v : Nat} (hv : v < n.ends.length) :
    Calls Try.prog F.s_mtOwn #[.agg #[a.v, b.v, c.v], .int .i64 v] w (Ret [.at .bool] fun (x : Bool) w' => x = (adjOf n.ends v).contains (v : Int) ∧ Ext w w') := by
  refine C_s_mtOwn ?_
  unfold V_s_mtOwn
  refine NEW_intro fun p w1 hp hs hE hb1 => LD_box3 hb1 ?_
  replace h := h.ext hE
  refine call (neNear_ok h hg hv) ?_
  rintro r w2 ⟨hE2, hO⟩
  refine call (l1Has_ok (hO.rep (adj_I64 hg hv)).any _) ?_
  rintro x _ ⟨rfl, rfl⟩
  exact ⟨rfl, hE.trans hE2⟩

/-- A node outside the set that has no edge to itself has a neighbour in it. -/
def MaxAt (E : Ends) (l : List Int) (v : Nat) : Prop := l.contains (v : Int) = false → (adjOf E v).contains (v : Int) = false → ¬ Apart E l v

def MaxIndep (E : Ends) (l : List Int) : Prop := (∀ v < E.length, MaxAt E l v) ∧ Indep E l

theorem IsMaximalIndependent_ok {w : World} {a b c s : Sl} {n : Net} {l : List Int} (h : RNet w a b c n) (hl : R w s l) (hn : Small n) :
    Calls Try.prog F.i_IsMaximalIndependent #[.agg #[a.v, b.v, c.v], s.v] w (Ret [.at .bool, .at .bool] fun (x y : Bool) w' => Ans2 (SetOk n l) (MaxIndep n.ends l) x y ∧ Ext w w') := by
  refine C_i_IsMaximalIndependent ?_
  unfold V_i_IsMaximalIndependent
  refine NEW_intro fun p w1 hp hs hE hb1 => LD_box3 hb1 ?_
  replace h := h.ext hE
  replace hl := hl.ext hE
  refine call (isNodeSet_ok h hl hn) ?_
  rintro x w2 ⟨hx, hE2⟩
  replace h := h.ext hE2
  replace hl := hl.ext hE2
  replace hb1 := hb1.ext hE2
  replace hE := hE.ext hE2
  refine cond_not (fun hf => ⟨.no fun hg => ?_, hE⟩) (fun ht => LD_bs0 hb1 ?_)
  · rw [hx.2 hg] at hf; cases hf
  have hg := hx.1 ht
  rw [h.1.len]
  have hN := h.1.le
  refine ⟨IN n.ends.length fun v w' => Ext w2 w' ∧ ∀ u < v, MaxAt n.ends l u, MN n.ends.length, IN_zero ⟨Ext.refl _, fun u hu => absurd hu (by omega)⟩, ?_⟩
  rintro _ w3 ⟨v, rfl, hv, hE3, hI⟩
  intros
  replace h := h.ext hE3
  replace hl := hl.ext hE3
  replace hb1 := hb1.ext hE3
  replace hE := hE.ext hE3
  refine cond_dec (fun hlt => ?_) (fun hge => LD_box3 hb1 ?_)
  · have hv' : v < n.ends.length := by omega
    refine call (contains_ok hl _) ?_
    rintro x _ ⟨rfl, rfl⟩
    refine cond_not (fun h1 => LD_box3 hb1 ?_) (fun h1 => IN_next hN hv' ⟨hE3, all_succ hI (fun h2 => by rw [h1] at h2; cases h2)⟩)
    refine call (areJoined_ok h hv' _) ?_
    rintro x w4 ⟨rfl, hE4⟩
    replace h := h.ext hE4
    replace hl := hl.ext hE4
    replace hb1 := hb1.ext hE4
    replace hE := hE.ext hE4
    replace hE3 := hE3.ext hE4
    refine cond_not (fun h2 => LD_box3 hb1 ?_) (fun h2 => IN_next hN hv' ⟨hE3, all_succ hI (fun _ h3 => by rw [h2] at h3; cases h3)⟩)
    refine call (hasNear_ok h hl hv') ?_
    rintro x w5 ⟨hx, hE5⟩
    replace hE := hE.ext hE5
    replace hE3 := hE3.ext hE5
    refine cond_not (fun hf => ⟨.mk hg ?_, hE⟩) (fun ht => IN_next hN hv' ⟨hE3, all_succ hI (fun _ _ => hx.1 ht)⟩)
    simp only [Bool.false_eq_true, false_iff]
    intro hM
    rw [hx.2 (hM.1 v hv' h1 h2)] at hf; cases hf
  · refine call (isIndependent_ok h hl hg.good) ?_
    rintro y w4 ⟨hy, hE4⟩
    refine ⟨.mk hg ?_, hE.trans hE4⟩
    rw [hy]
    exact ⟨fun h1 => ⟨fun u hu => hI u (by omega), h1⟩, fun h1 => h1.2⟩

theorem sIsMaximalIndependent_ok {w : World} {a b c s : Sl} {n : Net} {l : List Int} (h : RNet w a b c n) (hl : R w s l) :
    Calls Try.prog F.s_IsMaximalIndependent #[.agg #[a.v, b.v, c.v], s.v] w (Ret [.at .bool, .at .bool] fun (x y : Bool) w' => Ans2 (SetOk n l) (MaxIndep n.ends l) x y ∧ Ext w w') := by
  refine C_s_IsMaximalIndependent ?_
  unfold V_s_IsMaximalIndependent
  refine NEW_intro fun p w1 hp hs hE hb1 => LD_box3 hb1 ?_
  replace h := h.ext hE
  replace hl := hl.ext hE
  refine call (mtSet_ok h hl) ?_
  rintro x w2 ⟨hx, hE2⟩
  replace h := h.ext hE2
  replace hl := hl.ext hE2
  replace hb1 := hb1.ext hE2
  replace hE := hE.ext hE2
  refine cond_not (fun hf => ⟨.no fun hg => ?_, hE⟩) (fun ht => LD_bs0 hb1 ?_)
  · rw [hx.2 hg] at hf; cases hf
  have hg := hx.1 ht
  rw [h.1.len]
  have hN := h.1.le
  refine ⟨IN n.ends.length fun v w' => Ext w2 w' ∧ ∀ u < v, MaxAt n.ends l u, MN n.ends.length, IN_zero ⟨Ext.refl _, fun u hu => absurd hu (by omega)⟩, ?_⟩
  rintro _ w3 ⟨v, rfl, hv, hE3, hI⟩
  intros
  replace h := h.ext hE3
  replace hl := hl.ext hE3
  replace hb1 := hb1.ext hE3
  replace hE := hE.ext hE3
  refine cond_dec (fun hlt => ?_) (fun hge => LD_box3 hb1 ?_)
  · have hv' : v < n.ends.length := by omega
    refine call (l1Has_ok hl _) ?_
    rintro x _ ⟨rfl, rfl⟩
    refine cond_not (fun h1 => LD_box3 hb1 ?_) (fun h1 => IN_next hN hv' ⟨hE3, all_succ hI (fun h2 => by rw [h1] at h2; cases h2)⟩)
    refine call (mtOwn_ok h hg.good hv') ?_
    rintro x w4 ⟨rfl, hE4⟩
    replace h := h.ext hE4
    replace hl := hl.ext hE4
    replace hb1 := hb1.ext hE4
    replace hE := hE.ext hE4
    replace hE3 := hE3.ext hE4
    refine cond_not (fun h2 => LD_box3 hb1 ?_) (fun h2 => IN_next hN hv' ⟨hE3, all_succ hI (fun _ h3 => by rw [h2] at h3; cases h3)⟩)
    refine call (mtApart_ok h hl hg.good hv') ?_
    rintro x w5 ⟨hx, hE5⟩
    replace hE := hE.ext hE5
    replace hE3 := hE3.ext hE5
    refine cond_b (fun ht => ⟨.mk hg ?_, hE⟩) (fun hf => IN_next hN hv' ⟨hE3, all_succ hI (fun _ _ hA => by rw [hx.2 hA] at hf; cases hf)⟩)
    simp only [Bool.false_eq_true, false_iff]
    intro hM
    exact hM.1 v hv' h1 h2 (hx.1 ht)
  · refine call (mtIndependent_ok h hl hg) ?_
    rintro y w4 ⟨hy, hE4⟩
    refine ⟨.mk hg ?_, hE.trans hE4⟩
    rw [hy]
    exact ⟨fun h1 => ⟨fun u hu => hI u (by omega), h1⟩, fun h1 => h1.2⟩

end Go.Proofs.Ytghibjghjjnchaa
