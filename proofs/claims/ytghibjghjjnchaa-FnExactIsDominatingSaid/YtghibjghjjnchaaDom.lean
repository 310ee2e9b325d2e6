/- Dominating sets: both sides' tests. -/
import Derived.Test.YtghibjghjjnchaaFar
import Derived.Test.YtghibjghjjnchaaMax
namespace Go.Proofs.Ytghibjghjjnchaa
open Go.GX Go.RowKit
set_option maxRecDepth 100000

/-- The least of the distances that are not negative. -/
def FarP (D l : List Int) (m : Int) : Prop := ∀ β : Int, (0 ≤ m ∧ m ≤ β) ↔ ∃ s ∈ l, 0 ≤ D.getD s.toNat (-1) ∧ D.getD s.toNat (-1) ≤ β

theorem farP_nil (D : List Int) : FarP D [] (-1) := fun β => by
  constructor
  · rintro ⟨h, _⟩; omega
  · rintro ⟨s, hs, _⟩; cases hs

theorem farP_keep {D l : List Int} {m s : Int} (h : FarP D l m) (hs : D.getD s.toNat (-1) < 0 ∨ (0 ≤ m ∧ m ≤ D.getD s.toNat (-1))) : FarP D (l ++ [s]) m := fun β => by
  rw [h β]
  constructor
  · rintro ⟨x, hx, h1⟩
    exact ⟨x, by simp [hx], h1⟩
  · rintro ⟨x, hx, h1⟩
    rcases List.mem_append.1 hx with h2 | h2
    · exact ⟨x, h2, h1⟩
    · rw [List.mem_singleton.1 h2] at h1
      rcases hs with h3 | h3
      · omega
      · exact (h β).1 (by omega)

theorem farP_take {D l : List Int} {m s : Int} (h : FarP D l m) (h0 : 0 ≤ D.getD s.toNat (-1)) (hs : m < 0 ∨ D.getD s.toNat (-1) < m) : FarP D (l ++ [s]) (D.getD s.toNat (-1)) := fun β => by
  constructor
  · rintro h1
    exact ⟨s, by simp, h1⟩
  · rintro ⟨x, hx, h1⟩
    rcases List.mem_append.1 hx with h2 | h2
    · have := (h β).2 ⟨x, h2, h1⟩
      omega
    · rw [List.mem_singleton.1 h2] at h1
      exact h1

theorem ruFar_ok {w : World} {a b c s : Sl} {n : Net} {l : List Int} (h : RNet w a b c n) (hl : R w s l) (hS : SetOk n l) {v : Nat} (hv : v < n.ends.length) :
    Calls Try.prog F.s_ruFar #[.agg #[a.v, b.v, c.v], s.v, .int .i64 v] w (Ret [.at (.int .i64)] fun (m : Int) w' => (∃ D, Dists n.ends v D ∧ FarP D l m) ∧ Ext w w') := by
  refine C_s_ruFar ?_
  unfold V_s_ruFar
  refine NEW_intro fun p w1 hp hs hE hb1 => LD_box3 hb1 ?_
  replace h := h.ext hE
  replace hl := hl.ext hE
  refine call (meFrom_ok h hS.good hv) ?_
  rintro r w2 ⟨hE2, D, hO, hD, hel⟩
  replace hl := hl.ext hE2
  replace hE := hE.ext hE2
  have h40 := hS.good.size.2
  have hR := (hO.rep (ints_ok hel (by omega))).any
  rw [hl.len]
  refine ⟨IN2 l.length fun i m w' => w2 = w' ∧ FarP D (l.take i) m, MN2 l.length, IN2_zero ⟨rfl, by simpa using farP_nil D⟩, ?_⟩
  rintro m _ w3 ⟨i, rfl, hi, rfl, hF⟩
  intros
  refine cond_dec (fun hlt => ?_) (fun hge => ?_)
  · have hi' : i < l.length := by omega
    refine hl.ixI hi' fun q _ hc => LD_int hc ?_
    obtain ⟨u, hu, hul⟩ := hS.node _ (List.getElem_mem hi')
    have huD : u < D.length := by rw [hD.len]; exact hul
    have hgd : D.getD u (-1) = D[u] := by simp [huD]
    have hst : l.take (i + 1) = l.take i ++ [(u : Int)] := by rw [List.take_succ_eq_append_getElem hi', hu]
    have hnx : ∀ m', FarP D (l.take i ++ [(u : Int)]) m' → V_s_ruFar_k3 (IN2 l.length fun i m w' => w2 = w' ∧ FarP D (l.take i) m) (MN2 l.length) m i w2 m' w2 := by
      intro m' hF'
      refine IN2_next hl.le hi' ⟨rfl, ?_⟩
      rw [hst]; exact hF'
    rw [hu]
    refine hR.ixI huD fun q _ hc => LD_int hc ?_
    refine cond_dec (fun h1 => ?_) (fun h1 => hnx m (farP_keep hF (.inl (by simp only [Int.toNat_natCast, hgd]; omega))))
    have htake : (m < 0 ∨ D[u] < m) → FarP D (l.take i ++ [(u : Int)]) D[u] := by
      intro h2
      have := farP_take (s := (u : Int)) hF (by simp only [Int.toNat_natCast, hgd]; omega) (by simp only [Int.toNat_natCast, hgd]; exact h2)
      simpa only [Int.toNat_natCast, hgd] using this
    refine cond_dec (fun h2 => ?_) (fun h2 => ?_)
    · refine hR.ixI huD fun q _ hc => LD_int hc ?_
      exact hnx _ (htake (.inl h2))
    · refine hR.ixI huD fun q _ hc => LD_int hc ?_
      refine cond_dec (fun h3 => ?_) (fun h3 => hnx m (farP_keep hF (.inr (by simp only [Int.toNat_natCast, hgd]; omega))))
      refine hR.ixI huD fun q _ hc => LD_int hc ?_
      exact hnx _ (htake (.inr h3))
  · have : i = l.length := by omega
    subst this
    refine ⟨⟨D, hD, ?_⟩, hE⟩
    simpa using hF

/-- A node of the set lies within β steps. -/
def Within (E : Ends) (l : List Int) (β : Int) (v : Nat) : Prop := ∃ s : Nat, (s : Int) ∈ l ∧ ∃ k : Nat, (k : Int) ≤ β ∧ Reach E v k s

theorem farP_within {n : Net} {l : List Int} (hS : SetOk n l) {v : Nat} {D : List Int} (hD : Dists n.ends v D) {m : Int} (hF : FarP D l m) (β : Int) : (0 ≤ m ∧ m ≤ β) ↔ Within n.ends l β v := by
  rw [hF β]
  constructor
  · rintro ⟨x, hx, h0, h1⟩
    obtain ⟨u, rfl, _⟩ := hS.node x hx
    simp only [Int.toNat_natCast] at h0 h1
    obtain ⟨d, hd⟩ := Int.eq_ofNat_of_zero_le h0
    exact ⟨u, hx, d, by omega, hD.sound u d hd⟩
  · rintro ⟨u, hu, k, hk, hr⟩
    have := hD.least k u hr
    refine ⟨u, hu, ?_⟩
    simp only [Int.toNat_natCast]
    omega

theorem ruCovers_ok {w : World} {a b c s : Sl} {n : Net} {l : List Int} (h : RNet w a b c n) (hl : R w s l) (hS : SetOk n l) (β : Int) :
    Calls Try.prog F.s_ruCovers #[.agg #[a.v, b.v, c.v], s.v, .int .i64 β] w (Ret [.at .bool] fun (x : Bool) w' => (x = true ↔ ∀ v < n.ends.length, Within n.ends l β v) ∧ Ext w w') := by
  refine C_s_ruCovers ?_
  unfold V_s_ruCovers
  refine NEW_intro fun p w1 hp hs hE hb1 => LD_bs0 hb1 ?_
  replace h := h.ext hE
  replace hl := hl.ext hE
  rw [h.1.len]
  have hN := h.1.le
  refine ⟨IN n.ends.length fun v w' => Ext w1 w' ∧ ∀ u < v, Within n.ends l β u, MN n.ends.length, IN_zero ⟨Ext.refl _, fun u hu => absurd hu (by omega)⟩, ?_⟩
  rintro _ w2 ⟨v, rfl, hv, hE2, hI⟩
  intros
  replace h := h.ext hE2
  replace hl := hl.ext hE2
  replace hb1 := hb1.ext hE2
  replace hE := hE.ext hE2
  refine cond_dec (fun hlt => LD_box3 hb1 ?_) (fun hge => ⟨?_, hE⟩)
  · have hv' : v < n.ends.length := by omega
    refine call (ruFar_ok h hl hS hv') ?_
    rintro m w3 ⟨⟨D, hD, hF⟩, hE3⟩
    replace hE := hE.ext hE3
    replace hE2 := hE2.ext hE3
    refine call (l1In_ok _ _ _ _) ?_
    rintro x _ ⟨rfl, rfl⟩
    have hw := farP_within hS hD hF β
    refine cond_not (fun hf => ⟨?_, hE⟩) (fun ht => IN_next hN hv' ⟨hE2, all_succ hI (hw.1 (inR_true ht))⟩)
    simp only [Bool.false_eq_true, false_iff]
    intro hall
    exact inR_false hf (hw.2 (hall v hv'))
  · simp only [true_iff]
    exact fun u hu => hI u (by omega)

theorem within_one (E : Ends) (l : List Int) (v : Nat) (hn : ∀ x ∈ adjOf E v, ∃ u : Nat, x = u) : Within E l 1 v ↔ (v : Int) ∈ l ∨ ¬ Apart E l v := by
  constructor
  · rintro ⟨s, hs, k, hk, hr⟩
    match k, hr with
    | 0, hr => left; have hr' : s = v := hr; subst hr'; exact hs
    | 1, ⟨y, hy, hm⟩ =>
      have hy' : y = v := hy
      subst hy'
      right
      exact fun hA => hA _ hm hs
    | k + 2, _ => push_cast at hk; omega
  · rintro (h | h)
    · exact ⟨v, h, 0, by omega, rfl⟩
    · unfold Apart at h
      have h' : ∃ x, x ∈ adjOf E v ∧ x ∈ l := by
        apply Classical.byContradiction
        intro hc
        exact h (fun x hx hxl => hc ⟨x, hx, hxl⟩)
      obtain ⟨x, hx, hxl⟩ := h'
      obtain ⟨u, rfl⟩ := hn x hx
      exact ⟨u, hxl, 1, by omega, v, rfl, hx⟩

/-! ### The program's side -/

def upTo (n : Nat) : List Int := (List.range n).map fun (k : Nat) => (k : Int)

theorem upTo_len (n : Nat) : (upTo n).length = n := by simp [upTo]
theorem upTo_ok (n : Nat) (hn : n ≤ 1048576) : ∀ x ∈ upTo n, Flat.ok x := fun x hx => by
  obtain ⟨k, hk, rfl⟩ := List.mem_map.1 hx
  have := List.mem_range.1 hk
  show I64 _
  unfold I64
  omega

theorem numbersTo_ok (n : Nat) (hn : n ≤ 1048576) (w : World) :
    Calls Try.prog F.i_numbersTo #[.int .i64 n] w (Ret [.at .sl] fun (r : Sl) w' => Ext w w' ∧ OwnL w' w.heap.size T.t_int r (upTo n)) := by
  refine C_i_numbersTo ?_
  unfold V_i_numbersTo
  refine RUN_make (α := Int) slt_int (d := 0) rfl (by omega) (by unfold maxLen; omega) fun s w1 hE1 hO1 => ?_
  have hsl : s.len = n := by have := hO1.1; simpa using this
  rw [hsl]
  have hul := upTo_len n
  refine ⟨IN n fun i w' => Ext w w' ∧ OwnL w' w.heap.size T.t_int s ((upTo n).take i ++ List.replicate (n - i) 0), MN n, IN_zero ⟨hE1, by simpa using hO1⟩, ?_⟩
  rintro _ w2 ⟨i, rfl, hi, hE, hO⟩
  intros
  refine cond_dec (fun hlt => ?_) (fun hge => ?_)
  · have hi' : i < n := by omega
    have hfl : ((upTo n).take i ++ List.replicate (n - i) 0).length = n := by simp [hul]; omega
    refine IX_own hO (by rw [hfl]; exact hi') rfl fun q hq => ?_
    refine ST_own hO (by rw [hfl]; exact hi') hq (i : Int) rfl fun w3 hO3 hs3 => ?_
    refine IN_next (by omega) hi' ⟨hs3.ext0 hE (fun k hk => (hO.blk k hk).1), ?_⟩
    have hf := fill_step (l := upTo n) (i := i) (by rw [hul]; exact hi') 0
    have hui : (upTo n)[i]'(by rw [hul]; exact hi') = (i : Int) := by simp [upTo]
    rw [hui, hul] at hf
    rw [← hf]
    exact hO3
  · have : i = n := by omega
    subst this
    refine ⟨hE, ?_⟩
    have h1 : (upTo i).take i = upTo i := List.take_of_length_le (by rw [hul]; exact Nat.le_refl _)
    rw [h1] at hO
    simpa using hO

def DomAt (E : Ends) (l : List Int) (v : Nat) : Prop := (v : Int) ∈ l ∨ ¬ Apart E l v
def Dom (E : Ends) (l : List Int) : Prop := ∀ v < E.length, DomAt E l v

open Classical in
theorem isDominating_ok {w : World} {a b c s : Sl} {n : Net} {l : List Int} (h : RNet w a b c n) (hl : R w s l) (hg : Good n) :
    Calls Try.prog F.i_isDominating #[.agg #[a.v, b.v, c.v], s.v] w (Ret [.at .bool] fun (x : Bool) w' => (x = true ↔ Dom n.ends l) ∧ Ext w w') := by
  refine C_i_isDominating ?_
  unfold V_i_isDominating
  refine NEW_intro fun p w1 hp hs hE hb1 => ?_
  replace h := h.ext hE
  replace hl := hl.ext hE
  refine NEW_intro fun p2 w2 hp2 hs2 hE2 hb2 => ?_
  replace h := h.ext hE2
  replace hl := hl.ext hE2
  replace hb1 := hb1.ext hE2
  replace hE := hE.ext hE2
  refine LD_bs0 hb1 ?_
  rw [h.1.len]
  have h40 := hg.size.2
  refine call (numbersTo_ok n.ends.length (by omega) _) ?_
  rintro r w3 ⟨hE3, hO⟩
  replace h := h.ext hE3
  replace hl := hl.ext hE3
  replace hb1 := hb1.ext hE3
  replace hb2 := hb2.ext hE3
  replace hE := hE.ext hE3
  refine call (containsFuncI_ok (p := fun x => decide (¬ DomAt n.ends l x.toNat)) (hO.rep (upTo_ok _ (by omega))).any ?_) ?_
  · intro x hx w4 hE4
    replace h := h.ext hE4
    replace hl := hl.ext hE4
    replace hb1 := hb1.ext hE4
    replace hb2 := hb2.ext hE4
    obtain ⟨v, hv, rfl⟩ := List.mem_map.1 hx
    have hv' : v < n.ends.length := List.mem_range.1 hv
    refine CALLV_mk (by kernel_rfl) (C_i_isDominating_1 ?_)
    unfold V_i_isDominating_1
    refine LD_bs hb2 ?_
    refine call (contains_ok hl _) ?_
    rintro y _ ⟨rfl, rfl⟩
    refine cond_not (fun h1 => LD_box3 hb1 (LD_bs hb2 ?_)) (fun h1 => ⟨?_, Ext.refl _⟩)
    · refine call (hasNear_ok h hl hv') ?_
      rintro y w5 ⟨hy, hE5⟩
      refine ⟨?_, hE5⟩
      have h1' : (v : Int) ∉ l := by simpa using h1
      rw [Bool.eq_iff_iff, Bool.not_eq_true', ← Bool.not_eq_true, hy, decide_eq_true_iff]
      simp only [Int.toNat_natCast, DomAt, h1', false_or]
    · have h1' : (v : Int) ∈ l := by simpa using h1
      rw [Bool.eq_iff_iff, decide_eq_true_iff]
      simp [DomAt, h1']
  · rintro y w4 ⟨rfl, hE4⟩
    refine ⟨?_, hE.trans hE4⟩
    rw [Bool.not_eq_true', List.any_eq_false]
    constructor
    · intro h1 v hv
      have := h1 (v : Int) (List.mem_map.2 ⟨v, List.mem_range.2 hv, rfl⟩)
      simpa using this
    · intro h1 x hx
      obtain ⟨v, hv, rfl⟩ := List.mem_map.1 hx
      have := h1 v (List.mem_range.1 hv)
      simpa using this

theorem IsDominating_ok {w : World} {a b c s : Sl} {n : Net} {l : List Int} (h : RNet w a b c n) (hl : R w s l) (hn : Small n) :
    Calls Try.prog F.i_IsDominating #[.agg #[a.v, b.v, c.v], s.v] w (Ret [.at .bool, .at .bool] fun (x y : Bool) w' => Ans2 (SetOk n l) (Dom n.ends l) x y ∧ Ext w w') := by
  refine C_i_IsDominating ?_
  unfold V_i_IsDominating
  refine NEW_intro fun p w1 hp hs hE hb1 => LD_box3 hb1 ?_
  replace h := h.ext hE
  replace hl := hl.ext hE
  refine call (isNodeSet_ok h hl hn) ?_
  rintro x w2 ⟨hx, hE2⟩
  replace h := h.ext hE2
  replace hl := hl.ext hE2
  replace hb1 := hb1.ext hE2
  replace hE := hE.ext hE2
  refine cond_not (fun hf => ⟨.no fun hg => ?_, hE⟩) (fun ht => LD_box3 hb1 ?_)
  · rw [hx.2 hg] at hf; cases hf
  have hg := hx.1 ht
  refine call (isDominating_ok h hl hg.good) ?_
  rintro y w3 ⟨hy, hE3⟩
  exact ⟨.mk hg hy, hE.trans hE3⟩

theorem ruSet_ok {w : World} {a b c s : Sl} {n : Net} {l : List Int} (h : RNet w a b c n) (hl : R w s l) :
    Calls Try.prog F.s_ruSet #[.agg #[a.v, b.v, c.v], s.v] w (Ret [.at .bool] fun (x : Bool) w' => (x = true ↔ SetOk n l) ∧ Ext w w') := by
  refine C_s_ruSet ?_
  unfold V_s_ruSet
  refine NEW_intro fun p w1 hp hs hE hb1 => LD_box3 hb1 ?_
  replace h := h.ext hE
  replace hl := hl.ext hE
  refine call (neGood_ok h) ?_
  rintro x w2 ⟨hx, hE2⟩
  replace h := h.ext hE2
  replace hl := hl.ext hE2
  replace hb1 := hb1.ext hE2
  replace hE := hE.ext hE2
  have hle := h.1.le
  refine cond_b (fun ht => LD_bs0 hb1 ?_) (fun hf => ⟨?_, hE⟩)
  · rw [h.1.len, wrap_of (by omega) (by omega)]
    refine call (l1Rising_ok hl _ _) ?_
    rintro y _ ⟨hy, rfl⟩
    refine ⟨?_, hE⟩
    rw [hy]
    exact ⟨fun h1 => ⟨hx.1 ht, h1⟩, fun h1 => h1.rising⟩
  · simp only [Bool.false_eq_true, false_iff]
    intro h1
    rw [hx.2 h1.good] at hf; cases hf

theorem sIsDominating_ok {w : World} {a b c s : Sl} {n : Net} {l : List Int} (h : RNet w a b c n) (hl : R w s l) :
    Calls Try.prog F.s_IsDominating #[.agg #[a.v, b.v, c.v], s.v] w (Ret [.at .bool, .at .bool] fun (x y : Bool) w' => Ans2 (SetOk n l) (Dom n.ends l) x y ∧ Ext w w') := by
  refine C_s_IsDominating ?_
  unfold V_s_IsDominating
  refine NEW_intro fun p w1 hp hs hE hb1 => LD_box3 hb1 ?_
  replace h := h.ext hE
  replace hl := hl.ext hE
  refine call (ruSet_ok h hl) ?_
  rintro x w2 ⟨hx, hE2⟩
  replace h := h.ext hE2
  replace hl := hl.ext hE2
  replace hb1 := hb1.ext hE2
  replace hE := hE.ext hE2
  refine cond_not (fun hf => ⟨.no fun hg => ?_, hE⟩) (fun ht => LD_box3 hb1 ?_)
  · rw [hx.2 hg] at hf; cases hf
  have hg := hx.1 ht
  refine call (ruCovers_ok h hl hg 1) ?_
  rintro y w3 ⟨hy, hE3⟩
  refine ⟨.mk hg ?_, hE.trans hE3⟩
  rw [hy]
  unfold Dom
  have hw : ∀ v < n.ends.length, (Within n.ends l 1 v ↔ DomAt n.ends l v) := fun v hv => within_one n.ends l v (fun x hx => by
    obtain ⟨u, hu, _⟩ := adj_ok hg.good hv x hx
    exact ⟨u, hu⟩)
  exact ⟨fun h1 v hv => (hw v hv).1 (h1 v hv), fun h1 v hv => (hw v hv).2 (h1 v hv)⟩

end Go.Proofs.Ytghibjghjjnchaa
