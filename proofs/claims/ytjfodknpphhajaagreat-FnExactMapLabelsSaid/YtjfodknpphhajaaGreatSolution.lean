/- Labelings and their first faults, both sides. -/
import Derived.Test.YtjfodknpphhajaaGreatFault
namespace Go.Proofs.YtjfodknpphhajaaGreat
open Go.GX Go.RowKit
set_option maxRecDepth 100000

def edgeB (p : Prob) (a b : Int) : Bool := decide (sortI [a, b] ∈ p.edges)
def nodeB (p : Prob) (l : List Int) : Bool := decide (sortI l ∈ p.nodes)
theorem edgeB_iff {p : Prob} {a b : Int} : edgeB p a b = true ↔ EdgeIs p a b := by simp [edgeB, EdgeIs]
theorem nodeB_iff {p : Prob} {l : List Int} : nodeB p l = true ↔ NodeOk p l := by simp [nodeB, NodeOk]
theorem edgeB_no {p : Prob} {a b : Int} : edgeB p a b = false ↔ ¬ EdgeIs p a b := by rw [← edgeB_iff]; simp
theorem nodeB_no {p : Prob} {l : List Int} : nodeB p l = false ↔ ¬ NodeOk p l := by rw [← nodeB_iff]; simp

theorem bool_of {x : Bool} {A : Prop} {b : Bool} (h : x = true ↔ A) (hb : b = true ↔ A) : x = b := by rw [Bool.eq_iff_iff, h, hb]

theorem hasLabels_ok {w : World} {c d t : Sl} {p : Prob} {l : List Int} (hg : 1 ≤ p.labels ∧ p.labels ≤ 8) (hl : R w t l) :
    Calls Tryz.prog F.i_Problem_hasLabels #[.agg #[.int .i64 p.labels, .int .i64 p.degree, c.v, d.v], t.v] w (Ret [.at .bool] fun (x : Bool) w' => (x = true ↔ AllIn l 0 (p.labels - 1)) ∧ Ext w w') := by
  refine C_i_Problem_hasLabels ?_
  unfold V_i_Problem_hasLabels
  refine NEW_intro fun pa w1 hp hs1 hE hb => LD_bi0 hb ?_
  rw [wrap_of (n := p.labels - 1) (by omega) (by omega)]
  refine call (allWithin_ok (hl.ext hE) 0 (p.labels - 1)) ?_
  rintro x w2 ⟨hx, hE2⟩
  exact ⟨hx, hE.trans hE2⟩

theorem badRow_ok {w : World} {c d s : Sl} {p : Prob} {pp : Addr} {t : TypeId} {L : List (List Int)} (hb1 : Box w pp t [.int .i64 p.labels, .int .i64 p.degree, c.v, d.v]) (hp : PGood p) (hl : R w s L) :
    Calls Tryz.prog F.slices_ContainsFunc_sl_sl_int_sl_int #[s.v, .func (.func F.i_isLabeling_1) #[] #[.pointer (some pp)]] w (Ret [.at .bool] fun (y : Bool) w' => (y = true ↔ ∃ r ∈ L, ¬ AllIn r 0 (p.labels - 1)) ∧ Ext w w') := by
  refine C_slices_ContainsFunc_sl_sl_int_sl_int ?_
  unfold V_slices_ContainsFunc_sl_sl_int_sl_int
  refine C_slices_IndexFunc_sl_sl_int_sl_int ?_
  unfold V_slices_IndexFunc_sl_sl_int_sl_int
  rw [hl.len]
  refine ⟨IN L.length fun i w' => Ext w w' ∧ ∀ r ∈ L.take i, AllIn r 0 (p.labels - 1), MN L.length, IN_zero ⟨Ext.refl _, by simp⟩, ?_⟩
  rintro _ w4 ⟨i, rfl, hi, hE4, hI⟩
  intros
  refine cond_dec (fun hlt => ?_) (fun hge => ?_)
  · have hi' : i < L.length := by omega
    refine (hl.ext hE4).ixL hi' fun q s1 hR1 hc => LD_sl hc ?_
    refine CALLV_mk (by kernel_rfl) ?_
    refine C_i_isLabeling_1 ?_
    unfold V_i_isLabeling_1
    refine LD_iiss (hb1.ext hE4) ?_
    refine call (hasLabels_ok hp.lab hR1.any) ?_
    rintro y w5 ⟨hy, hE5⟩
    refine cond_not (fun hf => ⟨?_, hE4.trans hE5⟩) (fun ht2 => IN_next hl.le hi' ⟨hE4.trans hE5, fun r hr => ?_⟩)
    · have e : decide ((i : Int) ≥ 0) = true := by simp
      rw [e]
      simp only [true_iff]
      exact ⟨L[i], List.getElem_mem hi', fun hA => by rw [hy.2 hA] at hf; cases hf⟩
    · rw [List.take_succ_eq_append_getElem hi'] at hr
      rcases List.mem_append.1 hr with h1 | h1
      · exact hI r h1
      · rw [List.mem_singleton.1 h1]; exact hy.1 ht2
  · have : i = L.length := by omega
    subst this
    rw [List.take_length] at hI
    refine ⟨?_, hE4⟩
    have e : decide ((-1 : Int) ≥ 0) = false := by decide
    rw [e]
    simp only [Bool.false_eq_true, false_iff]
    rintro ⟨r, hr, hn⟩
    exact hn (hI r hr)

theorem isLabeling_ok {w : World} {c d a b e s : Sl} {p : Prob} {n : Net} {L : List (List Int)} (_ : RProb w c d p) (hp : PGood p) (h : RNet w a b e n) (hl : R w s L) :
    Calls Tryz.prog F.i_isLabeling #[.agg #[.int .i64 p.labels, .int .i64 p.degree, c.v, d.v], .agg #[a.v, b.v, e.v], s.v] w (Ret [.at .bool] fun (x : Bool) w' => (x = true ↔ LabOk p n.ends L) ∧ Ext w w') := by
  refine C_i_isLabeling ?_
  unfold V_i_isLabeling
  refine NEW_intro fun pp w1 hp1 hs1 hE1 hb1 => NEW_intro fun pn w2 hp2 hs2 hE2 hb2 => LD_box3 hb2 ?_
  have hE := hE1.trans hE2
  replace h := h.ext hE
  replace hl := hl.ext hE
  replace hb1 := hb1.ext hE2
  refine call (portsOk_ok h hl) ?_
  rintro x w3 ⟨hx, hE3⟩
  replace hE := hE.ext hE3
  replace h := h.ext hE3
  replace hl := hl.ext hE3
  replace hb1 := hb1.ext hE3
  refine cond_b (fun ht => ?_) (fun hf => ⟨?_, hE⟩)
  rotate_left
  · simp only [Bool.false_eq_true, false_iff]
    intro hL
    rw [hx.2 hL.rows] at hf; cases hf
  refine call (badRow_ok hb1 hp hl) ?_
  rintro y w4 ⟨hy, hE4⟩
  refine ⟨?_, hE.trans hE4⟩
  constructor
  · intro hh
    refine ⟨hx.1 ht, fun r hr => Classical.byContradiction fun hn => ?_⟩
    have hyt := hy.2 ⟨r, hr, hn⟩
    rw [hyt] at hh; cases hh
  · intro hL
    cases hyb : y with
    | false => rfl
    | true =>
      obtain ⟨r, hr, hn⟩ := hy.1 hyb
      exact absurd (hL.labs r hr) hn

theorem prShape_ok {w : World} {c d a b e s : Sl} {p : Prob} {n : Net} {L : List (List Int)} (_ : RProb w c d p) (hp : PGood p) (h : RNet w a b e n) (hl : R w s L) :
    Calls Tryz.prog F.s_prShape #[.agg #[.int .i64 p.labels, .int .i64 p.degree, c.v, d.v], .agg #[a.v, b.v, e.v], s.v] w (Ret [.at .bool] fun (x : Bool) w' => (x = true ↔ LabOk p n.ends L) ∧ Ext w w') := by
  refine C_s_prShape ?_
  unfold V_s_prShape
  refine NEW_intro fun pp w1 hp1 hs1 hE1 hb1 => NEW_intro fun pn w2 hp2 hs2 hE2 hb2 => LD_bs0 hb2 ?_
  have hE := hE1.trans hE2
  replace h := h.ext hE
  replace hl := hl.ext hE
  replace hb1 := hb1.ext hE2
  rw [h.1.len, hl.len]
  refine cond_ne (fun hne => ⟨?_, hE⟩) (fun heq => ?_)
  · simp only [Bool.false_eq_true, false_iff]
    intro hL; have := hL.rows.1; omega
  have hlen : L.length = n.ends.length := by have heq' : ((L.length : Nat) : Int) = (n.ends.length : Nat) := heq; omega
  refine ⟨IN L.length fun i w' => w2 = w' ∧ (∀ u < i, (L.getD u []).length = (n.ends.getD u []).length) ∧ ∀ r ∈ L.take i, AllIn r 0 (p.labels - 1), MN L.length, IN_zero ⟨rfl, fun u hu => absurd hu (by omega), by simp⟩, ?_⟩
  rintro _ _ ⟨i, rfl, hi, rfl, hI1, hI2⟩
  intros
  refine cond_dec (fun hlt => ?_) (fun hge => ?_)
  rotate_left
  · have : i = L.length := by omega
    subst this
    rw [List.take_length] at hI2
    refine ⟨?_, hE⟩
    simp only [true_iff]
    exact ⟨⟨hlen, hI1⟩, hI2⟩
  have hi' : i < L.length := by omega
  have hie : i < n.ends.length := by omega
  refine hl.ixL hi' fun q s1 hR1 hc => LD_sl hc (LD_bs0 hb2 ?_)
  refine h.1.ixL hie fun q s2 hR2 hc => LD_sl hc ?_
  rw [hR1.len, hR2.len]
  refine cond_ne (fun hne => ⟨?_, hE⟩) (fun heq2 => LD_bi0 hb1 ?_)
  · simp only [Bool.false_eq_true, false_iff]
    intro hL
    have := hL.rows.2 i hi'
    rw [rowD hi', rowD hie] at this
    exact hne (by omega)
  rw [wrap_of (n := p.labels - 1) (by have := hp.lab; omega) (by have := hp.lab; omega)]
  refine call (l1All_ok hR1.any 0 (p.labels - 1)) ?_
  rintro y _ ⟨hy, rfl⟩
  refine cond_not (fun hf => ⟨?_, hE⟩) (fun ht => IN_next hl.le hi' ⟨rfl, all_succ hI1 ?_, fun r hr => ?_⟩)
  · simp only [Bool.false_eq_true, false_iff]
    intro hL
    rw [hy.2 (hL.labs _ (List.getElem_mem hi'))] at hf; cases hf
  · rw [rowD hi', rowD hie]
    have heq2' : ((L[i].length : Nat) : Int) = (n.ends[i].length : Nat) := heq2
    omega
  · rw [List.take_succ_eq_append_getElem hi'] at hr
    rcases List.mem_append.1 hr with h1 | h1
    · exact hI2 r h1
    · rw [List.mem_singleton.1 h1]; exact hy.1 ht

theorem prAsked_ok {w : World} {c d a b e s : Sl} {p : Prob} {n : Net} {L : List (List Int)} (hq : RProb w c d p) (h : RNet w a b e n) (hl : R w s L) :
    Calls Tryz.prog F.s_prAsked #[.agg #[.int .i64 p.labels, .int .i64 p.degree, c.v, d.v], .agg #[a.v, b.v, e.v], s.v] w (Ret [.at .bool] fun (x : Bool) w' => (x = true ↔ SolAsked p n L) ∧ Ext w w') := by
  refine C_s_prAsked ?_
  unfold V_s_prAsked
  refine NEW_intro fun pp w1 hp1 hs1 hE1 hb1 => NEW_intro fun pn w2 hp2 hs2 hE2 hb2 => LD_iiss (hb1.ext hE2) ?_
  have hE := hE1.trans hE2
  replace hq := hq.ext hE
  replace h := h.ext hE
  replace hl := hl.ext hE
  replace hb1 := hb1.ext hE2
  have hno : ∀ {w' : World}, Ext w w' → ¬ SolAsked p n L → (false = true ↔ SolAsked p n L) ∧ Ext w w' := fun h1 h2 => ⟨by simp [h2], h1⟩
  refine call (prGood_ok hq) ?_
  rintro x w3 ⟨hx, hE3⟩
  replace hE := hE.ext hE3
  replace hq := hq.ext hE3
  replace h := h.ext hE3
  replace hl := hl.ext hE3
  replace hb1 := hb1.ext hE3
  replace hb2 := hb2.ext hE3
  refine cond_b (fun ht => LD_box3 hb2 ?_) (fun hf => hno hE fun hA => by rw [hx.2 hA.prob] at hf; cases hf)
  refine call (neGood_ok h) ?_
  rintro y w4 ⟨hy, hE4⟩
  replace hE := hE.ext hE4
  replace hq := hq.ext hE4
  replace h := h.ext hE4
  replace hl := hl.ext hE4
  replace hb1 := hb1.ext hE4
  replace hb2 := hb2.ext hE4
  refine cond_b (fun ht2 => LD_iiss hb1 (LD_box3 hb2 ?_)) (fun hf => hno hE fun hA => by rw [hy.2 hA.good] at hf; cases hf)
  refine call (prShape_ok hq (hx.1 ht) h hl) ?_
  rintro z w5 ⟨hz, hE5⟩
  exact ⟨⟨fun hzt => ⟨hx.1 ht, hy.1 ht2, hz.1 hzt⟩, fun hA => hz.2 hA.lab⟩, hE.trans hE5⟩

/-! ### The first fault -/

structure FaultIn (p : Prob) (n : Net) (L : List (List Int)) : Prop where
  prob : PGood p
  good : Good n
  lab : LabOk p n.ends L

theorem SolAsked.fin {p : Prob} {n : Net} {L : List (List Int)} (h : SolAsked p n L) : FaultIn p n L := ⟨h.prob, h.good, h.lab⟩

theorem FaultIn.row {p : Prob} {n : Net} {L : List (List Int)} (h : FaultIn p n L) {v : Nat} (hv : v < L.length) (hve : v < n.ends.length) : L[v].length = n.ends[v].length ∧ (∀ x ∈ L[v], I64 x) ∧ L[v].length ≤ 6 := by
  have h1 := h.lab.rows.2 v hv
  rw [rowD hv, rowD hve] at h1
  have h2 := h.good.deg hve
  refine ⟨h1, fun x hx => ?_, by omega⟩
  have := h.lab.labs _ (List.getElem_mem hv) x hx
  have := h.prob.lab
  unfold I64; omega

theorem endOf_get {E : Ends} {v k : Nat} (hv : v < E.length) (hk : k < E[v].length) : endOf E v k = E[v][k] := by
  unfold endOf; rw [rowD hv]; simp [hk]

theorem portBad_iff {p : Prob} {n : Net} {L : List (List Int)} {v k : Nat} (hv : v < n.ends.length) (hk : k < n.ends[v].length) : PortBad p n.ends L v k ↔ isFirst v k n.ends[v][k] = true ∧ edgeB p (at2 L v k) (at2 L n.ends[v][k].1.toNat n.ends[v][k].2.toNat) = false := by
  unfold PortBad
  rw [endOf_get hv hk, rowD hv, edgeB_no]
  exact ⟨fun h => h.2, fun h => ⟨hk, h⟩⟩

theorem noPort_ge {p : Prob} {n : Net} {L : List (List Int)} {v : Nat} (hv : v < n.ends.length) {k : Nat} (hk : n.ends[v].length ≤ k) : ¬ PortBad p n.ends L v k := fun h => by
  have := h.1
  rw [rowD hv] at this
  omega

theorem edgeQ {w : World} {c d : Sl} {p : Prob} {a b : Int} (h : RProb w c d p) (hs : SmallP p) (hg : PGood p) (ha : I64 a) (hb : I64 b) : ∀ w', Ext w w' → Calls Tryz.prog F.i_Problem_edge #[.agg #[.int .i64 p.labels, .int .i64 p.degree, c.v, d.v], .int .i64 a, .int .i64 b] w' (Ret [.at .bool] fun (x : Bool) w'' => x = edgeB p a b ∧ Ext w' w'') := fun w' hE =>
  call (edge_ok (h.ext hE) hs hg ha hb) fun _ _ ⟨h1, h2⟩ => ⟨bool_of h1 edgeB_iff, h2⟩

/-! ### The statements' answers -/

end Go.Proofs.YtjfodknpphhajaaGreat
