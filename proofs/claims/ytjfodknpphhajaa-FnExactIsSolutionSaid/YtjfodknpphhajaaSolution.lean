/- Labelings and their first faults, both sides. -/
import Derived.Test.YtjfodknpphhajaaFault
namespace Go.Proofs.Ytjfodknpphhajaa
open Go.GX Go.RowKit
set_option maxRecDepth 100000

def edgeB (p : Prob) (a b : Int) : Bool := decide (sortI [a, b] ∈ p.edges)
def nodeB (p : Prob) (l : List Int) : Bool := decide (sortI l ∈ p.nodes)
theorem edgeB_iff {p : Prob} {a b : Int} : edgeB p a b = true ↔ EdgeIs p a b := by simp [edgeB, EdgeIs]
theorem nodeB_iff {p : Prob} {l : List Int} : nodeB p l = true ↔ NodeOk p l := by simp [nodeB, NodeOk]
theorem edgeB_no {p : Prob} {a b : Int} : edgeB p a b = false ↔ ¬ EdgeIs p a b := by rw [← edgeB_iff]; simp
theorem nodeB_no {p : Prob} {l : List Int} : nodeB p l = false ↔ ¬ NodeOk p l := by rw [← nodeB_iff]; simp

theorem bool_of {x : Bool} {A : Prop} {b : Bool} (h : x = true ↔ A) (hb : b = true ↔ A) : x = b := by rw [Bool.eq_iff_iff, h, hb]

theorem hasLabels_ok {w : World} {c d t : Sl} {p : Prob} {l : List Int} (hg : 1 ≤ p.labels ∧ p.labels ≤ 8) (hl : R w t l) :
    Calls Try.prog F.i_Problem_hasLabels #[.agg #[.int .i64 p.labels, .int .i64 p.degree, c.v, d.v], t.v] w (Ret [.at .bool] fun (x : Bool) w' => (x = true ↔ AllIn l 0 (p.labels - 1)) ∧ Ext w w') := by
  refine C_i_Problem_hasLabels ?_
  unfold V_i_Problem_hasLabels
  refine NEW_intro fun pa w1 hp hs1 hE hb => LD_bi0 hb ?_
  rw [wrap_of (n := p.labels - 1) (by omega) (by omega)]
  refine call (allWithin_ok (hl.ext hE) 0 (p.labels - 1)) ?_
  rintro x w2 ⟨hx, hE2⟩
  exact ⟨hx, hE.trans hE2⟩

theorem badRow_ok {w : World} {c d s : Sl} {p : Prob} {pp : Addr} {t : TypeId} {L : List (List Int)} (hb1 : Box w pp t [.int .i64 p.labels, .int .i64 p.degree, c.v, d.v]) (hp : PGood p) (hl : R w s L) :
    Calls Try.prog F.slices_ContainsFunc_sl_sl_int_sl_int #[s.v, .func (.func F.i_isLabeling_1) #[] #[.pointer (some pp)]] w (Ret [.at .bool] fun (y : Bool) w' => (y = true ↔ ∃ r ∈ L, ¬ AllIn r 0 (p.labels - 1)) ∧ Ext w w') := by
  refine C_slices_ContainsFunc_sl_sl_int_sl_int ?_
  unfold V_slices_ContainsFunc_sl_sl_int_sl_int
  refine C_slices_IndexFunc_sl_sl_int_sl_int ?_
  unfold V_slices_IndexFunc_sl_sl_int_sl_int
  rw [hl.len]
  refine ⟨IN L.length fun i w' => Ext w w' ∧ ∀ r ∈ L.take i, AllIn r 0 (p.labels - 1), MN L.length, IN_zero ⟨Ext.refl _, by simp⟩, ?_⟩
  rintro _ w4 ⟨i, rfl, hi, hE4, hI⟩
  intros
  refine cond_dec (fun hlt => ?_) (fun hge => ?_)
  · have hi' : i < L.length := by omega
    refine (hl.ext hE4).ixL hi' fun q s1 hR1 hc => LD_sl hc ?_
    refine CALLV_mk (by kernel_rfl) ?_
    refine C_i_isLabeling_1 ?_
    unfold V_i_isLabeling_1
    refine LD_iiss (hb1.ext hE4) ?_
    refine call (hasLabels_ok hp.lab hR1.any) ?_
    rintro y w5 ⟨hy, hE5⟩
    refine cond_not (fun hf => ⟨?_, hE4.trans hE5⟩) (fun ht2 => IN_next hl.le hi' ⟨hE4.trans hE5, fun r hr => ?_⟩)
    · have e : decide ((i : Int) ≥ 0) = true := by simp
      rw [e]
      simp only [true_iff]
      exact ⟨L[i], List.getElem_mem hi', fun hA => by rw [hy.2 hA] at hf; cases hf⟩
    · rw [List.take_succ_eq_append_getElem hi'] at hr
      rcases List.mem_append.1 hr with h1 | h1
      · exact hI r h1
      · rw [List.mem_singleton.1 h1]; exact hy.1 ht2
  · have : i = L.length := by omega
    subst this
    rw [List.take_length] at hI
    refine ⟨?_, hE4⟩
    have e : decide ((-1 : Int) ≥ 0) = false := by decide
    rw [e]
    simp only [Bool.false_eq_true, false_iff]
    rintro ⟨r, hr, hn⟩
    exact hn (hI r hr)

theorem isLabeling_ok {w : World} {c d a b e s : Sl} {p : Prob} {n : Net} {L : List (List Int)} (_ : RProb w c d p) (hp : PGood p) (h : RNet w a b e n) (hl : R w s L) :
    Calls Try.prog F.i_isLabeling #[.agg #[.int .i64 p.labels, .int .i64 p.degree, c.v, d.v], .agg #[a.v, b.v, e.v], s.v] w (Ret [.at .bool] fun (x : Bool) w' => (x = true ↔ LabOk p n.ends L) ∧ Ext w w') := by
  refine C_i_isLabeling ?_
  unfold V_i_isLabeling
  refine NEW_intro fun pp w1 hp1 hs1 hE1 hb1 => NEW_intro fun pn w2 hp2 hs2 hE2 hb2 => LD_box3 hb2 ?_
  have hE := hE1.trans hE2
  replace h := h.ext hE
  replace hl := hl.ext hE
  replace hb1 := hb1.ext hE2
  refine call (portsOk_ok h hl) ?_
  rintro x w3 ⟨hx, hE3⟩
  replace hE := hE.ext hE3
  replace h := h.ext hE3
  replace hl := hl.ext hE3
  replace hb1 := hb1.ext hE3
  refine cond_b (fun ht => ?_) (fun hf => ⟨?_, hE⟩)
  rotate_left
  · simp only [Bool.false_eq_true, false_iff]
    intro hL
    rw [hx.2 hL.rows] at hf; cases hf
  refine call (badRow_ok hb1 hp hl) ?_
  rintro y w4 ⟨hy, hE4⟩
  refine ⟨?_, hE.trans hE4⟩
  constructor
  · intro hh
    refine ⟨hx.1 ht, fun r hr => Classical.byContradiction fun hn => ?_⟩
    have hyt := hy.2 ⟨r, hr, hn⟩
    rw [hyt] at hh; cases hh
  · intro hL
    cases hyb : y with
    | false => rfl
    | true =>
      obtain ⟨r, hr, hn⟩ := hy.1 hyb
      exact absurd (hL.labs r hr) hn

theorem prShape_ok {w : World} {c d a b e s : Sl} {p : Prob} {n : Net} {L : List (List Int)} (_ : RProb w c d p) (hp : PGood p) (h : RNet w a b e n) (hl : R w s L) :
    Calls Try.prog F.s_prShape #[.agg #[.int .i64 p.labels, .int .i64 p.degree, c.v, d.v], .agg #[a.v, b.v, e.v], s.v] w (Ret [.at .bool] fun (x : Bool) w' => (x = true ↔ LabOk p n.ends L) ∧ Ext w w') := by
  refine C_s_prShape ?_
  unfold V_s_prShape
  refine NEW_intro fun pp w1 hp1 hs1 hE1 hb1 => NEW_intro fun pn w2 hp2 hs2 hE2 hb2 => LD_bs0 hb2 ?_
  have hE := hE1.trans hE2
  replace h := h.ext hE
  replace hl := hl.ext hE
  replace hb1 := hb1.ext hE2
  rw [h.1.len, hl.len]
  refine cond_ne (fun hne => ⟨?_, hE⟩) (fun heq => ?_)
  · simp only [Bool.false_eq_true, false_iff]
    intro hL; have := hL.rows.1; omega
  have hlen : L.length = n.ends.length := by have heq' : ((L.length : Nat) : Int) = (n.ends.length : Nat) := heq; omega
  refine ⟨IN L.length fun i w' => w2 = w' ∧ (∀ u < i, (L.getD u []).length = (n.ends.getD u []).length) ∧ ∀ r ∈ L.take i, AllIn r 0 (p.labels - 1), MN L.length, IN_zero ⟨rfl, fun u hu => absurd hu (by omega), by simp⟩, ?_⟩
  rintro _ _ ⟨i, rfl, hi, rfl, hI1, hI2⟩
  intros
  refine cond_dec (fun hlt => ?_) (fun hge => ?_)
  rotate_left
  · have : i = L.length := by omega
    subst this
    rw [List.take_length] at hI2
    refine ⟨?_, hE⟩
    simp only [true_iff]
    exact ⟨⟨hlen, hI1⟩, hI2⟩
  have hi' : i < L.length := by omega
  have hie : i < n.ends.length := by omega
  refine hl.ixL hi' fun q s1 hR1 hc => LD_sl hc (LD_bs0 hb2 ?_)
  refine h.1.ixL hie fun q s2 hR2 hc => LD_sl hc ?_
  rw [hR1.len, hR2.len]
  refine cond_ne (fun hne => ⟨?_, hE⟩) (fun heq2 => LD_bi0 hb1 ?_)
  · simp only [Bool.false_eq_true, false_iff]
    intro hL
    have := hL.rows.2 i hi'
    rw [rowD hi', rowD hie] at this
    exact hne (by omega)
  rw [wrap_of (n := p.labels - 1) (by have := hp.lab; omega) (by have := hp.lab; omega)]
  refine call (l1All_ok hR1.any 0 (p.labels - 1)) ?_
  rintro y _ ⟨hy, rfl⟩
  refine cond_not (fun hf => ⟨?_, hE⟩) (fun ht => IN_next hl.le hi' ⟨rfl, all_succ hI1 ?_, fun r hr => ?_⟩)
  · simp only [Bool.false_eq_true, false_iff]
    intro hL
    rw [hy.2 (hL.labs _ (List.getElem_mem hi'))] at hf; cases hf
  · rw [rowD hi', rowD hie]
    have heq2' : ((L[i].length : Nat) : Int) = (n.ends[i].length : Nat) := heq2
    omega
  · rw [List.take_succ_eq_append_getElem hi'] at hr
    rcases List.mem_append.1 hr with h1 | h1
    · exact hI2 r h1
    · rw [List.mem_singleton.1 h1]; exact hy.1 ht

theorem prAsked_ok {w : World} {c d a b e s : Sl} {p : Prob} {n : Net} {L : List (List Int)} (hq : RProb w c d p) (h : RNet w a b e n) (hl : R w s L) :
    Calls Try.prog F.s_prAsked #[.agg #[.int .i64 p.labels, .int .i64 p.degree, c.v, d.v], .agg #[a.v, b.v, e.v], s.v] w (Ret [.at .bool] fun (x : Bool) w' => (x = true ↔ SolAsked p n L) ∧ Ext w w') := by
  refine C_s_prAsked ?_
  unfold V_s_prAsked
  refine NEW_intro fun pp w1 hp1 hs1 hE1 hb1 => NEW_intro fun pn w2 hp2 hs2 hE2 hb2 => LD_iiss (hb1.ext hE2) ?_
  have hE := hE1.trans hE2
  replace hq := hq.ext hE
  replace h := h.ext hE
  replace hl := hl.ext hE
  replace hb1 := hb1.ext hE2
  have hno : ∀ {w' : World}, Ext w w' → ¬ SolAsked p n L → (false = true ↔ SolAsked p n L) ∧ Ext w w' := fun h1 h2 => ⟨by simp [h2], h1⟩
  refine call (prGood_ok hq) ?_
  rintro x w3 ⟨hx, hE3⟩
  replace hE := hE.ext hE3
  replace hq := hq.ext hE3
  replace h := h.ext hE3
  replace hl := hl.ext hE3
  replace hb1 := hb1.ext hE3
  replace hb2 := hb2.ext hE3
  refine cond_b (fun ht => LD_box3 hb2 ?_) (fun hf => hno hE fun hA => by rw [hx.2 hA.prob] at hf; cases hf)
  refine call (neGood_ok h) ?_
  rintro y w4 ⟨hy, hE4⟩
  replace hE := hE.ext hE4
  replace hq := hq.ext hE4
  replace h := h.ext hE4
  replace hl := hl.ext hE4
  replace hb1 := hb1.ext hE4
  replace hb2 := hb2.ext hE4
  refine cond_b (fun ht2 => LD_iiss hb1 (LD_box3 hb2 ?_)) (fun hf => hno hE fun hA => by rw [hy.2 hA.good] at hf; cases hf)
  refine call (prShape_ok hq (hx.1 ht) h hl) ?_
  rintro z w5 ⟨hz, hE5⟩
  exact ⟨⟨fun hzt => ⟨hx.1 ht, hy.1 ht2, hz.1 hzt⟩, fun hA => hz.2 hA.lab⟩, hE.trans hE5⟩

/-! ### The first fault -/

structure FaultIn (p : Prob) (n : Net) (L : List (List Int)) : Prop where
  prob : PGood p
  good : Good n
  lab : LabOk p n.ends L

theorem SolAsked.fin {p : Prob} {n : Net} {L : List (List Int)} (h : SolAsked p n L) : FaultIn p n L := ⟨h.prob, h.good, h.lab⟩

theorem FaultIn.row {p : Prob} {n : Net} {L : List (List Int)} (h : FaultIn p n L) {v : Nat} (hv : v < L.length) (hve : v < n.ends.length) : L[v].length = n.ends[v].length ∧ (∀ x ∈ L[v], I64 x) ∧ L[v].length ≤ 6 := by
  have h1 := h.lab.rows.2 v hv
  rw [rowD hv, rowD hve] at h1
  have h2 := h.good.deg hve
  refine ⟨h1, fun x hx => ?_, by omega⟩
  have := h.lab.labs _ (List.getElem_mem hv) x hx
  have := h.prob.lab
  unfold I64; omega

theorem endOf_get {E : Ends} {v k : Nat} (hv : v < E.length) (hk : k < E[v].length) : endOf E v k = E[v][k] := by
  unfold endOf; rw [rowD hv]; simp [hk]

theorem portBad_iff {p : Prob} {n : Net} {L : List (List Int)} {v k : Nat} (hv : v < n.ends.length) (hk : k < n.ends[v].length) : PortBad p n.ends L v k ↔ isFirst v k n.ends[v][k] = true ∧ edgeB p (at2 L v k) (at2 L n.ends[v][k].1.toNat n.ends[v][k].2.toNat) = false := by
  unfold PortBad
  rw [endOf_get hv hk, rowD hv, edgeB_no]
  exact ⟨fun h => h.2, fun h => ⟨hk, h⟩⟩

theorem noPort_ge {p : Prob} {n : Net} {L : List (List Int)} {v : Nat} (hv : v < n.ends.length) {k : Nat} (hk : n.ends[v].length ≤ k) : ¬ PortBad p n.ends L v k := fun h => by
  have := h.1
  rw [rowD hv] at this
  omega

theorem edgeQ {w : World} {c d : Sl} {p : Prob} {a b : Int} (h : RProb w c d p) (hs : SmallP p) (hg : PGood p) (ha : I64 a) (hb : I64 b) : ∀ w', Ext w w' → Calls Try.prog F.i_Problem_edge #[.agg #[.int .i64 p.labels, .int .i64 p.degree, c.v, d.v], .int .i64 a, .int .i64 b] w' (Ret [.at .bool] fun (x : Bool) w'' => x = edgeB p a b ∧ Ext w' w'') := fun w' hE =>
  call (edge_ok (h.ext hE) hs hg ha hb) fun _ _ ⟨h1, h2⟩ => ⟨bool_of h1 edgeB_iff, h2⟩
theorem prEdgeQ {w : World} {c d : Sl} {p : Prob} {a b : Int} (h : RProb w c d p) (ha : I64 a) (hb : I64 b) : ∀ w', Ext w w' → Calls Try.prog F.s_prEdge #[.agg #[.int .i64 p.labels, .int .i64 p.degree, c.v, d.v], .int .i64 a, .int .i64 b] w' (Ret [.at .bool] fun (x : Bool) w'' => x = edgeB p a b ∧ Ext w' w'') := fun w' hE =>
  call (prEdge_ok (h.ext hE) ha hb) fun _ _ ⟨h1, h2⟩ => ⟨bool_of h1 edgeB_iff, h2⟩

theorem labelFault_k4 {w0 w3 w : World} {c d a b e s s0 : Sl} {p : Prob} {n : Net} {L : List (List Int)} {px3 px4 : Addr} {t3 t4 : TypeId} {v : Nat} {I : Int → World → Prop} {m : Int → World → Nat} {Q : Int → Int → Bool → World → Prop}
    (hq : RProb w c d p) (hs : SmallP p) (hF : FaultIn p n L) (h : RNet w a b e n) (hl : R w s L) (hb3 : Box w px3 t3 [.int .i64 p.labels, .int .i64 p.degree, c.v, d.v]) (hb4 : Box w px4 t4 [a.v, b.v, e.v]) (hE0 : Ext w0 w) (hv : v < L.length) (hve : v < n.ends.length) (hR0 : R w s0 L[v])
    (hyes : (∀ k, ¬ PortBad p n.ends L v k) → ∀ w', Ext w0 w' → I (IntKind.i64.wrap ((v : Int) + 1)) w' ∧ m (IntKind.i64.wrap ((v : Int) + 1)) w' < m v w3)
    (hno : ∀ k : Nat, PortBad p n.ends L v k → (∀ j < k, ¬ PortBad p n.ends L v j) → ∀ w', Ext w0 w' → Q v k true w') :
    V_i_labelFault_k4 I m w3 s Q px3 px4 v s0 w := by
  unfold V_i_labelFault_k4
  refine LD_bs0 hb4 ?_
  refine h.1.ixL hve fun q s2 hR2 hc => LD_sl hc ?_
  obtain ⟨hrl, hr64, hr6⟩ := hF.row hv hve
  rw [hR2.len]
  refine ⟨IN n.ends[v].length fun k w' => Ext w w' ∧ ∀ j < k, ¬ PortBad p n.ends L v j, MN n.ends[v].length, IN_zero ⟨Ext.refl _, fun j hj => absurd hj (by omega)⟩, ?_⟩
  rintro _ w6 ⟨k, rfl, hk, hE6, hI⟩
  intros
  refine cond_dec (fun hlt => ?_) (fun hge => ?_)
  rotate_left
  · have : k = n.ends[v].length := by omega
    subst this
    exact hyes (fun j => if hj : j < n.ends[v].length then hI j hj else noPort_ge hve (by omega)) _ (hE0.trans hE6)
  have hk' : k < n.ends[v].length := by omega
  have hkr : k < L[v].length := by omega
  refine (hR2.ext hE6).ixE hk' fun q _ _ hc0 hc1 => LD_int2 hc0 hc1 ?_
  refine NEW_ST (one2 _ _) rfl fun p12 w8 hp12 hE8 hb12 => ?_
  have hE68 := hE6.trans hE8
  obtain ⟨x, y, hxy, hx, hport⟩ := hF.good.far hve hk'
  obtain ⟨_, hy, _⟩ := port_some hport
  have hLl := hF.lab.rows.1
  have hxL : x < L.length := by omega
  obtain ⟨hrlx, hr64x, _⟩ := hF.row hxL hx
  have hyr : y < L[x].length := by omega
  have hbad := portBad_iff (p := p) (n := n) (L := L) hve hk'
  have ea : at2 L v k = L[v][k] := at2_get hv hkr
  have eb : at2 L n.ends[v][k].1.toNat n.ends[v][k].2.toNat = L[x][y] := by rw [hxy]; exact at2_get hxL hyr
  rw [ea, eb] at hbad
  have hgoon : ¬ PortBad p n.ends L v k → ∀ w', Ext w w' → V_i_labelFault_k7 (IN n.ends[v].length fun k w' => Ext w w' ∧ ∀ j < k, ¬ PortBad p n.ends L v j) (MN n.ends[v].length) (k : Int) w6 w' := fun hn w' hE' => by
    unfold V_i_labelFault_k7
    exact IN_next (by omega) hk' ⟨hE', all_succ hI hn⟩
  have hk8 : ∀ bb, bb = isFirst v k n.ends[v][k] → V_i_labelFault_k8 (IN n.ends[v].length fun k w' => Ext w w' ∧ ∀ j < k, ¬ PortBad p n.ends L v j) (MN n.ends[v].length) w6 s Q px3 (v : Int) s0 (k : Int) p12 bb w8 := fun bb hbb => by
    unfold V_i_labelFault_k8
    refine cond_b (fun ht => ?_) (fun hf w11 hE11 => hgoon (fun hB => ?_) _ (hE68.trans hE11))
    · refine LD_iiss (hb3.ext hE68) ?_
      refine (hR0.ext hE68).ixI hkr fun q _ hc => LD_int hc (LD_bi0 hb12 ?_)
      rw [hxy]
      refine (hl.ext hE68).ixL hxL fun q s3 hR3 hc => LD_sl hc (LD_bi1 hb12 ?_)
      rw [hxy]
      refine hR3.any.ixI hyr fun q _ hc => LD_int hc ?_
      refine QCALL_bool (edgeB p L[v][k] L[x][y]) (edgeQ (hq.ext hE68) hs hF.prob (hr64 _ (List.getElem_mem hkr)) (hr64x _ (List.getElem_mem hyr))) ?_
      intro w10 hE10
      refine cond_not (fun he => ?_) (fun he => hgoon (fun hB => ?_) _ (hE68.trans hE10))
      · exact hno k (hbad.2 ⟨by rw [← hbb]; exact ht, he⟩) hI _ (hE0.trans (hE68.trans hE10))
      · have := (hbad.1 hB).2
        rw [he] at this; cases this
    · have := (hbad.1 hB).1
      rw [← hbb, hf] at this; cases this
  refine LD_bi0 hb12 ?_
  refine cond_dec (fun h1 => hk8 true (by simp [isFirst, h1])) (fun h1 => LD_bi0 hb12 ?_)
  refine cond_eq (fun h2 => LD_bi1 hb12 (hk8 _ ?_)) (fun h2 => hk8 false (by simp [isFirst, h1, h2]))
  have h2' : (v : Int) = n.ends[v][k].1 := h2
  unfold isFirst
  rw [decide_eq_false h1, Bool.false_or, h2']
  simp

theorem labelFault_ok {w : World} {c d a b e s : Sl} {p : Prob} {n : Net} {L : List (List Int)} (hq : RProb w c d p) (hs : SmallP p) (hF : FaultIn p n L) (h : RNet w a b e n) (hl : R w s L) :
    Calls Try.prog F.i_labelFault #[.agg #[.int .i64 p.labels, .int .i64 p.degree, c.v, d.v], .agg #[a.v, b.v, e.v], s.v] w (Ret [.at (.int .i64), .at (.int .i64), .at .bool] fun (v i : Int) (x : Bool) w' => ((x = true ∧ FirstAt p n.ends L v i) ∨ (x = false ∧ v = 0 ∧ i = 0 ∧ Clean p n.ends L)) ∧ Ext w w') := by
  refine C_i_labelFault ?_
  unfold V_i_labelFault
  refine NEW_intro fun pp w1 hp1 hs1 hE1 hb1 => NEW_intro fun pn w2 hp2 hs2 hE2 hb2 => ?_
  have hE := hE1.trans hE2
  replace hq := hq.ext hE
  replace h := h.ext hE
  replace hl := hl.ext hE
  replace hb1 := hb1.ext hE2
  rw [hl.len]
  have hLl := hF.lab.rows.1
  have h40 := hF.good.size.2
  refine ⟨IN L.length fun v w' => Ext w2 w' ∧ ∀ u < v, NoneAt p n.ends L u, MN L.length, IN_zero ⟨Ext.refl _, fun u hu => absurd hu (by omega)⟩, ?_⟩
  rintro _ w3 ⟨v, rfl, hv, hE3, hI⟩
  intros
  refine cond_dec (fun hlt => ?_) (fun hge => ?_)
  rotate_left
  · exact ⟨.inr ⟨rfl, rfl, rfl, fun u hu => hI u (by omega)⟩, hE.trans hE3⟩
  have hv' : v < L.length := by omega
  have hve : v < n.ends.length := by omega
  obtain ⟨hrl, hr64, hr6⟩ := hF.row hv' hve
  have hrd : L.getD v [] = L[v] := rowD hv'
  refine (hl.ext hE3).ixL hv' fun q s1 hR1 hc => LD_sl hc (LD_bi1 (hb1.ext hE3) ?_)
  rw [hR1.len]
  have hk4 : ∀ w4, Ext w3 w4 → ¬ NodeBad p L v → V_i_labelFault_k4 (IN L.length fun v w' => Ext w2 w' ∧ ∀ u < v, NoneAt p n.ends L u) (MN L.length) w3 s (fun (v i : Int) (x : Bool) w' => ((x = true ∧ FirstAt p n.ends L v i) ∨ (x = false ∧ v = 0 ∧ i = 0 ∧ Clean p n.ends L)) ∧ Ext w w') pp pn (v : Int) s1 w4 := fun w4 hE4 hnb => by
    have hE34 := hE3.trans hE4
    refine labelFault_k4 (hq.ext hE34) hs hF (h.ext hE34) (hl.ext hE34) (hb1.ext hE34) (hb2.ext hE34) hE34 hv' hve (hR1.any.ext hE4) (fun hno w' hE' => IN_next (by omega) hv' ⟨hE', all_succ hI ⟨hnb, hno⟩⟩) (fun k hB hfirst w' hE' => ⟨.inl ⟨rfl, v, rfl, hve, hI, .inr ⟨k, rfl, hnb, hB, hfirst⟩⟩, hE.trans hE'⟩)
  refine cond_eq (fun heq => LD_iiss (hb1.ext hE3) ?_) (fun hne => hk4 _ (Ext.refl _) fun hB => hne (by have := hB.1; rw [hrd] at this; exact this))
  refine call (node_ok (hq.ext hE3) hs hF.prob hR1.any (by omega)) ?_
  rintro x w4 ⟨hx, hE4⟩
  refine cond_not (fun hf => ⟨.inl ⟨rfl, v, rfl, hve, hI, .inl ⟨rfl, ?_⟩⟩, hE.trans (hE3.trans hE4)⟩) (fun ht => hk4 _ hE4 fun hB => ?_)
  · refine ⟨by rw [hrd]; exact heq, fun hN => ?_⟩
    rw [hrd] at hN
    rw [hx.2 hN] at hf; cases hf
  · have := hB.2
    rw [hrd] at this
    exact this (hx.1 ht)

theorem prFault_k4 {w0 w3 w : World} {c d a b e s s0 : Sl} {p : Prob} {n : Net} {L : List (List Int)} {px3 px4 : Addr} {t3 t4 : TypeId} {v : Nat} {I : Int → World → Prop} {m : Int → World → Nat} {Q : Int → Int → World → Prop}
    (hq : RProb w c d p) (hF : FaultIn p n L) (h : RNet w a b e n) (hl : R w s L) (hb3 : Box w px3 t3 [.int .i64 p.labels, .int .i64 p.degree, c.v, d.v]) (hb4 : Box w px4 t4 [a.v, b.v, e.v]) (hE0 : Ext w0 w) (hv : v < L.length) (hve : v < n.ends.length) (hR2 : R w s0 n.ends[v])
    (hyes : (∀ k, ¬ PortBad p n.ends L v k) → ∀ w', Ext w0 w' → I (IntKind.i64.wrap ((v : Int) + 1)) w' ∧ m (IntKind.i64.wrap ((v : Int) + 1)) w' < m v w3)
    (hno : ∀ k : Nat, PortBad p n.ends L v k → (∀ j < k, ¬ PortBad p n.ends L v j) → ∀ w', Ext w0 w' → Q v k w') :
    V_s_prFault_k4 I m w3 s Q px3 px4 v s0 w := by
  unfold V_s_prFault_k4
  obtain ⟨hrl, hr64, hr6⟩ := hF.row hv hve
  rw [hR2.len]
  refine ⟨IN n.ends[v].length fun k w' => Ext w w' ∧ ∀ j < k, ¬ PortBad p n.ends L v j, MN n.ends[v].length, IN_zero ⟨Ext.refl _, fun j hj => absurd hj (by omega)⟩, ?_⟩
  rintro _ w6 ⟨k, rfl, hk, hE6, hI⟩
  intros
  refine cond_dec (fun hlt => ?_) (fun hge => ?_)
  rotate_left
  · have : k = n.ends[v].length := by omega
    subst this
    exact hyes (fun j => if hj : j < n.ends[v].length then hI j hj else noPort_ge hve (by omega)) _ (hE0.trans hE6)
  have hk' : k < n.ends[v].length := by omega
  have hkr : k < L[v].length := by omega
  refine (hR2.ext hE6).ixE hk' fun q _ _ hc0 hc1 => LD_int2 hc0 hc1 ?_
  refine NEW_ST (one2 _ _) rfl fun p12 w8 hp12 hE8 hb12 => ?_
  have hE68 := hE6.trans hE8
  obtain ⟨x, y, hxy, hx, hport⟩ := hF.good.far hve hk'
  obtain ⟨_, hy, _⟩ := port_some hport
  have hLl := hF.lab.rows.1
  have hxL : x < L.length := by omega
  obtain ⟨hrlx, hr64x, _⟩ := hF.row hxL hx
  have hyr : y < L[x].length := by omega
  have hbad := portBad_iff (p := p) (n := n) (L := L) hve hk'
  have ea : at2 L v k = L[v][k] := at2_get hv hkr
  have eb : at2 L n.ends[v][k].1.toNat n.ends[v][k].2.toNat = L[x][y] := by rw [hxy]; exact at2_get hxL hyr
  rw [ea, eb] at hbad
  refine LD_box3 (hb4.ext hE68) ?_
  refine QCALL_bool (isFirst v k n.ends[v][k]) (fun w' hE' => neFirst_ok ((h.ext hE68).ext hE') hve hk') ?_
  refine cond_b (fun ht => ?_) (fun hf w11 hE11 => IN_next (by omega) hk' ⟨hE68.trans hE11, all_succ hI fun hB => by rw [(hbad.1 hB).1] at hf; cases hf⟩)
  refine LD_iiss (hb3.ext hE68) ?_
  refine (hl.ext hE68).ixL hv fun q s4 hR4 hc => LD_sl hc ?_
  refine hR4.any.ixI hkr fun q _ hc => LD_int hc (LD_bi0 hb12 ?_)
  rw [hxy]
  refine (hl.ext hE68).ixL hxL fun q s3 hR3 hc => LD_sl hc (LD_bi1 hb12 ?_)
  rw [hxy]
  refine hR3.any.ixI hyr fun q _ hc => LD_int hc ?_
  refine QCALL_bool (edgeB p L[v][k] L[x][y]) (prEdgeQ (hq.ext hE68) (hr64 _ (List.getElem_mem hkr)) (hr64x _ (List.getElem_mem hyr))) ?_
  intro w10 hE10
  refine cond_not (fun he => ?_) (fun he => IN_next (by omega) hk' ⟨hE68.trans hE10, all_succ hI fun hB => by have := (hbad.1 hB).2; rw [he] at this; cases this⟩)
  exact hno k (hbad.2 ⟨ht, he⟩) hI _ (hE0.trans (hE68.trans hE10))

theorem prFault_ok {w : World} {c d a b e s : Sl} {p : Prob} {n : Net} {L : List (List Int)} (hq : RProb w c d p) (hF : FaultIn p n L) (h : RNet w a b e n) (hl : R w s L) :
    Calls Try.prog F.s_prFault #[.agg #[.int .i64 p.labels, .int .i64 p.degree, c.v, d.v], .agg #[a.v, b.v, e.v], s.v] w (Ret [.at (.int .i64), .at (.int .i64)] fun (v i : Int) w' => (FirstAt p n.ends L v i ∨ (v = -1 ∧ i = -1 ∧ Clean p n.ends L)) ∧ Ext w w') := by
  refine C_s_prFault ?_
  unfold V_s_prFault
  refine NEW_intro fun pp w1 hp1 hs1 hE1 hb1 => NEW_intro fun pn w2 hp2 hs2 hE2 hb2 => LD_bs0 hb2 ?_
  have hE := hE1.trans hE2
  replace hq := hq.ext hE
  replace h := h.ext hE
  replace hl := hl.ext hE
  replace hb1 := hb1.ext hE2
  rw [h.1.len]
  have hLl := hF.lab.rows.1
  have h40 := hF.good.size.2
  refine ⟨IN n.ends.length fun v w' => Ext w2 w' ∧ ∀ u < v, NoneAt p n.ends L u, MN n.ends.length, IN_zero ⟨Ext.refl _, fun u hu => absurd hu (by omega)⟩, ?_⟩
  rintro _ w3 ⟨v, rfl, hv, hE3, hI⟩
  intros
  refine cond_dec (fun hlt => ?_) (fun hge => ?_)
  rotate_left
  · exact ⟨.inr ⟨rfl, rfl, fun u hu => hI u (by omega)⟩, hE.trans hE3⟩
  have hve : v < n.ends.length := by omega
  have hv' : v < L.length := by omega
  obtain ⟨hrl, hr64, hr6⟩ := hF.row hv' hve
  have hrd : L.getD v [] = L[v] := rowD hv'
  refine (h.ext hE3).1.ixL hve fun q s1 hR1 hc => LD_sl hc (LD_bi1 (hb1.ext hE3) ?_)
  rw [hR1.len]
  have hk4 : ∀ w4, Ext w3 w4 → ¬ NodeBad p L v → V_s_prFault_k4 (IN n.ends.length fun v w' => Ext w2 w' ∧ ∀ u < v, NoneAt p n.ends L u) (MN n.ends.length) w3 s (fun (v i : Int) w' => (FirstAt p n.ends L v i ∨ (v = -1 ∧ i = -1 ∧ Clean p n.ends L)) ∧ Ext w w') pp pn (v : Int) s1 w4 := fun w4 hE4 hnb => by
    have hE34 := hE3.trans hE4
    refine prFault_k4 (hq.ext hE34) hF (h.ext hE34) (hl.ext hE34) (hb1.ext hE34) (hb2.ext hE34) hE34 hv' hve (hR1.any.ext hE4) (fun hno w' hE' => IN_next (by omega) hve ⟨hE', all_succ hI ⟨hnb, hno⟩⟩) (fun k hB hfirst w' hE' => ⟨.inl ⟨v, rfl, hve, hI, .inr ⟨k, rfl, hnb, hB, hfirst⟩⟩, hE.trans hE'⟩)
  refine cond_eq (fun heq => LD_iiss (hb1.ext hE3) ?_) (fun hne w5 hE5 => hk4 _ hE5 fun hB => hne (by have := hB.1; rw [hrd, hrl] at this; exact this))
  refine (hl.ext hE3).ixL hv' fun q s4 hR4 hc => LD_sl hc ?_
  refine QCALL_bool (nodeB p L[v]) (fun w' hE' => call (prNode_ok ((hq.ext hE3).ext hE') (hR4.any.ext hE') (by omega)) fun _ _ ⟨h1, h2⟩ => ⟨bool_of h1 nodeB_iff, h2⟩) ?_
  intro w4 hE4
  refine cond_not (fun hf => ⟨.inl ⟨v, rfl, hve, hI, .inl ⟨rfl, ?_⟩⟩, hE.trans (hE3.trans hE4)⟩) (fun ht => hk4 _ hE4 fun hB => ?_)
  · refine ⟨by rw [hrd, hrl]; exact heq, ?_⟩
    rw [hrd]; exact nodeB_no.1 hf
  · have := hB.2
    rw [hrd] at this
    exact this (nodeB_iff.1 ht)

/-! ### The statements' answers -/

theorem IsSolution_ok {w : World} {c d a b e s : Sl} {p : Prob} {n : Net} {L : List (List Int)} (hq : RProb w c d p) (h : RNet w a b e n) (hl : R w s L) (hs : SmallP p) (hn : Small n) (_ : SmallM L) :
    Calls Try.prog F.i_IsSolution #[.agg #[.int .i64 p.labels, .int .i64 p.degree, c.v, d.v], .agg #[a.v, b.v, e.v], s.v] w (Ret [.at .bool, .at .bool] fun (x y : Bool) w' => Ans2 (SolAsked p n L) (Clean p n.ends L) x y ∧ Ext w w') := by
  refine C_i_IsSolution ?_
  unfold V_i_IsSolution
  refine NEW_intro fun pp w1 hp1 hs1 hE1 hb1 => NEW_intro fun pn w2 hp2 hs2 hE2 hb2 => LD_iiss (hb1.ext hE2) ?_
  have hE := hE1.trans hE2
  replace hq := hq.ext hE
  replace h := h.ext hE
  replace hl := hl.ext hE
  replace hb1 := hb1.ext hE2
  refine call (IsProblem_ok hq) ?_
  rintro x w3 ⟨hx, hE3⟩
  replace hE := hE.ext hE3
  replace hq := hq.ext hE3
  replace h := h.ext hE3
  replace hl := hl.ext hE3
  replace hb1 := hb1.ext hE3
  replace hb2 := hb2.ext hE3
  refine cond_not (fun hf => ⟨.no fun hA => (by rw [hx.2 hA.prob] at hf; cases hf), hE⟩) (fun ht => LD_box3 hb2 ?_)
  refine call (isNetwork_ok h hn.2.2.1) ?_
  rintro y w4 ⟨hy, hE4⟩
  replace hE := hE.ext hE4
  replace hq := hq.ext hE4
  replace h := h.ext hE4
  replace hl := hl.ext hE4
  replace hb1 := hb1.ext hE4
  replace hb2 := hb2.ext hE4
  refine cond_not (fun hf => ⟨.no fun hA => (by rw [hy.2 hA.good] at hf; cases hf), hE⟩) (fun ht2 => LD_iiss hb1 (LD_box3 hb2 ?_))
  refine call (isLabeling_ok hq (hx.1 ht) h hl) ?_
  rintro z w5 ⟨hz, hE5⟩
  replace hE := hE.ext hE5
  replace hq := hq.ext hE5
  replace h := h.ext hE5
  replace hl := hl.ext hE5
  replace hb1 := hb1.ext hE5
  replace hb2 := hb2.ext hE5
  refine cond_not (fun hf => ⟨.no fun hA => (by rw [hz.2 hA.lab] at hf; cases hf), hE⟩) (fun ht3 => LD_iiss hb1 (LD_box3 hb2 ?_))
  have hA : SolAsked p n L := ⟨hx.1 ht, hy.1 ht2, hz.1 ht3⟩
  refine call (labelFault_ok hq hs hA.fin h hl) ?_
  rintro v i f w6 ⟨hf, hE6⟩
  refine ⟨.mk hA ?_, hE.trans hE6⟩
  rcases hf with ⟨rfl, hfa⟩ | ⟨rfl, _, _, hcl⟩
  · simp only [Bool.not_true, Bool.false_eq_true, false_iff]
    exact hfa.bad
  · simp only [Bool.not_false, true_iff]
    exact hcl

theorem FirstFaultOfLabeling_ok {w : World} {c d a b e s : Sl} {p : Prob} {n : Net} {L : List (List Int)} (hq : RProb w c d p) (h : RNet w a b e n) (hl : R w s L) (hs : SmallP p) (hn : Small n) (_ : SmallM L) :
    Calls Try.prog F.i_FirstFaultOfLabeling #[.agg #[.int .i64 p.labels, .int .i64 p.degree, c.v, d.v], .agg #[a.v, b.v, e.v], s.v] w (Ret [.at (.int .i64), .at (.int .i64), .at .bool] fun (v i : Int) (x : Bool) w' => AnsFF p n L v i x ∧ Ext w w') := by
  refine C_i_FirstFaultOfLabeling ?_
  unfold V_i_FirstFaultOfLabeling
  refine NEW_intro fun pp w1 hp1 hs1 hE1 hb1 => NEW_intro fun pn w2 hp2 hs2 hE2 hb2 => LD_iiss (hb1.ext hE2) ?_
  have hE := hE1.trans hE2
  replace hq := hq.ext hE
  replace h := h.ext hE
  replace hl := hl.ext hE
  replace hb1 := hb1.ext hE2
  refine call (IsProblem_ok hq) ?_
  rintro x w3 ⟨hx, hE3⟩
  replace hE := hE.ext hE3
  replace hq := hq.ext hE3
  replace h := h.ext hE3
  replace hl := hl.ext hE3
  replace hb1 := hb1.ext hE3
  replace hb2 := hb2.ext hE3
  refine cond_not (fun hf => ⟨.none fun hA => (by rw [hx.2 hA.1.prob] at hf; cases hf), hE⟩) (fun ht => LD_box3 hb2 ?_)
  refine call (isNetwork_ok h hn.2.2.1) ?_
  rintro y w4 ⟨hy, hE4⟩
  replace hE := hE.ext hE4
  replace hq := hq.ext hE4
  replace h := h.ext hE4
  replace hl := hl.ext hE4
  replace hb1 := hb1.ext hE4
  replace hb2 := hb2.ext hE4
  refine cond_not (fun hf => ⟨.none fun hA => (by rw [hy.2 hA.1.good] at hf; cases hf), hE⟩) (fun ht2 => LD_iiss hb1 (LD_box3 hb2 ?_))
  refine call (isLabeling_ok hq (hx.1 ht) h hl) ?_
  rintro z w5 ⟨hz, hE5⟩
  replace hE := hE.ext hE5
  replace hq := hq.ext hE5
  replace h := h.ext hE5
  replace hl := hl.ext hE5
  replace hb1 := hb1.ext hE5
  replace hb2 := hb2.ext hE5
  refine cond_not (fun hf => ⟨.none fun hA => (by rw [hz.2 hA.1.lab] at hf; cases hf), hE⟩) (fun ht3 => LD_iiss hb1 (LD_box3 hb2 ?_))
  have hA : SolAsked p n L := ⟨hx.1 ht, hy.1 ht2, hz.1 ht3⟩
  refine call (labelFault_ok hq hs hA.fin h hl) ?_
  rintro v i f w6 ⟨hf, hE6⟩
  rcases hf with ⟨rfl, hfa⟩ | ⟨rfl, rfl, rfl, hcl⟩
  · exact ⟨⟨by simp only [true_iff]; exact ⟨hA, hfa.bad⟩, fun _ => hfa, fun h => by cases h⟩, hE.trans hE6⟩
  · exact ⟨.none fun h => h.2 hcl, hE.trans hE6⟩

theorem prIs_ok {w : World} {c d a b e s : Sl} {p : Prob} {n : Net} {L : List (List Int)} (hq : RProb w c d p) (hF : FaultIn p n L) (h : RNet w a b e n) (hl : R w s L) :
    Calls Try.prog F.s_prIs #[.agg #[.int .i64 p.labels, .int .i64 p.degree, c.v, d.v], .agg #[a.v, b.v, e.v], s.v] w (Ret [.at .bool] fun (x : Bool) w' => (x = true ↔ Clean p n.ends L) ∧ Ext w w') := by
  refine C_s_prIs ?_
  unfold V_s_prIs
  refine NEW_intro fun pp w1 hp1 hs1 hE1 hb1 => NEW_intro fun pn w2 hp2 hs2 hE2 hb2 => LD_iiss (hb1.ext hE2) (LD_box3 hb2 ?_)
  have hE := hE1.trans hE2
  replace hq := hq.ext hE
  replace h := h.ext hE
  replace hl := hl.ext hE
  refine call (prFault_ok hq hF h hl) ?_
  rintro v i w3 ⟨hf, hE3⟩
  refine ⟨?_, hE.trans hE3⟩
  rw [decide_eq_true_eq]
  rcases hf with hfa | ⟨rfl, rfl, hcl⟩
  · constructor
    · intro hneg
      obtain ⟨m, rfl, _⟩ := hfa
      omega
    · intro hcl; exact absurd hcl hfa.bad
  · exact ⟨fun _ => hcl, fun _ => by omega⟩

theorem sIsSolution_ok {w : World} {c d a b e s : Sl} {p : Prob} {n : Net} {L : List (List Int)} (hq : RProb w c d p) (h : RNet w a b e n) (hl : R w s L) :
    Calls Try.prog F.s_IsSolution #[.agg #[.int .i64 p.labels, .int .i64 p.degree, c.v, d.v], .agg #[a.v, b.v, e.v], s.v] w (Ret [.at .bool, .at .bool] fun (x y : Bool) w' => Ans2 (SolAsked p n L) (Clean p n.ends L) x y ∧ Ext w w') := by
  refine C_s_IsSolution ?_
  unfold V_s_IsSolution
  refine NEW_intro fun pp w1 hp1 hs1 hE1 hb1 => NEW_intro fun pn w2 hp2 hs2 hE2 hb2 => LD_iiss (hb1.ext hE2) (LD_box3 hb2 ?_)
  have hE := hE1.trans hE2
  replace hq := hq.ext hE
  replace h := h.ext hE
  replace hl := hl.ext hE
  replace hb1 := hb1.ext hE2
  refine call (prAsked_ok hq h hl) ?_
  rintro x w3 ⟨hx, hE3⟩
  replace hE := hE.ext hE3
  replace hq := hq.ext hE3
  replace h := h.ext hE3
  replace hl := hl.ext hE3
  replace hb1 := hb1.ext hE3
  replace hb2 := hb2.ext hE3
  refine cond_not (fun hf => ⟨.no fun hA => (by rw [hx.2 hA] at hf; cases hf), hE⟩) (fun ht => LD_iiss hb1 (LD_box3 hb2 ?_))
  have hA := hx.1 ht
  refine call (prIs_ok hq hA.fin h hl) ?_
  rintro y w4 ⟨hy, hE4⟩
  exact ⟨.mk hA hy, hE.trans hE4⟩

theorem sFirstFaultOfLabeling_ok {w : World} {c d a b e s : Sl} {p : Prob} {n : Net} {L : List (List Int)} (hq : RProb w c d p) (h : RNet w a b e n) (hl : R w s L) :
    Calls Try.prog F.s_FirstFaultOfLabeling #[.agg #[.int .i64 p.labels, .int .i64 p.degree, c.v, d.v], .agg #[a.v, b.v, e.v], s.v] w (Ret [.at (.int .i64), .at (.int .i64), .at .bool] fun (v i : Int) (x : Bool) w' => AnsFF p n L v i x ∧ Ext w w') := by
  refine C_s_FirstFaultOfLabeling ?_
  unfold V_s_FirstFaultOfLabeling
  refine NEW_intro fun pp w1 hp1 hs1 hE1 hb1 => NEW_intro fun pn w2 hp2 hs2 hE2 hb2 => LD_iiss (hb1.ext hE2) (LD_box3 hb2 ?_)
  have hE := hE1.trans hE2
  replace hq := hq.ext hE
  replace h := h.ext hE
  replace hl := hl.ext hE
  replace hb1 := hb1.ext hE2
  refine call (prAsked_ok hq h hl) ?_
  rintro x w3 ⟨hx, hE3⟩
  replace hE := hE.ext hE3
  replace hq := hq.ext hE3
  replace h := h.ext hE3
  replace hl := hl.ext hE3
  replace hb1 := hb1.ext hE3
  replace hb2 := hb2.ext hE3
  refine cond_not (fun hf => ⟨.none fun hA => (by rw [hx.2 hA.1] at hf; cases hf), hE⟩) (fun ht => LD_iiss hb1 (LD_box3 hb2 ?_))
  have hA := hx.1 ht
  refine call (prIs_ok hq hA.fin h hl) ?_
  rintro y w4 ⟨hy, hE4⟩
  replace hE := hE.ext hE4
  replace hq := hq.ext hE4
  replace h := h.ext hE4
  replace hl := hl.ext hE4
  replace hb1 := hb1.ext hE4
  replace hb2 := hb2.ext hE4
  refine cond_b (fun hc => ⟨.none fun h => h.2 (hy.1 hc), hE⟩) (fun hc => LD_iiss hb1 (LD_box3 hb2 ?_))
  have hnc : ¬ Clean p n.ends L := fun hcl => by rw [hy.2 hcl] at hc; cases hc
  refine call (prFault_ok hq hA.fin h hl) ?_
  rintro v i w5 ⟨hf, hE5⟩
  rcases hf with hfa | ⟨_, _, hcl⟩
  · exact ⟨⟨by simp only [true_iff]; exact ⟨hA, hnc⟩, fun _ => hfa, fun h => by cases h⟩, hE.trans hE5⟩
  · exact absurd hcl hnc

end Go.Proofs.Ytjfodknpphhajaa
