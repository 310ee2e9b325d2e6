/- Label maps, both sides. -/
import Derived.Test.YtjfodknpphhajaaGreatMapPure
import Derived.Test.YtjfodknpphhajaaGreatSolution
import Derived.Test.YtjfodknpphhajaaGreatRowsD
import Derived.Test.YtjfodknpphhajaaGreatDrop
namespace Go.Proofs.YtjfodknpphhajaaGreat
open Go.GX Go.RowKit
set_option maxRecDepth 100000

theorem img_len (f l : List Int) : (img f l).length = l.length := by simp [img]
theorem img_I64 {f l : List Int} (hf : ∀ x ∈ f, I64 x) : ∀ x ∈ img f l, I64 x := by
  intro x hx
  obtain ⟨a, _, rfl⟩ := List.mem_map.1 hx
  by_cases h : a.toNat < f.length
  · simp [h]; exact hf _ (List.getElem_mem h)
  · rw [List.getD_eq_getElem?_getD, List.getElem?_eq_none (by omega)]; show I64 0; unfold I64; omega

theorem in_map {f : List Int} {p : Prob} (hl : (f.length : Int) = p.labels) {c : List Int} (hc : AllIn c 0 (p.labels - 1)) : ∀ x ∈ c, ∃ u : Nat, x = u ∧ u < f.length := fun x hx => by
  have := hc x hx
  exact ⟨x.toNat, by omega, by omega⟩

theorem images_ok {w : World} {s t : Sl} {f m : List Int} (hm : R w s m) (hf : R w t f) (hin : ∀ x ∈ m, ∃ u : Nat, x = u ∧ u < f.length) (hml : m.length ≤ 1048576) :
    Calls Tryz.prog F.i_images #[s.v, t.v] w (Ret [.at .sl] fun (r : Sl) w' => Ext w w' ∧ OwnL w' w.heap.size T.t_int r (img f m)) := by
  refine C_i_images ?_
  unfold V_i_images
  rw [hm.len]
  refine ⟨IN2 m.length fun i out w' => Ext w w' ∧ OwnL w' w.heap.size T.t_int out (img f (m.take i)), MN2 m.length, IN2_zero ⟨Ext.refl _, by simpa [img] using OwnL.nil _ _ _⟩, ?_⟩
  rintro out _ w2 ⟨i, rfl, hi, hE, hO⟩
  intros
  replace hf := hf.ext hE
  replace hm := hm.ext hE
  refine cond_dec (fun hlt => ?_) (fun hge => ?_)
  · have hi' : i < m.length := by omega
    refine hm.ixI hi' fun q _ hc => LD_int hc ?_
    obtain ⟨u, hu, hul⟩ := hin _ (List.getElem_mem hi')
    rw [hu]
    refine hf.ixI hul fun q h64 hc => LD_int hc ?_
    refine RUN_lit1 (α := Int) slt_int f[u] rfl (by decide) fun r w5 hE5 hO5 => ?_
    replace hE := hE.ext hE5
    replace hO := hO.ext hE5
    refine RUN_append (α := Int) slt_int hO hE.size_le (hO5.rep (by intro z hz; simp at hz; subst hz; exact h64)).any (by simp [img_len]; omega) (by simp [img_len, maxLen]; omega) fun r' w6 hO6 hs6 => ?_
    refine IN2_next hm.le hi' ⟨hs6.ext0 hE (fun k hk => (hO.blk k hk).1), ?_⟩
    unfold img at hO6 ⊢
    rw [map_take_succ hi', hu]
    simpa [hul] using hO6
  · have : i = m.length := by omega
    subst this
    exact ⟨hE, by simpa using hO⟩

theorem throughI_ok {w : World} {s t : Sl} {f m : List Int} (hf : R w s f) (hm : R w t m) (hin : ∀ x ∈ m, ∃ u : Nat, x = u ∧ u < f.length) (hml : m.length ≤ 1048576) :
    Calls Tryz.prog F.s_coThrough #[s.v, t.v] w (Ret [.at .sl] fun (r : Sl) w' => Ext w w' ∧ OwnL w' w.heap.size T.t_int r (img f m)) := coThrough_ok hf hm hin hml

/-! ### Two problems -/

def TwoOk (p q : Prob) : Prop := PGood p ∧ PGood q ∧ p.degree = q.degree

theorem areProblems_ok {w : World} {c d c' d' : Sl} {p q : Prob} (h : RProb w c d p) (h' : RProb w c' d' q) :
    Calls Tryz.prog F.i_areProblems #[.agg #[.int .i64 p.labels, .int .i64 p.degree, c.v, d.v], .agg #[.int .i64 q.labels, .int .i64 q.degree, c'.v, d'.v]] w (Ret [.at .bool] fun (x : Bool) w' => (x = true ↔ TwoOk p q) ∧ Ext w w') := by
  refine C_i_areProblems ?_
  unfold V_i_areProblems
  refine NEW_intro fun pp w1 hp1 hs1 hE1 hb1 => NEW_intro fun pq w2 hp2 hs2 hE2 hb2 => LD_iiss (hb1.ext hE2) ?_
  have hE := hE1.trans hE2
  replace h := h.ext hE
  replace h' := h'.ext hE
  replace hb1 := hb1.ext hE2
  have hno : ∀ {w' : World}, Ext w w' → ¬ TwoOk p q → (false = true ↔ TwoOk p q) ∧ Ext w w' := fun h1 h2 => ⟨by simp [h2], h1⟩
  refine call (IsProblem_ok h) ?_
  rintro x w3 ⟨hx, hE3⟩
  replace hE := hE.ext hE3
  replace h := h.ext hE3
  replace h' := h'.ext hE3
  replace hb1 := hb1.ext hE3
  replace hb2 := hb2.ext hE3
  refine cond_b (fun ht => LD_iiss hb2 ?_) (fun hf => hno hE fun hA => by rw [hx.2 hA.1] at hf; cases hf)
  refine call (IsProblem_ok h') ?_
  rintro y w4 ⟨hy, hE4⟩
  replace hE := hE.ext hE4
  replace h := h.ext hE4
  replace h' := h'.ext hE4
  replace hb1 := hb1.ext hE4
  replace hb2 := hb2.ext hE4
  refine cond_b (fun ht2 => LD_bi1 hb1 (LD_bi1 hb2 ⟨?_, hE⟩)) (fun hf => hno hE fun hA => by rw [hy.2 hA.2.1] at hf; cases hf)
  rw [beq_iff_eq]
  exact ⟨fun he => ⟨hx.1 ht, hy.1 ht2, he⟩, fun hA => hA.2.2⟩


theorem reTwo_ok {w : World} {c d c' d' : Sl} {p q : Prob} (h : RProb w c d p) (h' : RProb w c' d' q) :
    Calls Tryz.prog F.s_reTwo #[.agg #[.int .i64 p.labels, .int .i64 p.degree, c.v, d.v], .agg #[.int .i64 q.labels, .int .i64 q.degree, c'.v, d'.v]] w (Ret [.at .bool] fun (x : Bool) w' => (x = true ↔ TwoOk p q) ∧ Ext w w') := by
  refine C_s_reTwo ?_
  unfold V_s_reTwo
  refine NEW_intro fun pp w1 hp1 hs1 hE1 hb1 => NEW_intro fun pq w2 hp2 hs2 hE2 hb2 => LD_iiss (hb1.ext hE2) ?_
  have hE := hE1.trans hE2
  replace h := h.ext hE
  replace h' := h'.ext hE
  replace hb1 := hb1.ext hE2
  have hno : ∀ {w' : World}, Ext w w' → ¬ TwoOk p q → (false = true ↔ TwoOk p q) ∧ Ext w w' := fun h1 h2 => ⟨by simp [h2], h1⟩
  refine call (prGood_ok h) ?_
  rintro x w3 ⟨hx, hE3⟩
  replace hE := hE.ext hE3
  replace h := h.ext hE3
  replace h' := h'.ext hE3
  replace hb1 := hb1.ext hE3
  replace hb2 := hb2.ext hE3
  refine cond_b (fun ht => LD_iiss hb2 ?_) (fun hf => hno hE fun hA => by rw [hx.2 hA.1] at hf; cases hf)
  refine call (prGood_ok h') ?_
  rintro y w4 ⟨hy, hE4⟩
  replace hE := hE.ext hE4
  replace h := h.ext hE4
  replace h' := h'.ext hE4
  replace hb1 := hb1.ext hE4
  replace hb2 := hb2.ext hE4
  refine cond_b (fun ht2 => LD_bi1 hb1 (LD_bi1 hb2 ⟨?_, hE⟩)) (fun hf => hno hE fun hA => by rw [hy.2 hA.2.1] at hf; cases hf)
  rw [beq_iff_eq]
  exact ⟨fun he => ⟨hx.1 ht, hy.1 ht2, he⟩, fun hA => hA.2.2⟩


/-! ### Whether it is a label map: the program -/

theorem confRow {L : List (List Int)} {size labels : Int} (h : ConfOk L size labels) {c : List Int} (hc : c ∈ L) : (c.length : Int) = size ∧ AllIn c 0 (labels - 1) := by
  obtain ⟨i, hi, rfl⟩ := List.mem_iff_getElem.1 hc
  exact ⟨(h.row i hi).1, (h.row i hi).2.2⟩

theorem badEdge_ok {w : World} {c' d' s : Sl} {p q : Prob} {pq pf : Addr} {t1 t2 : TypeId} {f : List Int} {fs : Sl} (h' : RProb w c' d' q) (hb2 : Box w pq t1 [.int .i64 q.labels, .int .i64 q.degree, c'.v, d'.v]) (hbf : Box w pf t2 [fs.v]) (hf : R w fs f) (hp : PGood p) (hq : PGood q) (hsq : SmallP q) (hfl : (f.length : Int) = p.labels) (hl : R w s p.edges) :
    Calls Tryz.prog F.slices_ContainsFunc_sl_sl_int_sl_int #[s.v, .func (.func F.i_isLabelMap_1) #[] #[.pointer (some pq), .pointer (some pf)]] w (Ret [.at .bool] fun (y : Bool) w' => (y = true ↔ ∃ r ∈ p.edges, sortI (img f r) ∉ q.edges) ∧ Ext w w') := by
  refine C_slices_ContainsFunc_sl_sl_int_sl_int ?_
  unfold V_slices_ContainsFunc_sl_sl_int_sl_int
  refine C_slices_IndexFunc_sl_sl_int_sl_int ?_
  unfold V_slices_IndexFunc_sl_sl_int_sl_int
  rw [hl.len]
  refine ⟨IN p.edges.length fun i w' => Ext w w' ∧ ∀ r ∈ p.edges.take i, sortI (img f r) ∈ q.edges, MN p.edges.length, IN_zero ⟨Ext.refl _, by simp⟩, ?_⟩
  rintro _ w4 ⟨i, rfl, hi, hE4, hI⟩
  intros
  have hf64 := flat_ok hf
  refine cond_dec (fun hlt => ?_) (fun hge => ?_)
  · have hi' : i < p.edges.length := by omega
    obtain ⟨hr2, hrA⟩ := confRow hp.edges (List.getElem_mem hi')
    have hr2' : p.edges[i].length = 2 := by omega
    obtain ⟨u0, hu0, hul0⟩ := in_map hfl hrA (p.edges[i][0]'(by omega)) (List.getElem_mem _)
    obtain ⟨u1, hu1, hul1⟩ := in_map hfl hrA (p.edges[i][1]'(by omega)) (List.getElem_mem _)
    have himg : img f p.edges[i] = [f[u0], f[u1]] := by
      rw [img2 hr2', hu0, hu1]; simp [hul0, hul1]
    refine (hl.ext hE4).ixL hi' fun q0 s1 hR1 hc => LD_sl hc ?_
    refine CALLV_mk (by kernel_rfl) ?_
    refine C_i_isLabelMap_1 ?_
    unfold V_i_isLabelMap_1
    refine LD_iiss (hb2.ext hE4) (LD_bs (hbf.ext hE4) ?_)
    refine hR1.any.ixI (i := 0) (by omega) fun q1 _ hc => LD_int hc ?_
    rw [hu0]
    refine (hf.ext hE4).ixI hul0 fun q2 _ hc => LD_int hc (LD_bs (hbf.ext hE4) ?_)
    refine hR1.any.ixI (i := 1) (by omega) fun q3 _ hc => LD_int hc ?_
    rw [hu1]
    refine (hf.ext hE4).ixI hul1 fun q4 _ hc => LD_int hc ?_
    refine QCALL_bool (edgeB q f[u0] f[u1]) (edgeQ (h'.ext hE4) hsq hq (hf64 _ (List.getElem_mem hul0)) (hf64 _ (List.getElem_mem hul1))) ?_
    intro w5 hE5
    have hed : edgeB q f[u0] f[u1] = true ↔ sortI (img f p.edges[i]) ∈ q.edges := by rw [edgeB_iff, himg]; rfl
    refine cond_not (fun hfa => ⟨?_, hE4.trans hE5⟩) (fun htr => IN_next hl.le hi' ⟨hE4.trans hE5, fun r hr => ?_⟩)
    · have e : decide ((i : Int) ≥ 0) = true := by simp
      rw [e]
      simp only [true_iff]
      exact ⟨p.edges[i], List.getElem_mem hi', fun hA => by rw [hed.2 hA] at hfa; cases hfa⟩
    · rw [List.take_succ_eq_append_getElem hi'] at hr
      rcases List.mem_append.1 hr with h1 | h1
      · exact hI r h1
      · rw [List.mem_singleton.1 h1]; exact hed.1 htr
  · have : i = p.edges.length := by omega
    subst this
    rw [List.take_length] at hI
    refine ⟨?_, hE4⟩
    have e : decide ((-1 : Int) ≥ 0) = false := by decide
    rw [e]
    simp only [Bool.false_eq_true, false_iff]
    rintro ⟨r, hr, hn⟩
    exact hn (hI r hr)

theorem isLabelMap_ok {w : World} {c d c' d' fs : Sl} {p q : Prob} {f : List Int} (h : RProb w c d p) (h' : RProb w c' d' q) (hp : PGood p) (hq : PGood q) (hsp : SmallP p) (hsq : SmallP q) (hf : R w fs f) :
    Calls Tryz.prog F.i_isLabelMap #[.agg #[.int .i64 p.labels, .int .i64 p.degree, c.v, d.v], .agg #[.int .i64 q.labels, .int .i64 q.degree, c'.v, d'.v], fs.v] w (Ret [.at .bool] fun (x : Bool) w' => (x = true ↔ MapOk p q f) ∧ Ext w w') := by
  refine C_i_isLabelMap ?_
  unfold V_i_isLabelMap
  refine NEW_intro fun pp w1 hp1 hs1 hE1 hb1 => NEW_intro fun pq w2 hp2 hs2 hE2 hb2 => NEW_intro fun pf w3 hp3 hs3 hE3 hbf => LD_bs hbf ?_
  have hE := (hE1.trans hE2).trans hE3
  replace h := h.ext hE
  replace h' := h'.ext hE
  replace hf := hf.ext hE
  replace hb1 := hb1.ext hE2
  replace hb1 := hb1.ext hE3
  replace hb2 := hb2.ext hE3
  have hno : ∀ {w' : World}, Ext w w' → ¬ MapOk p q f → (false = true ↔ MapOk p q f) ∧ Ext w w' := fun h1 h2 => ⟨by simp [h2], h1⟩
  refine LD_bi0 hb1 ?_
  rw [hf.len]
  refine cond_ne (fun hne => hno hE fun hM => hne hM.len) (fun heq => LD_iiss hb2 (LD_bs hbf ?_))
  have hfl : (f.length : Int) = p.labels := heq
  refine call (hasLabels_ok hq.lab hf) ?_
  rintro x w4 ⟨hx, hE4⟩
  replace hE := hE.ext hE4
  replace h := h.ext hE4
  replace h' := h'.ext hE4
  replace hf := hf.ext hE4
  replace hb1 := hb1.ext hE4
  replace hb2 := hb2.ext hE4
  replace hbf := hbf.ext hE4
  refine cond_not (fun hfa => hno hE fun hM => by rw [hx.2 hM.labs] at hfa; cases hfa) (fun ht => ?_)
  unfold V_i_isLabelMap_k1
  refine LD_bs2 hb1 ?_
  rw [h.nodes.len]
  have hd := hp.deg
  refine ⟨IN p.nodes.length fun i w' => Ext w4 w' ∧ ∀ r ∈ p.nodes.take i, sortI (img f r) ∈ q.nodes, MN p.nodes.length, IN_zero ⟨Ext.refl _, by simp⟩, ?_⟩
  rintro _ w6 ⟨i, rfl, hi, hE6, hI⟩
  intros
  refine cond_dec (fun hlt => ?_) (fun hge => ?_)
  · have hi' : i < p.nodes.length := by omega
    obtain ⟨hrl, hrA⟩ := confRow hp.nodes (List.getElem_mem hi')
    refine (h.nodes.ext hE6).ixL hi' fun q0 s1 hR1 hc => LD_sl hc ?_
    intro w7 hE7 _
    have hE67 := hE6.trans hE7
    refine LD_iiss (hb2.ext hE67) (LD_bs (hbf.ext hE67) ⟨Ext.refl _, ?_⟩)
    refine call (images_ok (hR1.any.ext hE7) (hf.ext hE67) (in_map hfl hrA) (by omega)) ?_
    rintro r8 w8 ⟨hE8, hO8⟩
    refine ⟨hE8, ?_⟩
    refine call (node_ok ((h'.ext hE67).ext hE8) hsq hq (hO8.rep (img_I64 (flat_ok hf))).any (by rw [img_len]; omega)) ?_
    rintro y w9 ⟨hy, hE9⟩
    have hE79 := hE8.trans hE9
    refine ⟨hE79, hE79, ?_⟩
    refine cond_not (fun hfa => hno (hE.trans (hE67.trans hE79)) fun hM => by rw [hy.2 (hM.nodes _ (List.getElem_mem hi'))] at hfa; cases hfa) (fun ht2 => IN_next (by have := hsp.1.1; omega) hi' ⟨hE67.trans hE79, fun r hr => ?_⟩)
    rw [List.take_succ_eq_append_getElem hi'] at hr
    rcases List.mem_append.1 hr with h1 | h1
    · exact hI r h1
    · rw [List.mem_singleton.1 h1]; exact hy.1 ht2
  · have : i = p.nodes.length := by omega
    subst this
    rw [List.take_length] at hI
    refine LD_bs3 (hb1.ext hE6) ?_
    refine call (badEdge_ok (h'.ext hE6) (hb2.ext hE6) (hbf.ext hE6) (hf.ext hE6) hp hq hsq hfl (h.edges.ext hE6)) ?_
    rintro y w10 ⟨hy, hE10⟩
    refine ⟨?_, hE.trans (hE6.trans hE10)⟩
    constructor
    · intro hh
      refine ⟨hfl, hx.1 ht, hI, fun r hr => Classical.byContradiction fun hn => ?_⟩
      have hyt := hy.2 ⟨r, hr, hn⟩
      rw [hyt] at hh; cases hh
    · intro hM
      cases hyb : y with
      | false => rfl
      | true =>
        obtain ⟨r, hr, hn⟩ := hy.1 hyb
        exact absurd (hM.edges r hr) hn

/-! ### Whether it is a label map: the reference -/

theorem reInto_ok {w : World} {s t fs : Sl} {L M : List (List Int)} {f : List Int} (hl : R w s L) (hm : R w t M) (hf : R w fs f) (hin : ∀ r ∈ L, r.length ≤ 1048576 ∧ ∀ x ∈ r, ∃ u : Nat, x = u ∧ u < f.length) :
    Calls Tryz.prog F.s_reInto #[s.v, t.v, fs.v] w (Ret [.at .bool] fun (x : Bool) w' => (x = true ↔ ∀ r ∈ L, sortI (img f r) ∈ M) ∧ Ext w w') := by
  refine C_s_reInto ?_
  unfold V_s_reInto
  rw [hl.len]
  refine ⟨IN L.length fun i w' => Ext w w' ∧ ∀ r ∈ L.take i, sortI (img f r) ∈ M, MN L.length, IN_zero ⟨Ext.refl _, by simp⟩, ?_⟩
  rintro _ w1 ⟨i, rfl, hi, hE, hI⟩
  intros
  refine cond_dec (fun hlt => ?_) (fun hge => ?_)
  · have hi' : i < L.length := by omega
    obtain ⟨hrl, hri⟩ := hin _ (List.getElem_mem hi')
    refine (hl.ext hE).ixL hi' fun q0 s1 hR1 hc => LD_sl hc ?_
    refine call (throughI_ok (hf.ext hE) hR1.any hri hrl) ?_
    rintro r2 w2 ⟨hE2, hO2⟩
    have hok := img_I64 (f := f) (l := L[i]) (flat_ok hf)
    refine call (prSorted_ok (hO2.rep hok).any (by rw [img_len]; exact hrl)) ?_
    rintro r3 w3 ⟨hE3, hO3⟩
    have hE13 := hE2.trans hE3
    refine call (prHas_ok (hm.ext (hE.trans hE13)) (hO3.rep (sortI_I64 hok)).any) ?_
    rintro _ w4 ⟨rfl, hE4⟩
    have hEt := hE.trans (hE13.trans hE4)
    refine cond_not (fun hfa => ⟨?_, hEt⟩) (fun ht => IN_next hl.le hi' ⟨hEt, fun r hr => ?_⟩)
    · simp only [Bool.false_eq_true, false_iff]
      intro hA
      have := hA _ (List.getElem_mem hi')
      simp [this] at hfa
    · rw [List.take_succ_eq_append_getElem hi'] at hr
      rcases List.mem_append.1 hr with h1 | h1
      · exact hI r h1
      · rw [List.mem_singleton.1 h1]; simpa using ht
  · have : i = L.length := by omega
    subst this
    rw [List.take_length] at hI
    exact ⟨by simp only [true_iff]; exact hI, hE⟩

theorem reMap_ok {w : World} {c d c' d' fs : Sl} {p q : Prob} {f : List Int} (h : RProb w c d p) (h' : RProb w c' d' q) (hp : PGood p) (hq : PGood q) (hf : R w fs f) :
    Calls Tryz.prog F.s_reMap #[.agg #[.int .i64 p.labels, .int .i64 p.degree, c.v, d.v], .agg #[.int .i64 q.labels, .int .i64 q.degree, c'.v, d'.v], fs.v] w (Ret [.at .bool] fun (x : Bool) w' => (x = true ↔ MapOk p q f) ∧ Ext w w') := by
  refine C_s_reMap ?_
  unfold V_s_reMap
  refine NEW_intro fun pp w1 hp1 hs1 hE1 hb1 => NEW_intro fun pq w2 hp2 hs2 hE2 hb2 => LD_bi0 (hb1.ext hE2) ?_
  have hE := hE1.trans hE2
  replace h := h.ext hE
  replace h' := h'.ext hE
  replace hf := hf.ext hE
  replace hb1 := hb1.ext hE2
  have hno : ∀ {w' : World}, Ext w w' → ¬ MapOk p q f → (false = true ↔ MapOk p q f) ∧ Ext w w' := fun h1 h2 => ⟨by simp [h2], h1⟩
  rw [hf.len]
  refine cond_eq (fun heq => LD_bi0 hb2 ?_) (fun hne => hno hE fun hM => hne hM.len)
  have hfl : (f.length : Int) = p.labels := heq
  have hlq := hq.lab
  have hd := hp.deg
  rw [wrap_of (n := q.labels - 1) (by omega) (by omega)]
  refine call (l1All_ok hf 0 (q.labels - 1)) ?_
  rintro x _ ⟨hx, rfl⟩
  refine cond_b (fun ht => LD_bs2 hb1 (LD_bs2 hb2 ?_)) (fun hfa => hno hE fun hM => by rw [hx.2 hM.labs] at hfa; cases hfa)
  refine call (reInto_ok h.nodes h'.nodes hf fun r hr => ⟨by have := (confRow hp.nodes hr).1; omega, in_map hfl (confRow hp.nodes hr).2⟩) ?_
  rintro y w4 ⟨hy, hE4⟩
  replace hE := hE.ext hE4
  replace h := h.ext hE4
  replace h' := h'.ext hE4
  replace hf := hf.ext hE4
  replace hb1 := hb1.ext hE4
  replace hb2 := hb2.ext hE4
  refine cond_b (fun ht2 => LD_bs3 hb1 (LD_bs3 hb2 ?_)) (fun hfa => hno hE fun hM => by rw [hy.2 hM.nodes] at hfa; cases hfa)
  refine call (reInto_ok h.edges h'.edges hf fun r hr => ⟨by have := (confRow hp.edges hr).1; omega, in_map hfl (confRow hp.edges hr).2⟩) ?_
  rintro z w5 ⟨hz, hE5⟩
  exact ⟨⟨fun ht3 => ⟨hfl, hx.1 ht, hy.1 ht2, hz.1 ht3⟩, fun hM => hz.2 hM.edges⟩, hE.trans hE5⟩

/-! ### The statement's answers -/

theorem MlAsked.of {p q : Prob} {f : List Int} {n : Net} {L : List (List Int)} (h1 : TwoOk p q) (h2 : MapOk p q f) (h3 : Good n) (h4 : LabOk p n.ends L) : MlAsked p q f n L := ⟨h1.1, h1.2.1, h1.2.2, h2, h3, h4⟩

theorem rowsOut_ok {w : World} {fs s : Sl} {f : List Int} {L : List (List Int)} {Q : Sl → Bool → World → Prop} (hf : R w fs f) (hl : R w s L) (hin : ∀ r ∈ L, r.length ≤ 1048576 ∧ ∀ x ∈ r, ∃ u : Nat, x = u ∧ u < f.length) (hL : L.length ≤ 1048576)
    (hQ : ∀ r w', Ext w w' → OutM w.heap.size w' r (L.map (img f)) → Q r true w') : V_i_MapLabels_k1 fs s Q w := by
  unfold V_i_MapLabels_k1
  rw [hl.len]
  refine ⟨IN2 L.length fun i out w' => Ext w w' ∧ ∃ ss, RowsD w' w.heap.size T.t_int T.t_sl_int out ((L.take i).map (img f)) ss, MN2 L.length, IN2_zero ⟨Ext.refl _, [], by simpa using RowsD.nil _ _ _ _⟩, ?_⟩
  rintro out _ w2 ⟨i, rfl, hi, hE2, ss, hM⟩
  intros
  refine cond_dec (fun hlt => ?_) (fun hge => ?_)
  · have hi' : i < L.length := by omega
    obtain ⟨hrl, hri⟩ := hin _ (List.getElem_mem hi')
    refine (hl.ext hE2).ixL hi' fun q0 s1 hR1 hc => LD_sl hc ?_
    refine call (images_ok hR1.any (hf.ext hE2) hri hrl) ?_
    rintro r w3 ⟨hE3, hO3⟩
    refine RUN_lit1 (α := Sl) slt_rows r rfl (by decide) fun y w4 hE4 hO4 => ?_
    have hE24 := hE3.trans hE4
    have hsz := hE2.size_le
    refine RUN_append_rowD slt_rows (by decide) (hM.ext hE24) (Nat.le_trans hsz hE24.size_le) ((hO3.ext hE4).low hsz) (hM.fresh (hO3.ext hE4) (Nat.le_refl _)) hO4 (by simp; omega) (by simp [maxLen]; omega) fun s' w5 hM5 hs5 => ?_
    refine IN2_next hl.le hi' ⟨hs5.ext0 (hE2.trans hE24) (fun k hk => ((hM.ext hE24).own.blk k hk).1), ss ++ [r], ?_⟩
    · rw [map_take_succ hi']
      exact hM5
  · have : i = L.length := by omega
    subst this
    rw [List.take_length] at hM
    refine hQ _ _ hE2 ⟨⟨ss, hM⟩, fun r hr => ?_, by simpa using hL, fun r hr => ?_⟩
    · obtain ⟨l, _, rfl⟩ := List.mem_map.1 hr
      exact img_I64 (flat_ok hf)
    · obtain ⟨l, hl', rfl⟩ := List.mem_map.1 hr
      rw [img_len]
      exact (hin l hl').1


theorem rowsOutS_ok {w : World} {fs s : Sl} {f : List Int} {L : List (List Int)} {Q : Sl → World → Prop} (hf : R w fs f) (hl : R w s L) (hin : ∀ r ∈ L, r.length ≤ 1048576 ∧ ∀ x ∈ r, ∃ u : Nat, x = u ∧ u < f.length) (hL : L.length ≤ 1048576)
    (hQ : ∀ r w', Ext w w' → OutM w.heap.size w' r (L.map (img f)) → Q r w') : V_s_reApply Q fs s w := by
  unfold V_s_reApply
  rw [hl.len]
  refine ⟨IN2 L.length fun i out w' => Ext w w' ∧ ∃ ss, RowsD w' w.heap.size T.t_int T.t_sl_int out ((L.take i).map (img f)) ss, MN2 L.length, IN2_zero ⟨Ext.refl _, [], by simpa using RowsD.nil _ _ _ _⟩, ?_⟩
  rintro out _ w2 ⟨i, rfl, hi, hE2, ss, hM⟩
  intros
  refine cond_dec (fun hlt => ?_) (fun hge => ?_)
  · have hi' : i < L.length := by omega
    obtain ⟨hrl, hri⟩ := hin _ (List.getElem_mem hi')
    refine (hl.ext hE2).ixL hi' fun q0 s1 hR1 hc => LD_sl hc ?_
    refine call (throughI_ok (hf.ext hE2) hR1.any hri hrl) ?_
    rintro r w3 ⟨hE3, hO3⟩
    refine RUN_lit1 (α := Sl) slt_rows r rfl (by decide) fun y w4 hE4 hO4 => ?_
    have hE24 := hE3.trans hE4
    have hsz := hE2.size_le
    refine RUN_append_rowD slt_rows (by decide) (hM.ext hE24) (Nat.le_trans hsz hE24.size_le) ((hO3.ext hE4).low hsz) (hM.fresh (hO3.ext hE4) (Nat.le_refl _)) hO4 (by simp; omega) (by simp [maxLen]; omega) fun s' w5 hM5 hs5 => ?_
    refine IN2_next hl.le hi' ⟨hs5.ext0 (hE2.trans hE24) (fun k hk => ((hM.ext hE24).own.blk k hk).1), ss ++ [r], ?_⟩
    · rw [map_take_succ hi']
      exact hM5
  · have : i = L.length := by omega
    subst this
    rw [List.take_length] at hM
    refine hQ _ _ hE2 ⟨⟨ss, hM⟩, fun r hr => ?_, by simpa using hL, fun r hr => ?_⟩
    · obtain ⟨l, _, rfl⟩ := List.mem_map.1 hr
      exact img_I64 (flat_ok hf)
    · obtain ⟨l, hl', rfl⟩ := List.mem_map.1 hr
      rw [img_len]
      exact (hin l hl').1


theorem LabOk.inMap {p : Prob} {n : Net} {L : List (List Int)} {f : List Int} (hg : Good n) (h : LabOk p n.ends L) (hfl : (f.length : Int) = p.labels) : (∀ r ∈ L, r.length ≤ 1048576 ∧ ∀ x ∈ r, ∃ u : Nat, x = u ∧ u < f.length) ∧ L.length ≤ 1048576 := by
  have h40 := hg.size.2
  have hLl := h.rows.1
  refine ⟨fun r hr => ⟨?_, in_map hfl (h.labs r hr)⟩, by omega⟩
  obtain ⟨v, hv, rfl⟩ := List.mem_iff_getElem.1 hr
  have hve : v < n.ends.length := by omega
  have h1 := h.rows.2 v hv
  rw [rowD hv, rowD hve] at h1
  have := hg.deg hve
  omega

theorem MapLabels_ok {w : World} {c d c' d' fs a b e s : Sl} {p q : Prob} {f : List Int} {n : Net} {L : List (List Int)} (h : RProb w c d p) (h' : RProb w c' d' q) (hf : R w fs f) (hN : RNet w a b e n) (hl : R w s L) (hsp : SmallP p) (hsq : SmallP q) (hn : Small n) (_ : SmallM L) :
    Calls Tryz.prog F.i_MapLabels #[.agg #[.int .i64 p.labels, .int .i64 p.degree, c.v, d.v], .agg #[.int .i64 q.labels, .int .i64 q.degree, c'.v, d'.v], fs.v, .agg #[a.v, b.v, e.v], s.v] w (Ret [.at .sl, .at .bool] fun (r : Sl) (y : Bool) w' => Ext w w' ∧ ∃ m, OutM w.heap.size w' r m ∧ AnsG (MlAsked p q f n L) (L.map (img f)) [] m y) := by
  refine C_i_MapLabels ?_
  unfold V_i_MapLabels
  refine NEW_intro fun pp w1 hp1 hs1 hE1 hb1 => NEW_intro fun pq w2 hp2 hs2 hE2 hb2 => NEW_intro fun pn w3 hp3 hs3 hE3 hb3 => ?_
  have hE := (hE1.trans hE2).trans hE3
  replace h := h.ext hE
  replace h' := h'.ext hE
  replace hf := hf.ext hE
  replace hN := hN.ext hE
  replace hl := hl.ext hE
  replace hb1 := hb1.ext hE2
  replace hb1 := hb1.ext hE3
  replace hb2 := hb2.ext hE3
  refine LD_iiss hb1 (LD_iiss hb2 ?_)
  refine call (areProblems_ok h h') ?_
  rintro x w4 ⟨hx, hE4⟩
  replace hE := hE.ext hE4
  replace h := h.ext hE4
  replace h' := h'.ext hE4
  replace hf := hf.ext hE4
  replace hN := hN.ext hE4
  replace hl := hl.ext hE4
  replace hb1 := hb1.ext hE4
  replace hb2 := hb2.ext hE4
  replace hb3 := hb3.ext hE4
  refine cond_not (fun hfa => ⟨hE, [], OutM.nil _ _, .no fun hA => (by rw [hx.2 ⟨hA.left, hA.right, hA.deg⟩] at hfa; cases hfa)⟩) (fun ht => LD_iiss hb1 (LD_iiss hb2 ?_))
  have hT := hx.1 ht
  refine call (isLabelMap_ok h h' hT.1 hT.2.1 hsp hsq hf) ?_
  rintro y w5 ⟨hy, hE5⟩
  replace hE := hE.ext hE5
  replace h := h.ext hE5
  replace h' := h'.ext hE5
  replace hf := hf.ext hE5
  replace hN := hN.ext hE5
  replace hl := hl.ext hE5
  replace hb1 := hb1.ext hE5
  replace hb2 := hb2.ext hE5
  replace hb3 := hb3.ext hE5
  refine cond_not (fun hfa => ⟨hE, [], OutM.nil _ _, .no fun hA => (by rw [hy.2 hA.map] at hfa; cases hfa)⟩) (fun ht2 => LD_box3 hb3 ?_)
  have hMp := hy.1 ht2
  refine call (isNetwork_ok hN hn.2.2.1) ?_
  rintro z w6 ⟨hz, hE6⟩
  replace hE := hE.ext hE6
  replace h := h.ext hE6
  replace h' := h'.ext hE6
  replace hf := hf.ext hE6
  replace hN := hN.ext hE6
  replace hl := hl.ext hE6
  replace hb1 := hb1.ext hE6
  replace hb2 := hb2.ext hE6
  replace hb3 := hb3.ext hE6
  refine cond_not (fun hfa => ⟨hE, [], OutM.nil _ _, .no fun hA => (by rw [hz.2 hA.good] at hfa; cases hfa)⟩) (fun ht3 => LD_iiss hb1 (LD_box3 hb3 ?_))
  have hg := hz.1 ht3
  refine call (isLabeling_ok h hT.1 hN hl) ?_
  rintro u w7 ⟨hu, hE7⟩
  replace hE := hE.ext hE7
  replace h := h.ext hE7
  replace h' := h'.ext hE7
  replace hf := hf.ext hE7
  replace hN := hN.ext hE7
  replace hl := hl.ext hE7
  replace hb1 := hb1.ext hE7
  replace hb2 := hb2.ext hE7
  replace hb3 := hb3.ext hE7
  refine cond_not (fun hfa => ⟨hE, [], OutM.nil _ _, .no fun hA => (by rw [hu.2 hA.lab] at hfa; cases hfa)⟩) (fun ht4 => ?_)
  have hLb := hu.1 ht4
  obtain ⟨hin, hL⟩ := hLb.inMap hg hMp.len
  refine rowsOut_ok hf hl hin hL fun r w' hE' hM => ⟨hE.trans hE', _, hM.low hE.size_le, .yes (.of hT hMp hg hLb)⟩

theorem sMapLabels_ok {w : World} {c d c' d' fs a b e s : Sl} {p q : Prob} {f : List Int} {n : Net} {L : List (List Int)} (h : RProb w c d p) (h' : RProb w c' d' q) (hf : R w fs f) (hN : RNet w a b e n) (hl : R w s L) :
    Calls Tryz.prog F.s_MapLabels #[.agg #[.int .i64 p.labels, .int .i64 p.degree, c.v, d.v], .agg #[.int .i64 q.labels, .int .i64 q.degree, c'.v, d'.v], fs.v, .agg #[a.v, b.v, e.v], s.v] w (Ret [.at .sl, .at .bool] fun (r : Sl) (y : Bool) w' => Ext w w' ∧ ∃ m, R w' r m ∧ AnsG (MlAsked p q f n L) (L.map (img f)) [] m y) := by
  refine C_s_MapLabels ?_
  unfold V_s_MapLabels
  refine NEW_intro fun pp w1 hp1 hs1 hE1 hb1 => NEW_intro fun pq w2 hp2 hs2 hE2 hb2 => NEW_intro fun pn w3 hp3 hs3 hE3 hb3 => ?_
  have hE := (hE1.trans hE2).trans hE3
  replace h := h.ext hE
  replace h' := h'.ext hE
  replace hf := hf.ext hE
  replace hN := hN.ext hE
  replace hl := hl.ext hE
  replace hb1 := hb1.ext hE2
  replace hb1 := hb1.ext hE3
  replace hb2 := hb2.ext hE3
  refine LD_iiss hb1 (LD_iiss hb2 ?_)
  refine call (reTwo_ok h h') ?_
  rintro x w4 ⟨hx, hE4⟩
  replace hE := hE.ext hE4
  replace h := h.ext hE4
  replace h' := h'.ext hE4
  replace hf := hf.ext hE4
  replace hN := hN.ext hE4
  replace hl := hl.ext hE4
  replace hb1 := hb1.ext hE4
  replace hb2 := hb2.ext hE4
  replace hb3 := hb3.ext hE4
  refine cond_not (fun hfa => ⟨hE, [], (OutM.nil 0 _).rep, .no fun hA => (by rw [hx.2 ⟨hA.left, hA.right, hA.deg⟩] at hfa; cases hfa)⟩) (fun ht => LD_iiss hb1 (LD_iiss hb2 ?_))
  have hT := hx.1 ht
  refine call (reMap_ok h h' hT.1 hT.2.1 hf) ?_
  rintro y w5 ⟨hy, hE5⟩
  replace hE := hE.ext hE5
  replace h := h.ext hE5
  replace h' := h'.ext hE5
  replace hf := hf.ext hE5
  replace hN := hN.ext hE5
  replace hl := hl.ext hE5
  replace hb1 := hb1.ext hE5
  replace hb2 := hb2.ext hE5
  replace hb3 := hb3.ext hE5
  refine cond_not (fun hfa => ⟨hE, [], (OutM.nil 0 _).rep, .no fun hA => (by rw [hy.2 hA.map] at hfa; cases hfa)⟩) (fun ht2 => LD_iiss hb1 (LD_box3 hb3 ?_))
  have hMp := hy.1 ht2
  refine call (prAsked_ok h hN hl) ?_
  rintro z w6 ⟨hz, hE6⟩
  replace hE := hE.ext hE6
  replace h := h.ext hE6
  replace h' := h'.ext hE6
  replace hf := hf.ext hE6
  replace hN := hN.ext hE6
  replace hl := hl.ext hE6
  replace hb1 := hb1.ext hE6
  replace hb2 := hb2.ext hE6
  replace hb3 := hb3.ext hE6
  refine cond_not (fun hfa => ⟨hE, [], (OutM.nil 0 _).rep, .no fun hA => (by rw [hz.2 ⟨hA.left, hA.good, hA.lab⟩] at hfa; cases hfa)⟩) (fun ht3 => ?_)
  have hS := hz.1 ht3
  obtain ⟨hin, hL⟩ := hS.lab.inMap hS.good hMp.len
  refine C_s_reApply ?_
  refine rowsOutS_ok hf hl hin hL fun r w' hE' hM => ⟨hE.trans hE', _, hM.rep, .yes (.of hT hMp hS.good hS.lab)⟩

end Go.Proofs.YtjfodknpphhajaaGreat
