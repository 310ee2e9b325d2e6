/- Colours of near nodes, both sides. -/
import Derived.Test.YtoeaoinedidbiaaFarI
namespace Go.Proofs.Ytoeaoinedidbiaa
open Go.GX Go.RowKit
set_option maxRecDepth 100000

/-- Near nodes have different colours. -/
def FarOk (n : Net) (l : List Int) (k : Int) : Prop := ∀ v < n.ends.length, ∀ D, Dists n.ends v D → ∀ u < n.ends.length, 1 ≤ D.getD u (-1) → D.getD u (-1) ≤ k → l.getD v 0 ≠ l.getD u 0

theorem allDistances_ok {w : World} {a b c : Sl} {n : Net} (h : RNet w a b c n) (hg : Good n) :
    Calls Try.prog F.i_allDistances #[.agg #[a.v, b.v, c.v]] w (Ret [.at .sl] fun (r : Sl) w' => Ext w w' ∧ ∃ M, R w' r M ∧ M.length = n.ends.length ∧ ∀ v (hv : v < M.length), Dists n.ends v M[v]) := by
  refine C_i_allDistances ?_
  unfold V_i_allDistances
  refine NEW_intro fun p w1 hp hs hE1 hb1 => LD_bs0 hb1 ?_
  replace h := h.ext hE1
  rw [h.1.len]
  have h40 := hg.size.2
  refine ⟨IN2 n.ends.length fun i out w' => Ext w1 w' ∧ ∃ M, Own2 w' w1.heap.size T.t_int T.t_sl_int out M ∧ M.length = i ∧ (∀ v (hv : v < M.length), Dists n.ends v M[v]) ∧ ∀ r ∈ M, ∀ x ∈ r, I64 x, MN2 n.ends.length, IN2_zero ⟨Ext.refl _, [], Own2.nil _ _ _ _, rfl, fun v hv => absurd hv (by simp), by simp⟩, ?_⟩
  rintro out _ w2 ⟨i, rfl, hi, hE2, M, hM, hMl, hMd, hMi⟩
  intros
  refine cond_dec (fun hlt => ?_) (fun hge => ?_)
  · have hi' : i < n.ends.length := by omega
    refine LD_box3 (hb1.ext hE2) ?_
    refine call (distancesFrom_ok (h.ext hE2) hg hi') ?_
    rintro r w3 ⟨hE3, D, hO3, hD, hDx⟩
    refine RUN_lit1 (α := Sl) slt_rows r rfl (by decide) fun y w4 hE4 hO4 => ?_
    have hE24 := hE3.trans hE4
    have hsz := hE2.size_le
    refine RUN_append_row slt_rows (by decide) (hM.ext hE24) (Nat.le_trans hsz hE24.size_le) ((hO3.ext hE4).low hsz) hO4 (by omega) (by unfold maxLen; omega) fun s' w5 hM5 hs5 => ?_
    refine IN2_next (by omega) hi' ⟨hs5.ext0 (hE2.trans hE24) (fun k hk => ((hM.ext hE24).blk k hk).1), _, hM5, by simp [hMl], fun v hv => ?_, fun r hr => ?_⟩
    · rw [List.getElem_append]
      split
      · exact hMd v _
      · have : v = i := by simp at hv; omega
        subst this
        simpa [hMl] using hD
    · rcases List.mem_append.1 hr with h1 | h1
      · exact hMi r h1
      · rw [List.mem_singleton.1 h1]
        intro x hx
        have := hDx x hx
        unfold I64; omega
  · have : i = n.ends.length := by omega
    subst this
    exact ⟨hE1.trans hE2, M, hM.rep hMi, hMl, hMd⟩

theorem IsDistanceColouring_ok {w : World} {a b c s : Sl} {n : Net} {l : List Int} (h : RNet w a b c n) (hl : R w s l) {k : Int} (_hk : I64 k) (hn : Small n) :
    Calls Try.prog F.i_IsDistanceColouring #[.agg #[a.v, b.v, c.v], s.v, .int .i64 k] w (Ret [.at .bool, .at .bool] fun (x y : Bool) w' => Ans2 (ColoursOk n l ∧ 1 ≤ k ∧ k ≤ 40) (FarOk n l k) x y ∧ Ext w w') := by
  refine C_i_IsDistanceColouring ?_
  unfold V_i_IsDistanceColouring
  refine NEW_intro fun p w1 hp hs hE1 hb1 => LD_box3 hb1 ?_
  replace h := h.ext hE1
  replace hl := hl.ext hE1
  refine call (areColours_ok h hl hn) ?_
  rintro x w2 ⟨hx, hE2⟩
  have hE := hE1.trans hE2
  replace h := h.ext hE2
  replace hl := hl.ext hE2
  replace hb1 := hb1.ext hE2
  refine cond_not (fun hf => ⟨.no fun hg => ?_, hE⟩) (fun ht => ?_)
  · rw [hx.2 hg.1] at hf; cases hf
  have hC := hx.1 ht
  refine call (within_ok _ _ _ _) ?_
  rintro y _ ⟨hy, rfl⟩
  refine cond_not (fun hf => ⟨.no fun hg => inR_false (hy ▸ hf) hg.2, hE⟩) (fun ht2 => ?_)
  have hk := inR_true (hy ▸ ht2)
  unfold V_i_IsDistanceColouring_k1
  have hg := hC.good
  have h40 := hg.size.2
  have hlen := hC.len
  refine LD_box3 hb1 ?_
  refine call (allDistances_ok h hg) ?_
  rintro r w5 ⟨hE5, M, hM, hMl, hMd⟩
  replace hE := hE.ext hE5
  replace h := h.ext hE5
  replace hl := hl.ext hE5
  replace hb1 := hb1.ext hE5
  rw [hM.len]
  refine ⟨IN M.length fun v w' => Ext w5 w' ∧ ∀ v' < v, ∀ D, Dists n.ends v' D → ∀ u < n.ends.length, 1 ≤ D.getD u (-1) → D.getD u (-1) ≤ k → l.getD v' 0 ≠ l.getD u 0, MN M.length, IN_zero ⟨Ext.refl _, fun u hu => absurd hu (by omega)⟩, ?_⟩
  rintro _ w6 ⟨v, rfl, hv, hE6, hI⟩
  intros
  refine cond_dec (fun hlt => ?_) (fun hge => ?_)
  rotate_left
  · exact ⟨.mk ⟨hC, hk⟩ (by simp only [true_iff]; exact fun v' hv' => hI v' (by omega)), hE.trans hE6⟩
  have hv' : v < M.length := by omega
  have hD := hMd v hv'
  have hDl := hD.len
  have hvl : v < l.length := by omega
  refine (hM.ext hE6).ixL hv' fun q s1 hR1 hc => LD_sl hc ?_
  rw [hR1.len]
  refine ⟨IN M[v].length fun u w' => Ext w5 w' ∧ Ext w6 w' ∧ ∀ u' < u, 1 ≤ M[v].getD u' (-1) → M[v].getD u' (-1) ≤ k → l.getD v 0 ≠ l.getD u' 0, MN M[v].length, IN_zero ⟨hE6, Ext.refl _, fun u hu => absurd hu (by omega)⟩, ?_⟩
  rintro _ w7 ⟨u, rfl, hu, hE7, hE67, hJ⟩
  intros
  refine cond_dec (fun hlt2 => ?_) (fun hge2 => ?_)
  rotate_left
  · have : u = M[v].length := by omega
    subst this
    refine IN_next (by omega) hv' ⟨hE7, all_succ hI fun D hD' => ?_⟩
    rw [hD'.eq hD]
    exact fun u' hu' => hJ u' (by omega)
  have hu' : u < M[v].length := by omega
  have hul : u < l.length := by omega
  have hgu : M[v].getD u (-1) = M[v][u] := by simp [hu']
  have hgv : l.getD v 0 = l[v] := by simp [hvl]
  have hglu : l.getD u 0 = l[u] := by simp [hul]
  refine (hR1.ext hE67).ixI hu' fun q _ hc => LD_int hc ?_
  refine QCALL_bool (inR M[v][u] 1 k) (fun w' _ => call (within_ok _ _ _ _) fun _ _ ⟨h1, h2⟩ => ⟨h1, h2 ▸ Ext.refl _⟩) ?_
  refine cond_b (fun hzt => ?_) (fun hzf w9 hE9 => ?_)
  · have hzk := inR_true hzt
    refine (hl.ext hE7).ixI hvl fun q _ hc => LD_int hc ?_
    refine (hl.ext hE7).ixI hul fun q _ hc => LD_int hc ?_
    intro w8 hE8
    refine cond_eq (fun he => ⟨.mk ⟨hC, hk⟩ ?_, hE.trans (hE7.trans hE8)⟩) (fun hne => ?_)
    · simp only [Bool.false_eq_true, false_iff]
      intro hF
      exact hF v (by omega) _ hD u (by omega) (by rw [hgu]; exact hzk.1) (by rw [hgu]; exact hzk.2) (by rw [hgv, hglu]; exact he)
    · exact IN_next (by omega) hu' ⟨hE7.trans hE8, hE67.trans hE8, all_succ hJ fun _ _ => by rw [hgv, hglu]; exact hne⟩
  · exact IN_next (by omega) hu' ⟨hE7.trans hE9, hE67.trans hE9, all_succ hJ fun h1 h2 => absurd ⟨by rw [← hgu]; exact h1, by rw [← hgu]; exact h2⟩ (inR_false hzf)⟩

theorem sIsDistanceColouring_ok {w : World} {a b c s : Sl} {n : Net} {l : List Int} (h : RNet w a b c n) (hl : R w s l) {k : Int} (_hk : I64 k) :
    Calls Try.prog F.s_IsDistanceColouring #[.agg #[a.v, b.v, c.v], s.v, .int .i64 k] w (Ret [.at .bool, .at .bool] fun (x y : Bool) w' => Ans2 (ColoursOk n l ∧ 1 ≤ k ∧ k ≤ 40) (FarOk n l k) x y ∧ Ext w w') := by
  refine C_s_IsDistanceColouring ?_
  unfold V_s_IsDistanceColouring
  refine NEW_intro fun p w1 hp hs hE1 hb1 => LD_box3 hb1 ?_
  replace h := h.ext hE1
  replace hl := hl.ext hE1
  refine call (ruColours_ok h hl) ?_
  rintro x w2 ⟨hx, hE2⟩
  have hE := hE1.trans hE2
  replace h := h.ext hE2
  replace hl := hl.ext hE2
  replace hb1 := hb1.ext hE2
  refine cond_not (fun hf => ⟨.no fun hg => ?_, hE⟩) (fun ht => ?_)
  · rw [hx.2 hg.1] at hf; cases hf
  have hC := hx.1 ht
  refine call (l1In_ok _ _ _ _) ?_
  rintro y _ ⟨hy, rfl⟩
  refine cond_not (fun hf => ⟨.no fun hg => inR_false (hy ▸ hf) hg.2, hE⟩) (fun ht2 => ?_)
  have hk := inR_true (hy ▸ ht2)
  unfold V_s_IsDistanceColouring_k1
  have hg := hC.good
  have h40 := hg.size.2
  have hlen := hC.len
  rw [hl.len]
  refine ⟨IN l.length fun v w' => Ext w2 w' ∧ ∀ v' < v, ∀ D, Dists n.ends v' D → ∀ u < n.ends.length, 1 ≤ D.getD u (-1) → D.getD u (-1) ≤ k → l.getD v' 0 ≠ l.getD u 0, MN l.length, IN_zero ⟨Ext.refl _, fun u hu => absurd hu (by omega)⟩, ?_⟩
  rintro _ w5 ⟨v, rfl, hv, hE5, hI⟩
  intros
  refine cond_dec (fun hlt => ?_) (fun hge => ?_)
  rotate_left
  · exact ⟨.mk ⟨hC, hk⟩ (by simp only [true_iff]; exact fun v' hv' => hI v' (by omega)), hE.trans hE5⟩
  have hvl : v < l.length := by omega
  refine (hl.ext hE5).ixI hvl fun q _ hc => LD_int hc ?_
  refine LD_box3 (hb1.ext hE5) ?_
  refine call (meFrom_ok (h.ext hE5) hg (v := v) (by omega)) ?_
  rintro r w6 ⟨hE6, D, hO6, hD, hDx⟩
  have hDl := hD.len
  have hR6 := (hO6.rep (ints_ok hDx (by omega))).any
  have hE56 := hE5.trans hE6
  rw [hR6.len]
  refine ⟨IN D.length fun u w' => w6 = w' ∧ ∀ u' < u, 1 ≤ D.getD u' (-1) → D.getD u' (-1) ≤ k → l.getD v 0 ≠ l.getD u' 0, MN D.length, IN_zero ⟨rfl, fun u hu => absurd hu (by omega)⟩, ?_⟩
  rintro _ _ ⟨u, rfl, hu, rfl, hJ⟩
  intros
  refine cond_dec (fun hlt2 => ?_) (fun hge2 => ?_)
  rotate_left
  · have : u = D.length := by omega
    subst this
    refine IN_next (by omega) hvl ⟨hE56, all_succ hI fun D' hD' => ?_⟩
    rw [hD'.eq hD]
    exact fun u' hu' => hJ u' (by omega)
  have hu' : u < D.length := by omega
  have hul : u < l.length := by omega
  have hgu : D.getD u (-1) = D[u] := by simp [hu']
  have hgv : l.getD v 0 = l[v] := by simp [hvl]
  have hglu : l.getD u 0 = l[u] := by simp [hul]
  refine hR6.ixI hu' fun q _ hc => LD_int hc ?_
  refine call (l1In_ok _ _ _ _) ?_
  rintro z _ ⟨hz, rfl⟩
  refine cond_b (fun hzt => ?_) (fun hzf => ?_)
  · have hzk := inR_true (hz ▸ hzt)
    refine (hl.ext hE56).ixI hul fun q _ hc => LD_int hc ?_
    refine cond_eq (fun he => ⟨.mk ⟨hC, hk⟩ ?_, hE.trans hE56⟩) (fun hne => ?_)
    · simp only [Bool.false_eq_true, false_iff]
      intro hF
      exact hF v (by omega) _ hD u (by omega) (by rw [hgu]; exact hzk.1) (by rw [hgu]; exact hzk.2) (by rw [hgv, hglu]; exact he.symm)
    · exact IN_next (by omega) hu' ⟨rfl, all_succ hJ fun _ _ => by rw [hgv, hglu]; exact fun he => hne he.symm⟩
  · exact IN_next (by omega) hu' ⟨rfl, all_succ hJ fun h1 h2 => absurd ⟨by rw [← hgu]; exact h1, by rw [← hgu]; exact h2⟩ (inR_false (hz ▸ hzf))⟩

end Go.Proofs.Ytoeaoinedidbiaa
