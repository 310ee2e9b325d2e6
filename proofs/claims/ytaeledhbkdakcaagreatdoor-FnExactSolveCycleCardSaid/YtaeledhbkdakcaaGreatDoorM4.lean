/- Own texts, merged: WalkS1, WalkS2, Trod2, WalkIn, Cy3, Cy4, WalkI2, WalkI3, WalkS3, WalkI4. -/
import Derived.Test.YtaeledhbkdakcaaGreatDoorM3
set_option linter.unusedVariables false
section
/- Walk problems, the reference: matrices of pairs of labels. -/
namespace Go.Proofs.YtaeledhbkdakcaaGreatDoor
open Go.GX Go.RowKit
set_option maxRecDepth 100000

theorem slt_rowsB : SlT Tryz.prog T.t_sl_sl_bool T.t_sl_bool 1 24 (.slice none 0 0) := ⟨by kernel_rfl, by kernel_rfl, rfl, by decide⟩
theorem slt_matsB : SlT Tryz.prog T.t_sl_sl_sl_bool T.t_sl_sl_bool 1 24 (.slice none 0 0) := ⟨by kernel_rfl, by kernel_rfl, rfl, by decide⟩

noncomputable def rowB (n : Nat) (P : Nat → Prop) : List Bool := by
  classical exact (List.range n).map fun b => decide (P b)
noncomputable def matB (n : Nat) (P : Nat → Nat → Prop) : List (List Bool) := (List.range n).map fun a => rowB n (P a)
theorem rowB_len (n : Nat) (P : Nat → Prop) : (rowB n P).length = n := by simp [rowB]
theorem matB_len (n : Nat) (P : Nat → Nat → Prop) : (matB n P).length = n := by simp [matB]
theorem rowB_get {n : Nat} {P : Nat → Prop} {a : Nat} (h : a < (rowB n P).length) : ((rowB n P)[a] = true) ↔ P a := by simp [rowB]
theorem matB_get {n : Nat} {P : Nat → Nat → Prop} {a : Nat} (h : a < (matB n P).length) : (matB n P)[a] = rowB n (P a) := by simp [matB]
theorem rowB_congr {n : Nat} {P Q : Nat → Prop} (h : ∀ a < n, P a ↔ Q a) : rowB n P = rowB n Q := by
  apply List.ext_getElem
  · rw [rowB_len, rowB_len]
  · intro a h1 h2
    rw [Bool.eq_iff_iff, rowB_get, rowB_get]
    exact h a (by rw [rowB_len] at h1; exact h1)
theorem matB_congr {n : Nat} {P Q : Nat → Nat → Prop} (h : ∀ a < n, ∀ b < n, P a b ↔ Q a b) : matB n P = matB n Q := by
  apply List.ext_getElem
  · rw [matB_len, matB_len]
  · intro a h1 h2
    rw [matB_get, matB_get]
    exact rowB_congr (h a (by rw [matB_len] at h1; exact h1))
theorem rowB_set {n : Nat} {P Q : Nat → Prop} {b : Nat} {v : Bool} (hv : v = true ↔ Q b) (hc : ∀ c < n, c ≠ b → (P c ↔ Q c)) : (rowB n P).set b v = rowB n Q := by
  apply List.ext_getElem
  · rw [List.length_set, rowB_len, rowB_len]
  · intro c h1 h2
    have hcn : c < n := by rw [rowB_len] at h2; exact h2
    rw [List.getElem_set, Bool.eq_iff_iff, rowB_get]
    by_cases he : b = c
    · subst he; rw [if_pos rfl]; exact hv
    · rw [if_neg he, rowB_get]; exact hc c hcn (Ne.symm he)
theorem matB_set {n : Nat} {P Q : Nat → Nat → Prop} {a b : Nat} (ha : a < n) {v : Bool} (hv : v = true ↔ Q a b) (hc : ∀ x < n, ∀ y < n, ¬ (x = a ∧ y = b) → (P x y ↔ Q x y)) : (matB n P).set a ((rowB n (P a)).set b v) = matB n Q := by
  apply List.ext_getElem
  · rw [List.length_set, matB_len, matB_len]
  · intro c h1 h2
    have hcn : c < n := by rw [matB_len] at h2; exact h2
    rw [List.getElem_set, matB_get h2]
    by_cases he : a = c
    · subst he; rw [if_pos rfl]; exact rowB_set hv fun y hy hne => hc a ha y hy fun h => hne h.2
    · rw [if_neg he, matB_get]; exact rowB_congr fun y hy => hc c hcn y hy fun h => he h.1.symm
theorem rowB_false (n : Nat) {P : Nat → Prop} (h : ∀ a < n, ¬ P a) : rowB n P = List.replicate n false := by
  apply List.ext_getElem
  · rw [rowB_len, List.length_replicate]
  · intro a h1 h2
    rw [List.getElem_replicate, ← Bool.not_eq_true, rowB_get]
    exact h a (by rw [rowB_len] at h1; exact h1)

abbrev OwnB (base : Nat) (w : World) (s : Sl) (L : List (List Bool)) (ss : List Sl) : Prop := RowsD w base T.t_bool T.t_sl_bool s L ss

theorem OwnB.repD {base : Nat} {w : World} {s : Sl} {L : List (List Bool)} {ss : List Sl} (h : OwnB base w s L ss) : SlR (fun b => base ≤ b) w s L := h.own2.repD fun _ _ _ _ => trivial

/-- One place of a matrix written. -/
theorem ST_mat {base : Nat} {w : World} {s : Sl} {n : Nat} {P Q : Nat → Nat → Prop} {ss : List Sl} {a b : Nat} {r : Sl} {p : Addr} {v : Bool} (h : OwnB base w s (matB n P) ss) (ha : a < n) (hb : b < n) (hr : ss[a]? = some r) (hp : Plc r b 1 p) (hv : v = true ↔ Q a b) (hc : ∀ x < n, ∀ y < n, ¬ (x = a ∧ y = b) → (P x y ↔ Q x y)) {K : World → Prop}
    (hk : ∀ w', OwnB base w' s (matB n Q) ss → Step w w' r.v.ownBlock → K w') : GX.ST p 0 [.bool v] w K := by
  have hal : a < (matB n P).length := by rw [matB_len]; exact ha
  have hO := h.row a r (matB n P)[a] hr (by simp [hal])
  rw [matB_get hal] at hO
  refine ST_own (α := Bool) hO (i := b) (by rw [rowB_len]; exact hb) hp v rfl fun w' hO' hs => ?_
  have h2 := h.chg (by decide) hr hO' hs
  rw [matB_set ha hv hc] at h2
  exact hk w' h2 hs

theorem waMay_ok {w : World} {s : Sl} {p : WPr} (h : RWk w s p) (hg : WGood p) :
    Calls Tryz.prog F.s_waMay #[.agg #[.int .i64 p.labels, s.v]] w (Ret [.at .sl] fun (r : Sl) w' => Ext w w' ∧ ∃ ss, OwnB w.heap.size w' r (matB p.labels.toNat (arcE p.arcs)) ss) := by
  refine C_s_waMay ?_
  unfold V_s_waMay
  refine NEW_intro fun pp w1 hp1 hs1 hE1 hb1 => ?_
  have hl := hg.lab
  obtain ⟨n, hn⟩ : ∃ n : Nat, p.labels = n := ⟨p.labels.toNat, by omega⟩
  have hnt : p.labels.toNat = n := by omega
  have hn12 : n ≤ 12 := by omega
  rw [hnt]
  have hz1 := hE1.size_le
  refine ⟨fun (out : Sl) (x : Int) w' => ∃ a : Nat, x = a ∧ a ≤ n ∧ Ext w1 w' ∧ ∃ ss, OwnB w1.heap.size w' out (List.replicate a (rowB n fun _ => False)) ss, fun _ x _ => n - x.toNat, ⟨0, rfl, by omega, Ext.refl _, [], RowsD.nil _ _ _ _⟩, ?_⟩
  rintro out _ w2 ⟨a, rfl, ha, hE2, ss, hM⟩
  intros
  have hb2 := hb1.ext hE2
  refine LD_bi0 hb2 (cond_dec (fun hlt => LD_bi0 hb2 ?_) (fun hge => ?_))
  · have han : a < n := by omega
    have hrun : ∀ {K : Sl → World → Prop}, RUN Tryz.prog (.at .sl) (Instr.makeSlice T.t_sl_bool (.int .i64 (n : Int)) (.int .i64 (n : Int))) w2 K → RUN Tryz.prog (.at .sl) (Instr.makeSlice T.t_sl_bool (.int .i64 p.labels) (.int .i64 p.labels)) w2 K := fun hk => by rw [hn]; exact hk
    refine hrun ?_
    refine RUN_make (α := Bool) slt_bool (d := false) rfl (by omega) (by unfold maxLen; omega) fun r w3 hE3 hO3 => ?_
    rw [← rowB_false n (P := fun _ => False) (fun _ _ h => h)] at hO3
    refine RUN_lit1 (α := Sl) slt_rowsB r rfl (by decide) fun y w4 hE4 hO4 => ?_
    have hz2 := hE2.size_le
    have hz3 := hE3.size_le
    have hz4 := hE4.size_le
    refine RUN_append_rowD slt_rowsB (by decide) (hM.ext (hE3.trans hE4)) (by omega) ((hO3.ext hE4).low hz2) (hM.fresh hO3 (Nat.le_refl _)) hO4 (by simp; omega) (by simp [maxLen]; omega) fun s' w5 hM5 hs5 => ?_
    rw [wrap_of (by omega) (by omega)]
    refine ⟨⟨a + 1, by omega, by omega, hs5.ext0 (hE2.trans (hE3.trans hE4)) fun b hb => (hM.own.blk b hb).1, ss ++ [r], ?_⟩, by simp only []; omega⟩
    rw [List.replicate_succ']
    exact hM5
  · have : a = n := by omega
    subst this
    refine LD_bs1 hb2 ?_
    have e0 : List.replicate a (rowB a fun _ => False) = matB a (arcE (p.arcs.take 0)) := by
      apply List.ext_getElem
      · simp [matB]
      · intro c h1 h2
        rw [List.getElem_replicate, matB_get h2]
        exact rowB_congr fun b _ => by simp [arcE]
    rw [e0] at hM
    rw [h.arcs.len]
    refine ⟨IN p.arcs.length fun i w' => Ext w1 w' ∧ OwnB w1.heap.size w' out (matB a (arcE (p.arcs.take i))) ss, MN p.arcs.length, IN_zero ⟨hE2, hM⟩, ?_⟩
    rintro _ w6 ⟨i, rfl, hi, hE6, hM6⟩
    intros
    refine cond_dec (fun hlt => ?_) (fun hge2 => ?_)
    · have hi' : i < p.arcs.length := by omega
      refine (h.arcs.ext (hE1.trans hE6)).ixL hi' fun q row hrow hc => LD_sl hc ?_
      intro w7 hE7 _
      obtain ⟨x, y, he, hx, hy⟩ := hg.arc (List.getElem_mem hi')
      rw [hnt] at hx hy
      rw [he] at hrow
      have hrow7 := hrow.any.ext hE7
      have hM7 := hM6.ext hE7
      have hxl : x < (matB a (arcE (p.arcs.take i))).length := by rw [matB_len]; exact hx
      refine ⟨fun _ => False, ?_⟩
      refine hrow7.ixI (i := 0) (by simp) fun q0 _ hc0 => ⟨not_false, LD_int hc0 ?_⟩
      refine hM7.ix (i := x) hxl fun q1 r1 hr1 hO1 hc1 _ => ⟨not_false, LD_sl hc1 ⟨Chg.refl _ _, ?_⟩⟩
      refine hrow7.ixI (i := 1) (by simp) fun q2 _ hc2 => ⟨Chg.refl _ _, LD_int hc2 ⟨Chg.refl _ _, ?_⟩⟩
      rw [matB_get hxl] at hO1
      refine IX_own hO1 (i := y) (by rw [rowB_len]; exact hy) rfl fun q3 hq3 => ?_
      refine ST_mat (Q := arcE (p.arcs.take (i + 1))) (v := true) hM7 hx hy hr1 hq3 ?_ ?_ fun w8 hM8 hs8 => ?_
      · unfold arcE
        rw [List.take_succ_eq_append_getElem hi', he]
        simp
      · intro u hu v hv hne
        unfold arcE
        rw [List.take_succ_eq_append_getElem hi', he, List.mem_append, List.mem_singleton]
        simp only [List.cons.injEq, and_true, Int.natCast_inj]
        exact ⟨.inl, fun h => h.resolve_right hne⟩
      · exact IN_next h.arcs.le hi' ⟨hs8.ext0 (hE6.trans hE7) fun k hk => (hO1.blk k hk).1, hM8⟩
    · have : i = p.arcs.length := by omega
      subst this
      rw [List.take_length] at hM6
      exact ⟨hE1.trans hE6, ss, hM6.low hz1⟩

/-- Relations composed. -/
def comp2 (n : Nat) (P Q : Nat → Nat → Prop) (x z : Nat) : Prop := ∃ y, y < n ∧ P x y ∧ Q y z

theorem waTimes_ok {w : World} {s t : Sl} {n : Nat} {P Q : Nat → Nat → Prop} (hA : R w s (matB n P)) (hB : R w t (matB n Q)) (hn : n ≤ 12) :
    Calls Tryz.prog F.s_waTimes #[s.v, t.v] w (Ret [.at .sl] fun (r : Sl) w' => Ext w w' ∧ SlR (fun b => w.heap.size ≤ b) w' r (matB n (comp2 n P Q))) := by
  refine C_s_waTimes ?_
  unfold V_s_waTimes
  rw [hA.len, matB_len]
  refine ⟨IN2 n fun i (out : Sl) w' => Ext w w' ∧ ∃ ss, OwnB w.heap.size w' out ((matB n (comp2 n P Q)).take i) ss, MN2 n, IN2_zero ⟨Ext.refl _, [], RowsD.nil _ _ _ _⟩, ?_⟩
  rintro out _ w1 ⟨i, rfl, hi, hE1, ss, hM⟩
  intros
  refine cond_dec (fun hlt => ?_) (fun hge => ?_)
  · have hi' : i < n := by omega
    refine (hA.ext hE1).ixL (i := i) (by rw [matB_len]; exact hi') fun q row hrow hc => LD_sl hc ?_
    rw [matB_get (by rw [matB_len]; exact hi')] at hrow
    rw [hrow.len, rowB_len]
    refine RUN_make (α := Bool) slt_bool (d := false) rfl (by omega) (by unfold maxLen; omega) fun r w2 hE2 hO2 => ?_
    rw [← rowB_false n (P := fun z => ∃ y, y < 0 ∧ P i y ∧ Q y z) (fun _ _ ⟨_, h, _⟩ => by omega)] at hO2
    have hz1 := hE1.size_le
    have hz2 := hE2.size_le
    have hrl : r.len = n := by have := hO2.1; rw [rowB_len] at this; exact this
    have hob : ∀ k, oB r k → w1.heap.size ≤ k := fun k hk => (hO2.blk k hk).1
    rw [hrl]
    refine ⟨IN n fun k w' => Chg w2 w' (oB r) ∧ OwnL w' w1.heap.size T.t_bool r (rowB n fun z => ∃ y, y < k ∧ P i y ∧ Q y z), MN n, IN_zero ⟨Chg.refl _ _, hO2⟩, ?_⟩
    rintro _ w3 ⟨k, rfl, hk, hC3, hO3⟩
    intros
    refine cond_dec (fun hlt2 => ?_) (fun hge2 => ?_)
    · have hk' : k < n := by omega
      have hE03 : Ext w1 w3 := hC3.ext0 hE2 hob
      refine (hrow.any.ext hE03).ixB (i := k) (by rw [rowB_len]; exact hk') fun q2 hc2 => LD_bool hc2 ?_
      have hrk : (rowB n (P i))[k]'(by rw [rowB_len]; exact hk') = true ↔ P i k := rowB_get _
      generalize (rowB n (P i))[k]'(by rw [rowB_len]; exact hk') = vk at hrk
      refine ⟨IN n fun j w' => Chg w3 w' (oB r) ∧ OwnL w' w1.heap.size T.t_bool r (rowB n fun z => ∃ y, (y < k ∨ (y = k ∧ z < j)) ∧ P i y ∧ Q y z), MN n, IN_zero ⟨Chg.refl _ _, ?_⟩, ?_⟩
      · have e : (rowB n fun z => ∃ y, (y < k ∨ (y = k ∧ z < 0)) ∧ P i y ∧ Q y z) = rowB n fun z => ∃ y, y < k ∧ P i y ∧ Q y z := rowB_congr fun z _ => ⟨fun ⟨y, h, h2⟩ => ⟨y, by omega, h2⟩, fun ⟨y, h, h2⟩ => ⟨y, .inl h, h2⟩⟩
        rw [e]; exact hO3
      rintro _ w4 ⟨j, rfl, hj, hC4, hO4⟩
      intros
      refine cond_dec (fun hlt3 => ?_) (fun hge3 => ?_)
      · have hj' : j < n := by omega
        have hE04 : Ext w1 w4 := hC4.ext0 hE03 hob
        have hjl : j < (rowB n fun z => ∃ y, (y < k ∨ (y = k ∧ z < j)) ∧ P i y ∧ Q y z).length := by rw [rowB_len]; exact hj'
        have fin : ∀ {v : Bool} {q3 : Addr}, Plc r j 1 q3 → (v = true ↔ ∃ y, (y < k ∨ (y = k ∧ j < j + 1)) ∧ P i y ∧ Q y j) → GX.ST q3 0 [.bool v] w4 fun w5 => IN n (fun j w' => Chg w3 w' (oB r) ∧ OwnL w' w1.heap.size T.t_bool r (rowB n fun z => ∃ y, (y < k ∨ (y = k ∧ z < j)) ∧ P i y ∧ Q y z)) (IntKind.i64.wrap ((j : Int) + 1)) w5 ∧ MN n (IntKind.i64.wrap ((j : Int) + 1)) w5 < MN n (j : Int) w4 := fun {v q3} hq3 hv => by
          refine ST_own (α := Bool) hO4 hjl hq3 v rfl fun w5 hO5 hs5 => IN_next (by omega) hj' ⟨hC4.trans (.of_step hs5 fun k hk => hk), ?_⟩
          rw [rowB_set (Q := fun z => ∃ y, (y < k ∨ (y = k ∧ z < j + 1)) ∧ P i y ∧ Q y z) hv (fun c hc hne => ⟨fun ⟨y, h, h2⟩ => ⟨y, by omega, h2⟩, fun ⟨y, h, h2⟩ => ⟨y, by omega, h2⟩⟩)] at hO5
          exact hO5
        refine (hO4.rep fun _ _ => trivial).any.ixB hjl fun q3 hc3 => LD_bool hc3 ?_
        have hold := rowB_get hjl
        generalize (rowB n fun z => ∃ y, (y < k ∨ (y = k ∧ z < j)) ∧ P i y ∧ Q y z)[j] = old at hold
        refine cond_b (fun ht => IX_own hO4 hjl rfl fun q4 hq4 => fin hq4 ⟨fun _ => ?_, fun _ => rfl⟩) (fun hf => ?_)
        · obtain ⟨y, h1, h2⟩ := hold.1 ht
          exact ⟨y, by omega, h2⟩
        · have hno : ¬ ∃ y, y < k ∧ P i y ∧ Q y j := fun ⟨y, h1, h2⟩ => by rw [hold.2 ⟨y, .inl h1, h2⟩] at hf; cases hf
          refine cond_b (fun htk => ?_) (fun hfk => IX_own hO4 hjl rfl fun q4 hq4 => fin hq4 ⟨(fun hh => by cases hh), fun ⟨y, h1, h2, h3⟩ => ?_⟩)
          · refine (hB.ext (hE1.trans hE04)).ixL (i := k) (by rw [matB_len]; exact hk') fun q5 row2 hrow2 hc5 => LD_sl hc5 ?_
            rw [matB_get (by rw [matB_len]; exact hk')] at hrow2
            have hjl2 : j < (rowB n (Q k)).length := by rw [rowB_len]; exact hj'
            refine hrow2.any.ixB hjl2 fun q6 hc6 => LD_bool hc6 ?_
            refine IX_own hO4 hjl rfl fun q4 hq4 => fin hq4 ?_
            rw [rowB_get hjl2]
            constructor
            · intro hq
              exact ⟨k, .inr ⟨rfl, by omega⟩, hrk.1 htk, hq⟩
            · rintro ⟨y, h1, h2, h3⟩
              rcases h1 with h1 | ⟨rfl, _⟩
              · exact absurd ⟨y, h1, h2, h3⟩ hno
              · exact h3
          · exfalso
            rcases h1 with h1 | ⟨rfl, _⟩
            · exact hno ⟨y, h1, h2, h3⟩
            · rw [hrk.2 h2] at hfk; cases hfk
      · have : j = n := by omega
        subst this
        have e : (rowB j fun z => ∃ y, (y < k ∨ (y = k ∧ z < j)) ∧ P i y ∧ Q y z) = rowB j fun z => ∃ y, y < k + 1 ∧ P i y ∧ Q y z := rowB_congr fun z hz => ⟨fun ⟨y, h, h2⟩ => ⟨y, by omega, h2⟩, fun ⟨y, h, h2⟩ => ⟨y, by omega, h2⟩⟩
        rw [e] at hO4
        exact IN_next (by omega) hk' ⟨hC3.trans hC4, hO4⟩
    · have : k = n := by omega
      subst this
      have hE03 : Ext w1 w3 := hC3.ext0 hE2 hob
      have hz3 := hC3.size
      refine RUN_lit1 (α := Sl) slt_rowsB r rfl (by decide) fun y w8 hE8 hO8 => ?_
      have hz8 := hE8.size_le
      refine RUN_append_rowD slt_rowsB (by decide) (hM.ext (hE03.trans hE8)) (by omega) ((hO3.ext hE8).low hz1) (hM.fresh hO3 (Nat.le_refl _)) hO8 (by simp [matB_len]; omega) (by simp [maxLen, matB_len]; omega) fun s' w9 hM9 hs9 => ?_
      refine IN2_next (by omega) hi' ⟨hs9.ext0 (hE1.trans (hE03.trans hE8)) fun b hb => (hM.own.blk b hb).1, ss ++ [r], ?_⟩
      have hil : i < (matB k (comp2 k P Q)).length := by rw [matB_len]; exact hi'
      rw [List.take_succ_eq_append_getElem hil, matB_get hil]
      exact hM9
  · have : i = n := by omega
    subst this
    rw [List.take_of_length_le (by rw [matB_len]; exact Nat.le_refl _)] at hM
    exact ⟨hE1, hM.repD⟩

end Go.Proofs.YtaeledhbkdakcaaGreatDoor
end

section
/- Walk problems, the reference: powers of the relation, what walks of some length reach. -/
namespace Go.Proofs.YtaeledhbkdakcaaGreatDoor
open Go.GX Go.RowKit
set_option maxRecDepth 100000

theorem rwk_nil {w : World} {x : Int} (hx : I64 x) : RWk w ⟨none, 0, 0⟩ ⟨x, []⟩ := ⟨hx, (RowsD.nil (α := Int) w 0 T.t_int T.t_sl_int).rep (by simp)⟩
theorem wgood_nil {x : Int} (hx : 1 ≤ x ∧ x ≤ 12) : WGood ⟨x, []⟩ := ⟨hx, ⟨by simp, by simp, fun i h => by simp at h⟩⟩

noncomputable def powL (E : Nat → Nat → Prop) (n m : Nat) : List (List (List Bool)) := (List.range m).map fun k => matB n (Wk E k)
theorem powL_len (E : Nat → Nat → Prop) (n m : Nat) : (powL E n m).length = m := by simp [powL]
theorem powL_get {E : Nat → Nat → Prop} {n m k : Nat} (h : k < (powL E n m).length) : (powL E n m)[k] = matB n (Wk E k) := by simp [powL]
theorem powL_snoc (E : Nat → Nat → Prop) (n m : Nat) : powL E n (m + 1) = powL E n m ++ [matB n (Wk E m)] := by
  unfold powL
  rw [List.range_succ, List.map_append, List.map_singleton]

theorem comp2_wk {E : Nat → Nat → Prop} {n k : Nat} (hE : ∀ x y, E x y → x < n ∧ y < n) : matB n (comp2 n (Wk E k) E) = matB n (Wk E (k + 1)) := matB_congr fun _ _ b _ => ⟨fun ⟨y, _, h1, h2⟩ => ⟨y, h1, h2⟩, fun ⟨y, h1, h2⟩ => ⟨y, (hE y b h2).1, h1, h2⟩⟩

theorem waMay_nil {w : World} {x : Int} (h : I64 x) (hx : 1 ≤ x ∧ x ≤ 12) :
    Calls Tryz.prog F.s_waMay #[.agg #[.int .i64 x, .slice none 0 0]] w (Ret [.at .sl] fun (r : Sl) w' => Ext w w' ∧ ∃ ss, OwnB w.heap.size w' r (matB x.toNat fun _ _ => False) ss) := by
  have e : matB x.toNat (arcE ([] : List (List Int))) = matB x.toNat fun _ _ => False := matB_congr fun a _ b _ => by simp [arcE]
  have h0 := waMay_ok (w := w) (s := ⟨none, 0, 0⟩) (p := ⟨x, []⟩) (rwk_nil h) (wgood_nil hx)
  rw [e] at h0
  exact h0

theorem waPowers_ok {w : World} {s : Sl} {p : WPr} {m : Nat} (h : RWk w s p) (hg : WGood p) (hm : m ≤ 1000) :
    Calls Tryz.prog F.s_waPowers #[.agg #[.int .i64 p.labels, s.v], .int .i64 m] w (Ret [.at .sl] fun (r : Sl) w' => Ext w w' ∧ SlR (fun b => w.heap.size ≤ b) w' r (powL (arcE p.arcs) p.labels.toNat (m + 1))) := by
  refine C_s_waPowers ?_
  unfold V_s_waPowers
  refine NEW_intro fun pp w1 hp1 hs1 hE1 hb1 => LD_bi0 hb1 ?_
  have hl := hg.lab
  have hz1 := hE1.size_le
  refine call (waMay_nil h.lab hl) ?_
  rintro r w2 ⟨hE2, ss, hM2⟩
  have hrel : ∀ x y, arcE p.arcs x y → x < p.labels.toNat ∧ y < p.labels.toNat := fun x y hxy => hg.rel hxy
  have hmay := fun {w : World} (h : RWk w s p) => waMay_ok h hg
  generalize arcE p.arcs = E at *
  generalize hnn : p.labels.toNat = n at *
  have hn12 : n ≤ 12 := by omega
  have hM2' : OwnB w1.heap.size w2 r (matB n fun x y => x = y ∧ x < 0) ss := by
    have e : (matB n fun _ _ => False) = matB n fun x y => x = y ∧ x < 0 := matB_congr fun a _ b _ => ⟨fun hh => hh.elim, fun hh => by omega⟩
    rw [e] at hM2
    exact hM2
  have hz2 := hE2.size_le
  have hrl : r.len = n := by have := hM2'.own.1; rw [hM2'.len, matB_len] at this; exact this
  rw [hrl]
  refine ⟨IN n fun i w' => Ext w1 w' ∧ OwnB w1.heap.size w' r (matB n fun x y => x = y ∧ x < i) ss, MN n, IN_zero ⟨hE2, hM2'⟩, ?_⟩
  rintro _ w3 ⟨i, rfl, hi, hE3, hM3⟩
  intros
  refine cond_dec (fun hlt => ?_) (fun hge => ?_)
  · have hi' : i < n := by omega
    have hil : i < (matB n fun x y => x = y ∧ x < i).length := by rw [matB_len]; exact hi'
    refine hM3.ix hil fun q r1 hr1 hO1 hc1 _ => LD_sl hc1 ?_
    rw [matB_get hil] at hO1
    refine IX_own hO1 (i := i) (by rw [rowB_len]; exact hi') rfl fun q3 hq3 => ?_
    refine ST_mat (Q := fun x y => x = y ∧ x < i + 1) (v := true) hM3 hi' hi' hr1 hq3 ⟨fun _ => ⟨rfl, by omega⟩, fun _ => rfl⟩ (fun x hx y hy hne => ⟨fun hh => ⟨hh.1, by omega⟩, fun hh => ⟨hh.1, by
      by_cases he : x = i
      · exact absurd ⟨he, hh.1 ▸ he⟩ hne
      · omega⟩⟩) fun w4 hM4 hs4 => ?_
    exact IN_next (by omega) hi' ⟨hs4.ext0 hE3 fun k hk => (hO1.blk k hk).1, hM4⟩
  · have : i = n := by omega
    subst this
    have hM3' : OwnB w1.heap.size w3 r (matB i (Wk E 0)) ss := by
      have e : (matB i fun x y => x = y ∧ x < i) = matB i (Wk E 0) := matB_congr fun a ha b _ => ⟨fun hh => hh.1, fun hh => ⟨hh, ha⟩⟩
      rw [e] at hM3; exact hM3
    refine RUN_lit1 (α := Sl) slt_matsB r rfl (by decide) fun y w5 hE5 hO5 => ?_
    have hE15 := hE3.trans hE5
    have hz3 := hE3.size_le
    refine LD_is (hb1.ext hE15) ?_
    refine call (hmay (h.ext (hE1.trans hE15))) ?_
    rintro t w6 ⟨hE6, ss6, hM6⟩
    have hE16 := hE15.trans hE6
    have hz5 := hE5.size_le
    have hz6 := hE6.size_le
    have hX6 : RowsX (fun b => b < w1.heap.size) w1.heap.size T.t_sl_sl_bool w6 y (powL E i 1) := by
      refine ⟨[r], (hO5.ext hE6).low hz3, rfl, fun j h1 h2 => ?_⟩
      have hj : j = 0 := by simp at h1; omega
      subst hj
      have e : (powL E i 1)[0] = matB i (Wk E 0) := powL_get h2
      rw [e]
      exact ((hM3'.repD.weak (fun b hb hlt => ⟨fun he => by have := (hO5.blk b he).1; omega, fun hh => by have h3 : w1.heap.size ≤ b := hb; have h4 : b < w1.heap.size := hh; omega⟩) RepP.pos).ext hE5).ext hE6
    have hY : ∀ b, oB y b → w3.heap.size ≤ b ∧ b < w5.heap.size := fun b hb => hO5.blk b hb
    refine ⟨fun (out : Sl) w' => ∃ k : Nat, k ≤ m ∧ Chg w6 w' (fun b => oB y b ∨ w6.heap.size ≤ b) ∧ (∀ b, oB out b → oB y b ∨ w6.heap.size ≤ b) ∧ RowsX (fun b => b < w1.heap.size) w1.heap.size T.t_sl_sl_bool w' out (powL E i (k + 1)), fun out _ => m + 1 - out.len, ⟨0, by omega, Chg.refl _ _, fun b hb => .inl hb, hX6⟩, ?_⟩
    rintro out w7 ⟨k, hk, hC7, hob7, hX7⟩
    intros
    have hlen : out.len = k + 1 := by have := hX7.rep.len; rw [powL_len] at this; exact this
    have hE17 : Ext w1 w7 := hC7.ext0 hE16 fun b hb => by
      rcases hb with hb | hb
      · have := (hY b hb).1; omega
      · omega
    have hz7 := hC7.size
    refine cond_dec (fun hlt => ?_) (fun hge2 => ?_)
    · have hk' : k < m := by rw [hlen] at hlt; omega
      have e1 : IntKind.i64.wrap ((out.len : Int) - 1) = (k : Int) := by rw [hlen, wrap_of (by omega) (by omega)]; omega
      rw [e1]
      have hRt : R w7 t (matB i E) := (hM6.repD.chg hC7 fun b hb hlt hD => by
        have h1 : w5.heap.size ≤ b := hb
        rcases hD with hD | hD
        · have := (hY b hD).2; omega
        · omega).any
      have hkl : k < (powL E i (k + 1)).length := by rw [powL_len]; omega
      refine hX7.rep.ixL hkl fun q mrow hmrow hc => LD_sl hc ?_
      rw [powL_get hkl] at hmrow
      refine call (waTimes_ok hmrow.any hRt hn12) ?_
      rintro u w8 ⟨hE8, hR8⟩
      rw [comp2_wk hrel] at hR8
      refine RUN_lit1 (α := Sl) slt_matsB u rfl (by decide) fun y9 w9 hE9 hO9 => ?_
      have hz8 := hE8.size_le
      have hz9 := hE9.size_le
      have hE79 := hE8.trans hE9
      refine RUN_append_X slt_matsB hX7 (by omega) hE79 ((hR8.weak (fun b hb _ => ⟨fun he => by have h1 := (hX7.blk he).2; have h2 : w7.heap.size ≤ b := hb; omega, fun hh => by have h2 : w7.heap.size ≤ b := hb; have h3 : b < w1.heap.size := hh; omega⟩) RepP.pos).ext hE9) hO9 (by rw [powL_len]; omega) (by rw [powL_len]; unfold maxLen; omega) fun s' w10 hX10 hs10 hN10 => ?_
      rw [← powL_snoc] at hX10
      have hlen' : s'.len = k + 1 + 1 := by have := hX10.rep.len; rw [powL_len] at this; exact this
      refine ⟨⟨k + 1, by omega, (hC7.trans (.of_ext hE79)).trans (.of_step hs10 hob7), fun b hb => ?_, hX10⟩, by simp only [hlen, hlen']; omega⟩
      rcases hN10 with hN | hN
      · exact hob7 b (show out.v.ownBlock = some b from hN ▸ hb)
      · have := hN b hb; exact .inr (by omega)
    · have : k = m := by rw [hlen] at hge2; omega
      subst this
      obtain ⟨ss7, hO7, hl7, hr7⟩ := hX7.ex
      refine ⟨hE1.trans hE17, ?_⟩
      exact OwnL.rows (D := fun b => w.heap.size ≤ b) hO7 hl7 (fun j h1 h2 => (hr7 j h1 h2).weak (fun b hb _ => by have := hb.2; omega) RepP.pos) (fun b hb => by omega)

/-- What is known of walks when some places are done. -/
def rchS (E : Nat → Nat → Prop) (k a b : Nat) (x y : Nat) : Prop := ∃ j, 0 < j ∧ Wk E j x y ∧ (j < k ∨ (j = k ∧ (x < a ∨ (x = a ∧ y < b))))
theorem rchS_row (E : Nat → Nat → Prop) (k a n : Nat) : matB n (rchS E k a n) = matB n (rchS E k (a + 1) 0) := matB_congr fun x hx y hy => by
  unfold rchS
  exact ⟨fun ⟨j, h1, h2, h3⟩ => ⟨j, h1, h2, by omega⟩, fun ⟨j, h1, h2, h3⟩ => ⟨j, h1, h2, by omega⟩⟩
theorem rchS_mat (E : Nat → Nat → Prop) (k n : Nat) : matB n (rchS E k n 0) = matB n (rchS E (k + 1) 0 0) := matB_congr fun x hx y hy => by
  unfold rchS
  exact ⟨fun ⟨j, h1, h2, h3⟩ => ⟨j, h1, h2, by omega⟩, fun ⟨j, h1, h2, h3⟩ => ⟨j, h1, h2, by omega⟩⟩

def reachE (E : Nat → Nat → Prop) (x y : Nat) : Prop := ∃ j, 0 < j ∧ Wk E j x y

theorem waReach_ok {w : World} {s : Sl} {p : WPr} (h : RWk w s p) (hg : WGood p) :
    Calls Tryz.prog F.s_waReach #[.agg #[.int .i64 p.labels, s.v]] w (Ret [.at .sl] fun (r : Sl) w' => Ext w w' ∧ R w' r (matB p.labels.toNat (reachE (arcE p.arcs)))) := by
  refine C_s_waReach ?_
  unfold V_s_waReach
  refine NEW_intro fun pp w1 hp1 hs1 hE1 hb1 => LD_bi0 hb1 ?_
  have hl := hg.lab
  have hz1 := hE1.size_le
  refine call (waMay_nil h.lab hl) ?_
  rintro r w2 ⟨hE2, ss, hM2⟩
  have hE12 := hE1.trans hE2
  have hb2 := hb1.ext hE2
  refine LD_is hb2 (LD_bi0 hb2 ?_)
  have hlabn : p.labels = ((p.labels.toNat : Nat) : Int) := by omega
  have hpow := waPowers_ok (m := p.labels.toNat) (h.ext hE12) hg (by omega)
  rw [← hlabn] at hpow
  refine call hpow ?_
  rintro t w3 ⟨hE3, hR3⟩
  have hrel : ∀ x y, arcE p.arcs x y → y < p.labels.toNat := fun x y hxy => (hg.rel hxy).2
  clear hpow hlabn
  generalize arcE p.arcs = E at *
  generalize hnn : p.labels.toNat = n at *
  have hn12 : n ≤ 12 := by omega
  have hz2 := hE2.size_le
  have hz3 := hE3.size_le
  have hrowb : ∀ (a : Nat) (q : Sl), ss[a]? = some q → ∀ k, q.v.ownBlock = some k → w1.heap.size ≤ k ∧ k < w2.heap.size := fun a q hq k hk => by
    have hal : a < (matB n fun _ _ => False).length := by rw [← hM2.len]; exact (List.getElem?_eq_some_iff.1 hq).1
    exact (hM2.row a q (matB n fun _ _ => False)[a] hq (by simp [hal])).blk k hk
  have hE03 := hE12.trans hE3
  rw [hR3.len, powL_len]
  have e0 : (matB n fun _ _ => False) = matB n (rchS E 0 0 0) := matB_congr fun x _ y _ => ⟨fun hh => hh.elim, fun ⟨j, _, _, h3⟩ => by omega⟩
  rw [e0] at hM2
  refine ⟨IN (n + 1) fun k w' => Chg w3 w' (fun b => w1.heap.size ≤ b ∧ b < w2.heap.size) ∧ OwnB w1.heap.size w' r (matB n (rchS E k 0 0)) ss, MN (n + 1), IN_zero ⟨Chg.refl _ _, hM2.ext hE3⟩, ?_⟩
  rintro _ w4 ⟨k, rfl, hk, hC4, hM4⟩
  intros
  refine cond_dec (fun hlt => ?_) (fun hge => ?_)
  · have hk' : k < n + 1 := by omega
    have hkl : k < (powL E n (n + 1)).length := by rw [powL_len]; exact hk'
    have keepD : ∀ {α : Type} [RepP α] {u : Sl} {l : List α} {wa wb : World}, SlR (fun b => w2.heap.size ≤ b) wa u l → Chg wa wb (fun b => w1.heap.size ≤ b ∧ b < w2.heap.size) → SlR (fun b => w2.heap.size ≤ b) wb u l := fun hR hC => hR.chg hC fun b hb _ hD => by have h1 : w2.heap.size ≤ b := hb; omega
    refine (keepD hR3 hC4).ixL hkl fun q mrow hmrow hc => LD_sl hc ?_
    rw [powL_get hkl] at hmrow
    rw [hmrow.len, matB_len]
    refine ⟨IN n fun a w' => Chg w4 w' (fun b => w1.heap.size ≤ b ∧ b < w2.heap.size) ∧ OwnB w1.heap.size w' r (matB n (rchS E k a 0)) ss, MN n, IN_zero ⟨Chg.refl _ _, hM4⟩, ?_⟩
    rintro _ w5 ⟨a, rfl, ha, hC5, hM5⟩
    intros
    refine cond_dec (fun hlt2 => ?_) (fun hge2 => ?_)
    · have ha' : a < n := by omega
      have hal : a < (matB n (Wk E k)).length := by rw [matB_len]; exact ha'
      refine (keepD hmrow hC5).ixL hal fun q2 row hrow hc2 => LD_sl hc2 ?_
      rw [matB_get hal] at hrow
      rw [hrow.len, rowB_len]
      refine ⟨IN n fun b w' => Chg w5 w' (fun b => w1.heap.size ≤ b ∧ b < w2.heap.size) ∧ OwnB w1.heap.size w' r (matB n (rchS E k a b)) ss, MN n, IN_zero ⟨Chg.refl _ _, hM5⟩, ?_⟩
      rintro _ w6 ⟨b, rfl, hb, hC6, hM6⟩
      intros
      refine cond_dec (fun hlt3 => ?_) (fun hge3 => ?_)
      · have hb' : b < n := by omega
        have hbl : b < (rowB n (Wk E k a)).length := by rw [rowB_len]; exact hb'
        refine (keepD hrow hC6).ixB hbl fun q3 hc3 => LD_bool hc3 ?_
        have hx37 := rowB_get hbl
        generalize (rowB n (Wk E k a))[b] = x37 at hx37
        intro w7 hE7 _
        have hM7 := hM6.ext hE7
        have hal2 : a < (matB n (rchS E k a b)).length := by rw [matB_len]; exact ha'
        have hnD : ∀ {q : Addr}, r.v.ownBlock = some q.block → ¬ ∃ (i : Nat) (u : Sl), ss[i]? = some u ∧ u.v.ownBlock = some q.block := fun hq ⟨i, u, h1, h2⟩ => hM7.block_ne (by decide) h1 h2 hq
        refine ⟨fun c => ∃ (i : Nat) (u : Sl), ss[i]? = some u ∧ u.v.ownBlock = some c, ?_⟩
        refine hM7.ix hal2 fun q4 r1 hr1 hO1 hc4 hq4 => ⟨hnD hq4, LD_sl hc4 ?_⟩
        refine hM7.ix hal2 fun q5 r2 hr2 hO2 hc5 hq5 => ⟨hnD hq5, LD_sl hc5 ⟨Chg.refl _ _, ?_⟩⟩
        rw [hr1] at hr2; cases hr2
        rw [matB_get hal2] at hO1
        have hbl2 : b < (rowB n (rchS E k a b a)).length := by rw [rowB_len]; exact hb'
        refine (hO1.rep fun _ _ => trivial).any.ixB hbl2 fun q6 hc6 => ⟨Chg.refl _ _, LD_bool hc6 ⟨Chg.refl _ _, Chg.refl _ _, ?_⟩⟩
        have hx49 := rowB_get hbl2
        generalize (rowB n (rchS E k a b a))[b] = x49 at hx49
        have hold : rchS E k a b a b ↔ ∃ j, 0 < j ∧ Wk E j a b ∧ j < k := ⟨fun ⟨j, h1, h2, h3⟩ => ⟨j, h1, h2, by omega⟩, fun ⟨j, h1, h2, h3⟩ => ⟨j, h1, h2, .inl h3⟩⟩
        have hnew : rchS E k a (b + 1) a b ↔ ∃ j, 0 < j ∧ Wk E j a b ∧ j ≤ k := ⟨fun ⟨j, h1, h2, h3⟩ => ⟨j, h1, h2, by omega⟩, fun ⟨j, h1, h2, h3⟩ => ⟨j, h1, h2, by omega⟩⟩
        have fin : ∀ {v : Bool} {q7 : Addr}, Plc r1 b 1 q7 → (v = true ↔ rchS E k a (b + 1) a b) → GX.ST q7 0 [.bool v] w7 fun w8 => Chg w7 w8 (fun c => ∃ (i : Nat) (u : Sl), ss[i]? = some u ∧ u.v.ownBlock = some c) ∧ IN n (fun b w' => Chg w5 w' (fun b => w1.heap.size ≤ b ∧ b < w2.heap.size) ∧ OwnB w1.heap.size w' r (matB n (rchS E k a b)) ss) (IntKind.i64.wrap ((b : Int) + 1)) w8 ∧ MN n (IntKind.i64.wrap ((b : Int) + 1)) w8 < MN n (b : Int) w6 := fun {v q7} hq7 hv => by
          refine ST_mat (Q := rchS E k a (b + 1)) hM7 ha' hb' hr1 hq7 hv (fun x hx y hy hne => ?_) fun w8 hM8 hs8 => ?_
          · unfold rchS
            exact ⟨fun ⟨j, h1, h2, h3⟩ => ⟨j, h1, h2, by omega⟩, fun ⟨j, h1, h2, h3⟩ => ⟨j, h1, h2, by
              by_cases he : x = a
              · have : y ≠ b := fun hy => hne ⟨he, hy⟩
                omega
              · omega⟩⟩
          · have hC8 : Chg w7 w8 (fun b => w1.heap.size ≤ b ∧ b < w2.heap.size) := .of_step hs8 fun k hk => hrowb a r1 hr1 k hk
            exact ⟨.of_step hs8 fun k hk => ⟨a, r1, hr1, hk⟩, IN_next (by omega) hb' ⟨(hC6.trans (.of_ext hE7)).trans hC8, hM8⟩⟩
        have cr := fun D => Chg.refl w7 D
        refine cond_b (fun ht => ⟨cr _, IX_own hO1 hbl2 rfl fun q7 hq7 => ⟨cr _, fin hq7 ⟨fun _ => ?_, fun _ => rfl⟩⟩⟩) (fun hf => ⟨cr _, cr _, ?_⟩)
        · obtain ⟨j, h1, h2, h3⟩ := hold.1 (hx49.1 ht)
          exact hnew.2 ⟨j, h1, h2, by omega⟩
        · have hno : ¬ ∃ j, 0 < j ∧ Wk E j a b ∧ j < k := fun hh => by rw [hx49.2 (hold.2 hh)] at hf; cases hf
          refine cond_b (fun ht2 => ⟨cr _, cr _, cr _, cr _, IX_own hO1 hbl2 rfl fun q7 hq7 => ⟨cr _, fin hq7 ?_⟩⟩) (fun hf2 => ⟨cr _, cr _, IX_own hO1 hbl2 rfl fun q7 hq7 => ⟨cr _, fin hq7 ⟨(fun hh => by cases hh), fun hh => ?_⟩⟩⟩)
          · rw [hnew, decide_eq_true_eq]
            constructor
            · intro hk0
              exact ⟨k, by omega, hx37.1 ht2, by omega⟩
            · rintro ⟨j, h1, h2, h3⟩
              omega
          · obtain ⟨j, h1, h2, h3⟩ := hnew.1 hh
            by_cases hjk : j = k
            · subst hjk
              rw [hx37.2 h2] at hf2; cases hf2
            · exact absurd ⟨j, h1, h2, by omega⟩ hno
      · have : b = n := by omega
        subst this
        rw [rchS_row] at hM6
        exact IN_next (by omega) ha' ⟨hC5.trans hC6, hM6⟩
    · have : a = n := by omega
      subst this
      rw [rchS_mat] at hM5
      exact IN_next (by omega) hk' ⟨hC4.trans hC5, hM5⟩
  · have : k = n + 1 := by omega
    subst this
    refine ⟨hC4.ext0 hE03 fun b hb => by have := hb.1; omega, ?_⟩
    have e1 : matB n (rchS E (n + 1) 0 0) = matB n (reachE E) := matB_congr fun x _ y _ => ⟨fun ⟨j, h1, h2, _⟩ => ⟨j, h1, h2⟩, fun ⟨j, h1, h2⟩ => by
      obtain ⟨j', h3, h4, h5⟩ := h2.short hrel h1
      exact ⟨j', h3, h5, by omega⟩⟩
    rw [e1] at hM4
    exact hM4.repD.any

end Go.Proofs.YtaeledhbkdakcaaGreatDoor
end

section
/- Arguments that are small structs, read as data. No program is named here. -/
namespace Go.GX
open Go.RowKit Go.WideShapes Go.ChangeShapes Go.ChangeAt Go.Deep

/-- An argument that is a struct of a number and a slice. -/
theorem open_is {P : Program} {t u0 u1 : TypeId} {α : Type} [RepP α] (hf : fieldsB P t [u0, u1] = true) (h0 : Reads P u0 Int) (h1 : Reads P u1 (List α))
    {H : Type} {enc : TypeId × Value → H} {w : World} {base b0 : Nat} {spare : Nat → Bool} {held : Bool} {r} {v : Value} {d : DataW H} {p : List MemPlace}
    (hv : Value.okWide P w r b0 t v) (h : DataW.Trod enc P w base spare held t v d p) : ∃ (a : Int) (c : Sl) (y : List α), v = .agg #[.int .i64 a, c.v] ∧ I64 a ∧ R w c y := by
  obtain ⟨fs, hu, _⟩ := fieldsB_struct hf
  obtain ⟨cs, rfl, _⟩ := okWide_struct hu hv
  obtain ⟨fuel, hx⟩ := h
  obtain ⟨hl, hx⟩ := trod_fields hf hx
  obtain ⟨v0, n0, y0, hv0, ht0⟩ := hx 0 u0 rfl
  obtain ⟨v1, n1, y1, hv1, ht1⟩ := hx 1 u1 rfl
  obtain ⟨a, ha, hA⟩ := h0 ht0
  obtain ⟨y, c, hc, hC⟩ := h1 ht1
  simp only [List.cons.injEq, and_true] at ha hc
  subst ha; subst hc
  refine ⟨a, c, y, ?_, hA, hC⟩
  congr 1
  apply Array.ext'
  apply List.ext_getElem?
  intro i
  match i with
  | 0 => simpa [Value.cells] using hv0
  | 1 => simpa [Value.cells] using hv1
  | i + 2 => simp [Value.cells] at hl; simp [hl]

end Go.GX
end

section
/- Walk problems as arguments: valid ones, both sides; read, counted, copied, held against each other. -/
namespace Go.Proofs.YtaeledhbkdakcaaGreatDoor
open Go.GX Go.RowKit
set_option maxRecDepth 100000

theorem waHasLabels_ok {w : World} {s t : Sl} {x : Int} {l : List Int} (hp : 1 ≤ x ∧ x ≤ 12) (hl : R w t l) :
    Calls Tryz.prog F.i_WalkProblem_hasLabels #[.agg #[.int .i64 x, s.v], t.v] w (Ret [.at .bool] fun (b : Bool) w' => (b = true ↔ AllIn l 0 (x - 1)) ∧ Ext w w') := by
  refine C_i_WalkProblem_hasLabels ?_
  unfold V_i_WalkProblem_hasLabels
  refine NEW_intro fun pp w1 hp1 hs1 hE1 hb1 => LD_bi0 hb1 ?_
  rw [wrap_of (n := x - 1) (by omega) (by omega)]
  refine call (allWithin_ok (hl.ext hE1) _ _) ?_
  rintro b w2 ⟨h1, hE2⟩
  exact ⟨h1, hE1.trans hE2⟩

def ArcGood (x : Int) (r : List Int) : Prop := (r.length : Int) = 2 ∧ AllIn r 0 (x - 1)
theorem RowsUp.of {L : List (List Int)} {x : Int} (h3 : ∀ u (hu : u < L.length), ArcGood x L[u]) (h4 : ∀ u (hu : u + 1 < L.length), cmpL L[u] L[u + 1] < 0) : RowsUp L 2 x :=
  have key : ∀ r ∈ L, ArcGood x r := fun r hr => by
    obtain ⟨u, hu, rfl⟩ := List.mem_iff_getElem.1 hr
    exact h3 u hu
  ⟨fun r hr => (key r hr).1, fun r hr => (key r hr).2, h4⟩
theorem RowsUp.at {L : List (List Int)} {x : Int} (h : RowsUp L 2 x) {u : Nat} (hu : u < L.length) : ArcGood x L[u] := ⟨h.len _ (List.getElem_mem hu), h.lab _ (List.getElem_mem hu)⟩

theorem IsWalkProblem_ok {w : World} {s : Sl} {p : WPr} (h : RWk w s p) :
    Calls Tryz.prog F.i_IsWalkProblem #[.agg #[.int .i64 p.labels, s.v]] w (Ret [.at .bool] fun (b : Bool) w' => (b = true ↔ WGood p) ∧ Ext w w') := by
  refine C_i_IsWalkProblem ?_
  unfold V_i_IsWalkProblem
  refine NEW_intro fun pp w1 hp1 hs1 hE1 hb1 => LD_bi0 hb1 ?_
  have no : ∀ {w' : World}, Ext w w' → ¬ WGood p → ((false = true ↔ WGood p) ∧ Ext w w') := fun hE hn => ⟨⟨(fun h => by cases h), (fun h => absurd h hn)⟩, hE⟩
  refine call (within_ok _ _ _ _) ?_
  rintro _ _ ⟨rfl, rfl⟩
  refine cond_not (fun hf => no hE1 fun hg => ?_) (fun ht => LD_bs1 hb1 ?_)
  · have := hg.lab
    simp only [inR, Bool.and_eq_false_iff, decide_eq_false_iff_not] at hf
    omega
  have hl : 1 ≤ p.labels ∧ p.labels ≤ 12 := by simpa [inR] using ht
  have hle := h.arcs.le
  rw [h.arcs.len]
  refine ⟨IN p.arcs.length fun i w' => Ext w1 w' ∧ (∀ u < i, ∀ (hu : u < p.arcs.length), ArcGood p.labels p.arcs[u]) ∧ ∀ u, u + 1 < i → ∀ (hu : u + 1 < p.arcs.length), cmpL p.arcs[u] p.arcs[u + 1] < 0, MN p.arcs.length, IN_zero ⟨Ext.refl _, fun u hu => absurd hu (by omega), fun u hu => absurd hu (by omega)⟩, ?_⟩
  rintro _ w5 ⟨i, rfl, hi, hE5, h1, h2⟩
  intros
  have hE05 := hE1.trans hE5
  have hb5 := hb1.ext hE5
  refine cond_dec (fun hlt => ?_) (fun hge => ?_)
  rotate_left
  · have : i = p.arcs.length := by omega
    subst this
    exact ⟨by simp only [true_iff]; exact ⟨hl, RowsUp.of (fun u hu => h1 u hu hu) fun u hu => h2 u hu hu⟩, hE05⟩
  have hi' : i < p.arcs.length := by omega
  refine (h.arcs.ext hE05).ixL hi' fun q s1 hR1 hcq => LD_sl hcq ?_
  rw [hR1.len]
  refine cond_ne (fun hne => no hE05 fun hg => hne (hg.up.at hi').1) (fun heq => LD_is hb5 ?_)
  have hlen : (p.arcs[i].length : Int) = 2 := heq
  refine call (waHasLabels_ok hl hR1.any) ?_
  rintro y w6 ⟨hy, hE6⟩
  have hE06 := hE05.trans hE6
  refine cond_not (fun hf => no hE06 fun hg => by rw [hy.2 (hg.up.at hi').2] at hf; cases hf) (fun ht3 => ?_)
  have hrow : ArcGood p.labels p.arcs[i] := ⟨hlen, hy.1 ht3⟩
  have hE57 := hE5.trans hE6
  refine cond_dec (fun hpos => ?_) (fun hnp => IN_next hle hi' ⟨hE57, all_succ h1 fun _ => hrow, fun u hu => absurd hu (by omega)⟩)
  refine LD_bs1 (hb5.ext hE6) ?_
  obtain ⟨j, rfl⟩ : ∃ j, i = j + 1 := ⟨i - 1, by omega⟩
  rw [show ((j + 1 : Nat) : Int) - 1 = (j : Int) by omega, wrap_of (n := (j : Int)) (by omega) (by omega)]
  refine (h.arcs.ext hE06).ixL (i := j) (by omega) fun q s2 hR2 hc2 => LD_sl hc2 ?_
  refine call (compare_ok hR2.any (hR1.any.ext hE6)) ?_
  rintro _ _ ⟨rfl, rfl⟩
  refine cond_dec (fun hge => no hE06 fun hg => by have := hg.up.up j hi'; omega) (fun hlt2 => ?_)
  refine IN_next hle hi' ⟨hE57, all_succ h1 fun _ => hrow, fun u hu hu2 => ?_⟩
  by_cases he : u = j
  · subst he; omega
  · exact h2 u (by omega) hu2

theorem waArcs_ok {w : World} {s : Sl} {L : List (List Int)} {x : Int} (h : R w s L) (hl : 1 ≤ x ∧ x ≤ 12) :
    Calls Tryz.prog F.s_waArcs #[s.v, .int .i64 x] w (Ret [.at .bool] fun (b : Bool) w' => (b = true ↔ RowsUp L 2 x) ∧ Ext w w') := by
  refine C_s_waArcs ?_
  unfold V_s_waArcs
  have no : ∀ {w' : World}, Ext w w' → ¬ RowsUp L 2 x → ((false = true ↔ RowsUp L 2 x) ∧ Ext w w') := fun hE hn => ⟨⟨(fun h => by cases h), (fun h => absurd h hn)⟩, hE⟩
  have hle := h.le
  rw [h.len]
  refine ⟨IN L.length fun i w' => Ext w w' ∧ (∀ u < i, ∀ (hu : u < L.length), ArcGood x L[u]) ∧ ∀ u, u + 1 < i → ∀ (hu : u + 1 < L.length), cmpL L[u] L[u + 1] < 0, MN L.length, IN_zero ⟨Ext.refl _, fun u hu => absurd hu (by omega), fun u hu => absurd hu (by omega)⟩, ?_⟩
  rintro _ w5 ⟨i, rfl, hi, hE5, h1, h2⟩
  intros
  refine cond_dec (fun hlt => ?_) (fun hge => ?_)
  rotate_left
  · have : i = L.length := by omega
    subst this
    exact ⟨by simp only [true_iff]; exact RowsUp.of (fun u hu => h1 u hu hu) fun u hu => h2 u hu hu, hE5⟩
  have hi' : i < L.length := by omega
  refine (h.ext hE5).ixL hi' fun q s1 hR1 hcq => LD_sl hcq ?_
  rw [hR1.len, wrap_of (n := x - 1) (by omega) (by omega)]
  refine cond_ne (fun hne => no hE5 fun hg => hne (hg.at hi').1) (fun heq => ?_)
  have hlen : (L[i].length : Int) = 2 := heq
  refine call (l1All_ok hR1.any 0 (x - 1)) ?_
  rintro y _ ⟨hy, rfl⟩
  refine cond_not (fun hf => no hE5 fun hg => by rw [hy.2 (hg.at hi').2] at hf; cases hf) (fun ht3 => ?_)
  have hrow : ArcGood x L[i] := ⟨hlen, hy.1 ht3⟩
  refine cond_dec (fun hpos => ?_) (fun hnp => IN_next hle hi' ⟨hE5, all_succ h1 fun _ => hrow, fun u hu => absurd hu (by omega)⟩)
  obtain ⟨j, rfl⟩ : ∃ j, i = j + 1 := ⟨i - 1, by omega⟩
  rw [show ((j + 1 : Nat) : Int) - 1 = (j : Int) by omega, wrap_of (n := (j : Int)) (by omega) (by omega)]
  have hjr := h1 j (by omega) (by omega)
  refine (h.ext hE5).ixL (i := j) (by omega) fun q s2 hR2 hc2 => LD_sl hc2 ?_
  refine call (prOrder_ok (c := x - 1) hR2.any hR1.any (by have := hjr.1; omega) (by omega) hjr.2 hrow.2) ?_
  rintro _ _ ⟨rfl, rfl⟩
  refine cond_dec (fun hge => no hE5 fun hg => by have := hg.up j hi'; omega) (fun hlt2 => ?_)
  refine IN_next hle hi' ⟨hE5, all_succ h1 fun _ => hrow, fun u hu hu2 => ?_⟩
  by_cases he : u = j
  · subst he; omega
  · exact h2 u (by omega) hu2

theorem waGood_ok {w : World} {s : Sl} {p : WPr} (h : RWk w s p) :
    Calls Tryz.prog F.s_waGood #[.agg #[.int .i64 p.labels, s.v]] w (Ret [.at .bool] fun (b : Bool) w' => (b = true ↔ WGood p) ∧ Ext w w') := by
  refine C_s_waGood ?_
  unfold V_s_waGood
  refine NEW_intro fun pp w1 hp1 hs1 hE1 hb1 => LD_bi0 hb1 ?_
  refine call (l1In_ok _ _ _ _) ?_
  rintro _ _ ⟨rfl, rfl⟩
  refine cond_b (fun ht => LD_bs1 hb1 (LD_bi0 hb1 ?_)) (fun hf => ⟨⟨(fun h => by cases h), (fun hg => ?_)⟩, hE1⟩)
  · have hl : 1 ≤ p.labels ∧ p.labels ≤ 12 := by simpa [inR] using ht
    refine call (waArcs_ok (h.arcs.ext hE1) hl) ?_
    rintro b w2 ⟨hb, hE2⟩
    exact ⟨hb.trans ⟨fun hh => ⟨hl, hh⟩, fun hh => hh.up⟩, hE1.trans hE2⟩
  · have := hg.lab
    simp only [inR, Bool.and_eq_false_iff, decide_eq_false_iff_not] at hf
    omega

/-! ### Arguments -/

theorem szWalk_ok {w : World} {s : Sl} {p : WPr} (h : RWk w s p) (left : Int) (h0 : 0 ≤ left) (h1 : left ≤ 1048576) :
    Calls Tryz.prog F.l_szWalkProblem #[.agg #[.int .i64 p.labels, s.v], .int .i64 left] w (Ret [.at (.int .i64)] fun (x : Int) w' => (0 ≤ x → SmallM p.arcs) ∧ Ext w w') := by
  refine C_l_szWalkProblem ?_
  unfold V_l_szWalkProblem
  refine NEW_intro fun pa w1 hp hs hE hb => LD_bs1 hb ?_
  refine call (szIntSS_ok (h.arcs.ext hE) left h0 h1) ?_
  rintro x _ ⟨hx, rfl⟩
  refine cond_dec (fun hn => ⟨fun h => by omega, hE⟩) (fun hnn => ⟨fun _ => ?_, hE⟩)
  obtain ⟨a1, a2, a3⟩ := hx (by omega)
  exact ⟨by omega, fun r hr => by have := a3 r hr; omega⟩

theorem ST_boxW {w w0 : World} {p : Addr} {t : TypeId} {cs : List Value} {i : Nat} {v : Value} {K : World → Prop} (h : Box w p t cs) (hi : i < cs.length) (h1 : v.oneCell' = true) (hE : Ext w0 w) (hp : w0.heap.size ≤ p.block)
    (hk : ∀ w', Chg w w' (fun c => c = p.block) → Ext w0 w' → Box w' p t (cs.set i v) → K w') : GX.ST (p.add i) 0 [v] w K :=
  ST_box1 h hi h1 fun w' hz hb hX hB => by
    have hE' := hX w0 hE hp
    exact hk w' ⟨hE'.os.trans hE.os.symm, hE'.tape.trans hE.tape.symm, hE'.output.trans hE.output.symm, by omega, fun k _ hn => hb k hn⟩ hE' hB

theorem toWalk_ok {w : World} {s : Sl} {p : WPr} (h : RWk w s p) (hs : SmallM p.arcs) :
    Calls Tryz.prog F.l_toWalkProblem #[.agg #[.int .i64 p.labels, s.v]] w (Ret [.agg [.int .i64, .sl]] fun (x : Int) (z : Sl) w' => x = p.labels ∧ Ext w w' ∧ RWk w' z p) := by
  refine C_l_toWalkProblem ?_
  unfold V_l_toWalkProblem
  refine NEW_intro fun pa w1 hp1 hs1 hE1 hb1 => NEW_intro fun px w2 hp2 hs2 hE2 hb2 => NEW_intro fun po w3 hp3 hs3 hE3 hb3 => ?_
  have hE23 := hE2.trans hE3
  have hE03 := hE1.trans hE23
  have hz1 := hE1.size_le
  have hz2 := hE2.size_le
  have hz3 := hE3.size_le
  have ha3 := hb1.ext hE23
  have hx3 := hb2.ext hE3
  have hlt1 := hb1.lt
  have hlt2 := hb2.lt
  have hlt3 := hb3.lt
  have hml := hs.1
  refine LD_bi0 ha3 ?_
  refine ST_boxW hb3 (by simp) rfl hE03 (by omega) fun w4 hC4 hE04 hb4 => LD_bs1 (ha3.chg hC4 (by omega)) ?_
  have hz4 := hC4.size
  refine call (toIntSS_own (h.arcs.ext hE04) (by omega) (fun r hr => by have := hs.2 r hr; omega)) ?_
  rintro z w5 ⟨hE5, hO5⟩
  have hz5 := hE5.size_le
  have hE05 := hE04.trans hE5
  refine ST_boxW (hb4.ext hE5) (by simp) rfl hE05 (by omega) fun w6 hC6 hE06 hb6 => LD_is hb6 ?_
  have hz6 := hC6.size
  have hx6 := ((hx3.chg hC4 (by omega)).ext hE5).chg hC6 (by omega)
  refine ST_all hx6 (one2 p.labels z) rfl fun w7 hs7 hz7 hb7 => LD_is hb7 ?_
  have hO7 : Own2 w7 w.heap.size T.t_int T.t_sl_int z p.arcs := by
    obtain ⟨ss, k1, k2, k3⟩ := hO5
    have keepB : ∀ k, w4.heap.size ≤ k → k < w5.heap.size → w7.heap[k]? = w5.heap[k]? := fun k h1 h2 => by
      rw [hs7.block k (by omega) (by intro he; cases he; omega), hC6.block k h2 (by omega)]
    exact ⟨ss, (k1.keep fun k hk => keepB k (k1.blk k hk).1 (k1.blk k hk).2).low (by omega), k2, fun i r l hr hl => ((k3 i r l hr hl).keep fun k hk => keepB k ((k3 i r l hr hl).blk k hk).1 ((k3 i r l hr hl).blk k hk).2).low (by omega)⟩
  exact ⟨rfl, hs7.ext0 hE06 fun k hk => by cases hk; omega, ⟨h.lab, hO7.rep (flat_okII h.arcs)⟩⟩

theorem eqWalk_ok {w : World} {s t : Sl} {p : WPr} (h : RWk w s p) (h' : RWk w t p) :
    Calls Tryz.prog F.l_eqWalkProblem #[.agg #[.int .i64 p.labels, s.v], .agg #[.int .i64 p.labels, t.v]] w (Ret [.at .bool] fun (x : Bool) w' => x = true ∧ Ext w w') := by
  refine C_l_eqWalkProblem ?_
  unfold V_l_eqWalkProblem
  refine NEW_intro fun pa w1 hp1 hs1 hE1 hb1 => NEW_intro fun pb w2 hp2 hs2 hE2 hb2 => ?_
  have ha := hb1.ext hE2
  have hE := hE1.trans hE2
  refine LD_bi0 ha (LD_bi0 hb2 (cond_ne (fun h => absurd rfl h) (fun _ => LD_bs1 ha (LD_bs1 hb2 ?_))))
  refine call (eqIntSS_ok (h.arcs.ext hE) (h'.arcs.ext hE)) ?_
  rintro _ w3 ⟨rfl, hE3⟩
  exact cond_f (by simp) ⟨rfl, hE.trans hE3⟩

variable {H : Type} {enc : TypeId × Value → H} {w : World} {base b0 : Nat} {spare : Nat → Bool} {held : Bool} {v : Value} {d : DataW H} {p : List MemPlace}

theorem open_K {r} (hv : Value.okWide Tryz.prog w r b0 T.t_l_WalkProblem v) (h : DataW.Trod enc Tryz.prog w base spare held T.t_l_WalkProblem v d p) : ∃ (c : Sl) (q : WPr), v = .agg #[.int .i64 q.labels, c.v] ∧ RWk w c q := by
  obtain ⟨a, c, y, rfl, h0, h2⟩ := open_is (u0 := T.t_int) (u1 := T.t_sl_sl_int) (by kernel_rfl) reads_int reads_intss hv h
  exact ⟨c, ⟨a, y⟩, rfl, h0, h2⟩

end Go.Proofs.YtaeledhbkdakcaaGreatDoor
end

section
/- Gaps of marks and first walks of a length, both sides. -/
namespace Go.Proofs.YtaeledhbkdakcaaGreatDoor
open Go.GX Go.RowKit
set_option maxRecDepth 100000

theorem gapsOf_ok {w : World} {s : Sl} {k : Nat} {m : List Int} (h : R w s m) (hm : MarksOk k m) (hk : k ≤ 1000) :
    Calls Tryz.prog F.i_gapsOf #[.int .i64 (k : Int), s.v] w (Ret [.at .sl] fun (r : Sl) w' => Ext w w' ∧ OwnL w' w.heap.size T.t_int r (gapsL k m)) := by
  refine C_i_gapsOf ?_
  unfold V_i_gapsOf
  rw [h.len]
  have hml := hm.len
  have h0 := hm.ne
  unfold gapsL
  refine ⟨IN2 m.length fun i (out : Sl) w' => Ext w w' ∧ OwnL w' w.heap.size T.t_int out (mk0 i fun i => (gapN k m i : Int)), MN2 m.length, IN2_zero ⟨Ext.refl _, OwnL.nil _ _ _⟩, ?_⟩
  rintro out _ w1 ⟨i, rfl, hi, hE1, hO1⟩
  intros
  refine cond_dec (fun hlt => ?_) (fun hge => ?_)
  rotate_left
  · have : i = m.length := by omega
    subst this
    exact ⟨hE1, hO1⟩
  have hi' : i < m.length := by omega
  obtain ⟨hg, hg1, hgk⟩ := hm.gap hi'
  have b1 := hm.lab _ (at0_mem hi')
  have b0 := hm.lab _ (at0_mem h0)
  have hR1 : R w1 s m := h.ext hE1
  refine hR1.ixI hi' fun q _ hc => LD_int hc ?_
  rw [← at0_get hi', wrap_of (n := (i : Int) + 1) (by omega) (by omega)]
  have fin : ∀ {x : Int}, x = (gapN k m i : Int) → RUN Tryz.prog (.at .sl) (Instr.buildSlice T.t_sl_int 1 #[(0, .int .i64 (IntKind.i64.wrap x))]) w1 fun y w2 => RUN Tryz.prog (.at .sl) (bsem .append #[T.t_sl_int, T.t_sl_int] T.t_sl_int #[out.v, y.v]) w2 fun r w3 =>
      IN2 m.length (fun i (out : Sl) w' => Ext w w' ∧ OwnL w' w.heap.size T.t_int out (mk0 i fun i => (gapN k m i : Int))) r ((i : Int) + 1) w3 ∧ MN2 m.length r ((i : Int) + 1) w3 < MN2 m.length out (i : Int) w1 := fun {x} hx => by
    rw [hx, wrap_of (by omega) (by omega)]
    refine pushI hO1 hE1 (by unfold I64; omega) (by rw [mk0_len]; omega) fun r2 w3 hE3 hO3 => ?_
    rw [← mk0_snoc (f := fun i => (gapN k m i : Int))] at hO3
    have := IN2_next (I := fun i (out : Sl) w' => Ext w w' ∧ OwnL w' w.heap.size T.t_int out (mk0 i fun i => (gapN k m i : Int))) (a := r2) (a' := out) (w' := w1) (by omega) hi' ⟨hE3, hO3⟩
    rw [wrap_of (by omega) (by omega)] at this
    exact this
  refine hR1.ixI h0 fun q0 _ hc0 => LD_int hc0 ?_
  refine cond_dec (fun h2 => ?_) (fun h2 => ?_)
  · have hi2 : i + 1 < m.length := by omega
    rw [if_pos hi2] at hg
    have b2 := hm.lab _ (at0_mem hi2)
    have e1 : ((i : Int) + 1) = ((i + 1 : Nat) : Int) := by omega
    rw [e1]
    refine hR1.ixI hi2 fun q2 _ hc2 => LD_int hc2 ?_
    rw [← at0_get hi2, ← e1]
    exact fin (by omega)
  · rw [if_neg (by omega)] at hg
    skip
    rw [← at0_get h0, wrap_of (n := ((k : Int) + at0 m 0)) (by omega) (by omega)]
    exact fin (by omega)


theorem cyGaps_ok {w : World} {s : Sl} {k : Nat} {m : List Int} (h : R w s m) (hm : MarksOk k m) (hk : k ≤ 1000) :
    Calls Tryz.prog F.s_cyGaps #[.int .i64 (k : Int), s.v] w (Ret [.at .sl] fun (r : Sl) w' => Ext w w' ∧ OwnL w' w.heap.size T.t_int r (gapsL k m)) := by
  refine C_s_cyGaps ?_
  unfold V_s_cyGaps
  rw [h.len]
  have hml := hm.len
  have h0 := hm.ne
  unfold gapsL
  refine ⟨IN2 m.length fun i (out : Sl) w' => Ext w w' ∧ OwnL w' w.heap.size T.t_int out (mk0 i fun i => (gapN k m i : Int)), MN2 m.length, IN2_zero ⟨Ext.refl _, OwnL.nil _ _ _⟩, ?_⟩
  rintro out _ w1 ⟨i, rfl, hi, hE1, hO1⟩
  intros
  refine cond_dec (fun hlt => ?_) (fun hge => ?_)
  rotate_left
  · have : i = m.length := by omega
    subst this
    exact ⟨hE1, hO1⟩
  have hi' : i < m.length := by omega
  obtain ⟨hg, hg1, hgk⟩ := hm.gap hi'
  have b1 := hm.lab _ (at0_mem hi')
  have b0 := hm.lab _ (at0_mem h0)
  have hR1 : R w1 s m := h.ext hE1
  refine hR1.ixI hi' fun q _ hc => LD_int hc ?_
  rw [← at0_get hi', wrap_of (n := (i : Int) + 1) (by omega) (by omega)]
  have fin : ∀ {x : Int}, x = (gapN k m i : Int) → RUN Tryz.prog (.at .sl) (Instr.buildSlice T.t_sl_int 1 #[(0, .int .i64 (IntKind.i64.wrap x))]) w1 fun y w2 => RUN Tryz.prog (.at .sl) (bsem .append #[T.t_sl_int, T.t_sl_int] T.t_sl_int #[out.v, y.v]) w2 fun r w3 =>
      IN2 m.length (fun i (out : Sl) w' => Ext w w' ∧ OwnL w' w.heap.size T.t_int out (mk0 i fun i => (gapN k m i : Int))) r ((i : Int) + 1) w3 ∧ MN2 m.length r ((i : Int) + 1) w3 < MN2 m.length out (i : Int) w1 := fun {x} hx => by
    rw [hx, wrap_of (by omega) (by omega)]
    refine pushI hO1 hE1 (by unfold I64; omega) (by rw [mk0_len]; omega) fun r2 w3 hE3 hO3 => ?_
    rw [← mk0_snoc (f := fun i => (gapN k m i : Int))] at hO3
    have := IN2_next (I := fun i (out : Sl) w' => Ext w w' ∧ OwnL w' w.heap.size T.t_int out (mk0 i fun i => (gapN k m i : Int))) (a := r2) (a' := out) (w' := w1) (by omega) hi' ⟨hE3, hO3⟩
    rw [wrap_of (by omega) (by omega)] at this
    exact this
  skip
  refine cond_dec (fun h2 => ?_) (fun h2 => ?_)
  · have hi2 : i + 1 < m.length := by omega
    rw [if_pos hi2] at hg
    have b2 := hm.lab _ (at0_mem hi2)
    have e1 : ((i : Int) + 1) = ((i + 1 : Nat) : Int) := by omega
    rw [e1]
    refine hR1.ixI hi2 fun q2 _ hc2 => LD_int hc2 ?_
    rw [← at0_get hi2, ← e1]
    exact fin (by omega)
  · rw [if_neg (by omega)] at hg
    refine hR1.ixI h0 fun q0 _ hc0 => LD_int hc0 ?_
    rw [← at0_get h0, wrap_of (n := (at0 m 0 + (k : Int))) (by omega) (by omega)]
    exact fin (by omega)


/-! ### Walks -/

def wlk (q : List Nat) : List Int := q.map fun (x : Nat) => (x : Int)
theorem wlk_len (q : List Nat) : (wlk q).length = q.length := by simp [wlk]
theorem wlk_get {q : List Nat} {i : Nat} (h : i < (wlk q).length) : (wlk q)[i] = ((q.getD i 0 : Nat) : Int) := by
  have h' : i < q.length := by rw [wlk_len] at h; exact h
  rw [List.getD_eq_getElem?_getD, List.getElem?_eq_getElem h']
  simp [wlk]
theorem wlk_snoc (q : List Nat) (c : Nat) : wlk (q ++ [c]) = wlk q ++ [(c : Int)] := by simp [wlk]
section
variable {E : Nat → Nat → Prop} {a b k j n : Nat} {q : List Nat}
theorem BetP.lab (h : BetP E a b k j q) (hE : ∀ x y, E x y → x < n ∧ y < n) (ha : a < n) : ∀ i, i ≤ j → q.getD i 0 < n
  | 0, _ => by rw [h.fst]; exact ha
  | i + 1, hi => (hE _ _ (h.nx i (by omega)).1.1).2
theorem BetP.i64 (h : BetP E a b k j q) (hE : ∀ x y, E x y → x < n ∧ y < n) (ha : a < n) (hn : n ≤ 12) : ∀ x ∈ wlk q, I64 x := fun x hx => by
  obtain ⟨i, hi, rfl⟩ := List.getElem_of_mem hx
  rw [wlk_get]
  rw [wlk_len, h.len] at hi
  have := h.lab hE ha i (by omega)
  unfold I64; omega
end

def flipA (A : List (List Int)) : List (List Int) := A.map List.reverse
theorem arcE_flip {A : List (List Int)} {x y : Nat} : arcE (flipA A) x y ↔ arcE A y x := by
  unfold arcE flipA
  rw [List.mem_map]
  constructor
  · rintro ⟨r, hr, he⟩
    have : r = [(y : Int), (x : Int)] := by
      have := congrArg List.reverse he
      rw [List.reverse_reverse] at this
      rw [this]; rfl
    rw [← this]; exact hr
  · intro h
    exact ⟨_, h, rfl⟩
theorem wk_flip {A : List (List Int)} {b : Nat} : ∀ {k x : Nat}, Wk (arcE (flipA A)) k b x ↔ Wk (arcE A) k x b
  | 0, x => ⟨fun h => (show x = b from (show b = x from h).symm), fun h => (show b = x from (show x = b from h).symm)⟩
  | k + 1, x => by
    constructor
    · rintro ⟨c, h1, h2⟩
      exact Wk.cons (arcE_flip.1 h2) (wk_flip.1 h1)
    · intro h
      obtain ⟨c, h1, h2⟩ := h.uncons
      exact ⟨c, wk_flip.2 h2, arcE_flip.2 h1⟩

theorem labs_head {n : Nat} (hn : n ≤ 12) {P : Nat → Prop} (h : ∃ c, c < n ∧ P c) : ∃ (c : Nat) (h0 : 0 < (labs (maskP n P)).length), (labs (maskP n P))[0] = (c : Int) ∧ c < n ∧ P c ∧ ∀ d, d < c → ¬ P d := by
  obtain ⟨c0, hc0, hP0⟩ := h
  have hmem : (c0 : Int) ∈ labs (maskP n P) := (mem_labsP hn).2 ⟨c0, rfl, hc0, hP0⟩
  have h0 : 0 < (labs (maskP n P)).length := List.length_pos_of_mem hmem
  obtain ⟨c, hc, hcn, hP⟩ := (mem_labsP hn).1 (List.getElem_mem h0)
  refine ⟨c, h0, hc, hcn, hP, fun d hd hPd => ?_⟩
  have hm : (d : Int) ∈ labs (maskP n P) := (mem_labsP hn).2 ⟨d, rfl, by omega, hPd⟩
  obtain ⟨i, hi, he⟩ := List.getElem_of_mem hm
  rcases Nat.eq_zero_or_pos i with h1 | h1
  · subst h1; omega
  · have := List.pairwise_iff_getElem.1 (labs_sorted (maskP n P)) 0 i h0 hi h1
    omega

/-- What a search for a walk answers. -/
def BetAns (E : Nat → Nat → Prop) (a b k : Nat) (w : World) (base : Nat) (r : Sl) : Prop :=
  (∃ q, BetP E a b k k q ∧ OwnL w base T.t_int r (wlk q) ∧ r.a.isNone = false) ∨ (r = ⟨none, 0, 0⟩ ∧ ¬ Wk E k a b)

theorem own_some {w : World} {base : Nat} {r : Sl} {l : List Int} (h : OwnL w base T.t_int r l) (hl : 0 < l.length) (hi : ∀ x ∈ l, I64 x) : r.a.isNone = false := by
  obtain ⟨x, t, rfl⟩ : ∃ x t, l = x :: t := by cases l with
    | nil => simp at hl
    | cons x t => exact ⟨x, t, rfl⟩
  obtain ⟨a, cs, h1, _⟩ := (h.rep hi).2.2 0 x rfl
  rw [h1]; rfl

theorem walkBetween_ok {w : World} {s : Sl} {p : WPr} {a b k : Nat} (h : RWk w s p) (hg : WGood p) (ha : a < p.labels.toNat) (hb : b < p.labels.toNat) (hk : k ≤ 1000) :
    Calls Tryz.prog F.i_WalkProblem_walkBetween #[.agg #[.int .i64 p.labels, s.v], .int .i64 (a : Int), .int .i64 (b : Int), .int .i64 (k : Int)] w (Ret [.at .sl] fun (r : Sl) w' => Ext w w' ∧ BetAns (arcE p.arcs) a b k w' w.heap.size r) := by
  refine C_i_WalkProblem_walkBetween ?_
  unfold V_i_WalkProblem_walkBetween
  refine NEW_intro fun pp w1 hp1 hs1 hE1 hb1 => LD_bi0 hb1 ?_
  have hl := hg.lab
  obtain ⟨n, hn⟩ : ∃ n : Nat, p.labels = n := ⟨p.labels.toNat, by omega⟩
  have hnt : p.labels.toNat = n := by omega
  have hn12 : n ≤ 12 := by omega
  rw [hnt] at ha hb
  have hrun : ∀ {K : Sl → World → Prop}, RUN Tryz.prog (.at .sl) (Instr.makeSlice T.t_sl_int (.int .i64 (n : Int)) (.int .i64 (n : Int))) w1 K → RUN Tryz.prog (.at .sl) (Instr.makeSlice T.t_sl_int (.int .i64 p.labels) (.int .i64 p.labels)) w1 K := fun hk => by rw [hn]; exact hk
  refine hrun ?_
  refine RUN_make (α := Int) slt_int (d := 0) rfl (by omega) (by unfold maxLen; omega) fun r w2 hE2 hO2 => ?_
  have hE12 := hE1.trans hE2
  have hz1 := hE1.size_le
  have h2 := h.ext hE12
  refine LD_bs1 (hb1.ext hE2) ?_
  rw [h.arcs.len]
  have hfl : (flipA p.arcs).length = p.arcs.length := by simp [flipA]
  refine ⟨IN p.arcs.length fun i w' => Ext w1 w' ∧ OwnL w' w1.heap.size T.t_int r (afterL ((flipA p.arcs).take i) n), MN p.arcs.length, IN_zero ⟨hE2, ?_⟩, ?_⟩
  · have e : afterL ((flipA p.arcs).take 0) n = List.replicate n 0 := by
      apply List.ext_getElem
      · simp [afterL]
      · intro c h1 h2
        rw [afterL_get h1, List.getElem_replicate, maskP_none]
        · rfl
        · intro a _ ha; simp [arcE] at ha
    rw [e]; exact hO2
  rintro _ w3 ⟨i, rfl, hi, hE3, hO3⟩
  intros
  refine cond_dec (fun hlt => ?_) (fun hge => ?_)
  · have hi' : i < p.arcs.length := by omega
    refine (h.arcs.ext (hE1.trans hE3)).ixL hi' fun q row hrow hc => LD_sl hc ?_
    intro w4 hE4 _
    obtain ⟨x, y, he, hx, hy⟩ := hg.arc (List.getElem_mem hi')
    rw [hnt] at hx hy
    have he' : (flipA p.arcs)[i]'(by rw [hfl]; exact hi') = [(y : Int), (x : Int)] := by simp [flipA, he]
    rw [he] at hrow
    have hrow4 := hrow.any.ext hE4
    have hO4 := hO3.ext hE4
    have hyn : y < (afterL ((flipA p.arcs).take i) n).length := by rw [afterL_len]; exact hy
    have cr := Chg.refl w4 fun _ => False
    refine ⟨fun _ => False, ?_⟩
    refine hrow4.ixI (i := 1) (by simp) fun q0 _ hc0 => ⟨not_false, LD_int hc0 ?_⟩
    refine (hO4.rep (afterL_I64 (by omega))).any.ixI (i := y) hyn fun q1 _ hc1 => ⟨not_false, LD_int hc1 ⟨cr, ?_⟩⟩
    refine hrow4.ixI (i := 0) (by simp) fun q2 _ hc2 => ⟨cr, LD_int hc2 ⟨cr, ?_⟩⟩
    show (0 : Int) ≤ (x : Int) ∧ _
    refine ⟨by omega, cr, cr, ?_⟩
    rw [afterL_get hyn]
    have e3 : bitOr .i64 ((maskP n (arcE ((flipA p.arcs).take i) y) : Nat) : Int) (shlI .i64 1 (x : Int)) = ((maskP n (fun c => arcE ((flipA p.arcs).take i) y c ∨ c = x) : Nat) : Int) := by
      rw [shl_maskP (by omega) hx, or_maskP (by omega)]
    refine IX_own hO4 hyn rfl fun q3 hq3 => ?_
    refine ST_own hO4 hyn hq3 (bitOr .i64 ((maskP n (arcE ((flipA p.arcs).take i) y) : Nat) : Int) (shlI .i64 1 (x : Int))) rfl fun w5 hO5 hs5 => ?_
    rw [e3, ← after_step (by rw [hfl]; exact hi') he'] at hO5
    exact IN_next h.arcs.le hi' ⟨hs5.ext0 (hE3.trans hE4) fun k hk => by have := (hO3.blk k hk).1; omega, hO5⟩
  have hie : i = (flipA p.arcs).length := by omega
  subst hie
  rw [List.take_length] at hO3
  refine ⟨by omega, ?_⟩
  have hrel : ∀ x y, arcE (flipA p.arcs) x y → x < n ∧ y < n := fun x y hxy => by
    have := hg.rel (arcE_flip.1 hxy)
    omega
  have hrelE : ∀ x y, arcE p.arcs x y → x < n ∧ y < n := fun x y hxy => by
    have := hg.rel hxy
    omega
  have hflip : ∀ {k x : Nat}, Wk (arcE (flipA p.arcs)) k b x ↔ Wk (arcE p.arcs) k x b := wk_flip
  have hR2 : R w3 r (afterL (flipA p.arcs) n) := (hO3.rep (afterL_I64 hn12)).any
  have hmask : ∀ y : Nat, y < n → ∃ h : y < (afterL (flipA p.arcs) n).length, (afterL (flipA p.arcs) n)[y] = ((maskP n (arcE (flipA p.arcs) y) : Nat) : Int) := fun y hy => ⟨by rw [afterL_len]; exact hy, afterL_get _⟩
  generalize arcE (flipA p.arcs) = G at hrel hflip hmask
  generalize afterL (flipA p.arcs) n = BL at hR2 hmask hO3
  refine RUN_lit1 (α := Int) slt_int (shlI .i64 1 (b : Int)) rfl (by decide) fun r4 w4 hE4 hO4 => ?_
  have hz3 := hE3.size_le
  have hz4 := hE4.size_le
  refine ⟨IN2 k fun j (out : Sl) w' => Ext w3 w' ∧ OwnL w' w3.heap.size T.t_int out (reachL G n b (j + 1)), MN2 k, IN2_zero ⟨hE4, ?_⟩, ?_⟩
  · have e : reachL G n b (0 + 1) = [shlI .i64 1 (b : Int)] := by
      rw [reachL_snoc, shl_maskP hn12 hb]
      simp only [reachL, List.range_zero, List.map_nil, List.nil_append, List.cons.injEq, and_true]
      congr 1
      exact maskP_congr fun c _ => ⟨fun h => (show c = b from (show b = c from h).symm), fun h => (show b = c from h.symm)⟩
    rw [e]; exact hO4
  rintro out _ w5 ⟨j, rfl, hj, hE5, hO5⟩
  intros
  refine cond_dec (fun hlt => ?_) (fun hge5 => ?_)
  · have hj' : j < k := by omega
    have hjl : j < (reachL G n b (j + 1)).length := by rw [reachL_len]; omega
    refine (hO5.rep (reachL_I64 hn12)).any.ixI hjl fun q _ hc => LD_int hc ?_
    rw [reachL_get hjl]
    refine call (labels12_ok (maskP_small hn12 _) w5) ?_
    rintro u w6 ⟨hE6, hO6⟩
    generalize hL : labs (maskP n fun c => Wk G j b c) = L at hO6
    have hL64 : ∀ x ∈ L, I64 x := by subst hL; exact labs_I64 _
    have hLlen : L.length ≤ 12 := by subst hL; exact labs_len _
    have hLm : ∀ x, x ∈ L ↔ ∃ c : Nat, x = c ∧ c < n ∧ Wk G j b c := by subst hL; exact fun x => mem_labsP hn12
    have hRu := (hO6.rep hL64).any
    have hE36 := hE5.trans hE6
    rw [hRu.len]
    refine ⟨IN2 L.length fun v (x : Int) w' => w' = w6 ∧ x = ((maskP n (fun c => ∃ d : Nat, (d : Int) ∈ L.take v ∧ G d c) : Nat) : Int), MN2 L.length, IN2_zero ⟨rfl, ?_⟩, ?_⟩
    · rw [maskP_none (fun c _ => by simp)]; rfl
    rintro _ _ _ ⟨v, rfl, hv, rfl, rfl⟩
    intros
    refine cond_dec (fun hlt2 => ?_) (fun hge2 => ?_)
    · have hv' : v < L.length := by omega
      refine hRu.ixI hv' fun q2 _ hc2 => LD_int hc2 ?_
      obtain ⟨d, hd, hdn, hdw⟩ := (hLm L[v]).1 (List.getElem_mem hv')
      rw [hd]
      obtain ⟨hdl, hdm⟩ := hmask d hdn
      refine (hR2.ext hE36).ixI hdl fun q3 _ hc3 => LD_int hc3 ?_
      rw [hdm, or_maskP hn12]
      refine IN2_next (by omega) hv' ⟨rfl, ?_⟩
      congr 1
      refine maskP_congr fun c _ => ?_
      rw [List.take_succ_eq_append_getElem hv', hd]
      constructor
      · rintro (⟨x, hx, hxe⟩ | hbe)
        · exact ⟨x, List.mem_append_left _ hx, hxe⟩
        · exact ⟨d, by simp, hbe⟩
      · rintro ⟨x, hx, hxe⟩
        rcases List.mem_append.1 hx with hx | hx
        · exact .inl ⟨x, hx, hxe⟩
        · have : x = d := by have := List.mem_singleton.1 hx; omega
          subst this
          exact .inr hxe
    · have : v = L.length := by omega
      subst this
      rw [List.take_length]
      have e4 : maskP n (fun c => ∃ d : Nat, (d : Int) ∈ L ∧ G d c) = maskP n (fun c => Wk G (j + 1) b c) := maskP_congr fun c _ => by
        constructor
        · rintro ⟨d, hd, he⟩
          obtain ⟨d', e, _, hw⟩ := (hLm d).1 hd
          have : d = d' := by omega
          subst this
          exact ⟨d, hw, he⟩
        · rintro ⟨d, hw, he⟩
          exact ⟨d, (hLm d).2 ⟨d, rfl, (hrel d c he).1, hw⟩, he⟩
      rw [e4]
      have hpush := pushI (w0 := w3) (x := (((maskP n (fun c => Wk G (j + 1) b c) : Nat) : Int))) (hO5.ext hE6) hE36 (mask_I64 hn12 _) (by rw [reachL_len]; omega) (K := fun r w' => IN2 k (fun j (out : Sl) w' => Ext w3 w' ∧ OwnL w' w3.heap.size T.t_int out (reachL G n b (j + 1))) r (IntKind.i64.wrap ((j : Int) + 1)) w' ∧ MN2 k r (IntKind.i64.wrap ((j : Int) + 1)) w' < MN2 k out (j : Int) w5) fun r8 w8 hE8 hO8 => by
        rw [← reachL_snoc] at hO8
        exact IN2_next (by omega) hj' ⟨hE8, hO8⟩
      exact hpush
  have hjk : j = k := by omega
  subst hjk
  have hE03 := hE1.trans hE3
  have hE05 := hE03.trans hE5
  have hRL : R w5 out (reachL G n b (j + 1)) := (hO5.rep (reachL_I64 hn12)).any
  have hjl : j < (reachL G n b (j + 1)).length := by rw [reachL_len]; omega
  refine hRL.ixI hjl fun q _ hc => LD_int hc ⟨by omega, ?_⟩
  rw [reachL_get hjl]
  classical
  rw [bit_maskP hn12 ha]
  by_cases hw : Wk (arcE p.arcs) j a b
  rotate_left
  · rw [if_neg fun hh => hw (hflip.1 hh)]
    exact cond_t (by rfl) ⟨hE05, .inr ⟨rfl, hw⟩⟩
  rw [if_pos (hflip.2 hw)]
  refine cond_f (by rfl) ?_
  refine LD_is (hb1.ext (hE3.trans hE5)) ?_
  refine call (after_ok (h.ext hE05) hg) ?_
  rintro t6 w6 ⟨hE6, hO6⟩
  rw [hnt] at hO6
  have hR6 : R w6 t6 (afterL p.arcs n) := (hO6.rep (afterL_I64 hn12)).any
  have hmask6 : ∀ y : Nat, y < n → ∃ h : y < (afterL p.arcs n).length, (afterL p.arcs n)[y] = ((maskP n (arcE p.arcs y) : Nat) : Int) := fun y hy => ⟨by rw [afterL_len]; exact hy, afterL_get _⟩
  have hRL6 := hRL.ext hE6
  generalize afterL p.arcs n = AL at hR6 hmask6 hO6
  generalize arcE p.arcs = E at *
  have hE06 := hE05.trans hE6
  refine RUN_lit1 (α := Int) slt_int (a : Int) rfl (by decide) fun r7 w7 hE7 hO7 => ?_
  rw [wrap_of (n := (j : Int) - 1) (by omega) (by omega)]
  refine ⟨fun (o : Sl) (x : Int) w' => ∃ (u : Nat) (q : List Nat), u ≤ j ∧ x = (j : Int) - 1 - u ∧ BetP E a b j u q ∧ Ext w6 w' ∧ OwnL w' w6.heap.size T.t_int o (wlk q), fun _ x _ => (x + 1).toNat, ⟨0, [a], Nat.zero_le _, by omega, .start hw, hE7, hO7⟩, ?_⟩
  rintro o _ w8 ⟨u, q, hu, rfl, hB, hE8, hO8⟩
  intros
  have hqi := hB.i64 hrelE ha hn12
  refine cond_dec (fun hge8 => ?_) (fun hlt8 => ?_)
  rotate_left
  · have : u = j := by omega
    subst this
    have hz6 := hE06.size_le
    exact ⟨hE06.trans hE8, .inl ⟨q, hB, hO8.low hz6, own_some hO8 (by rw [wlk_len, hB.len]; omega) hqi⟩⟩
  have hu' : u < j := by omega
  intro w9 hE9 _
  have hE69 := hE8.trans hE9
  have hRo : R w9 o (wlk q) := (hO8.rep hqi).any.ext hE9
  have hlo : o.len = u + 1 := by have := hO8.1; rw [wlk_len, hB.len] at this; exact this
  rw [hlo, wrap_of (by omega) (by omega), show (((u + 1 : Nat) : Int) - 1) = ((u : Nat) : Int) by omega]
  have hul : u < (wlk q).length := by rw [wlk_len, hB.len]; omega
  have hqn := hB.lab hrelE ha u (Nat.le_refl _)
  obtain ⟨hal, ham⟩ := hmask6 _ hqn
  have hxl : j - 1 - u < (reachL G n b (j + 1)).length := by rw [reachL_len]; omega
  have hgo := hB.wk u (Nat.le_refl _)
  rw [show j - u = (j - 1 - u) + 1 by omega] at hgo
  obtain ⟨c0, hc01, hc02⟩ := hgo.uncons
  obtain ⟨c, h0, hc, hcn, ⟨hP1, hP2⟩, hleast⟩ := labs_head hn12 (P := fun c => E (q.getD u 0) c ∧ Wk G (j - 1 - u) b c) ⟨c0, (hrelE _ _ hc01).2, hc01, hflip.2 hc02⟩
  have hNx : Nx E b (j - 1 - u) (q.getD u 0) c := ⟨⟨hP1, hflip.1 hP2⟩, fun d hd hh => hleast d hd ⟨hh.1, hflip.2 hh.2⟩⟩
  have hB' := hB.next hu' hNx
  have hz9 := hE69.size_le
  rw [show ((j : Int) - 1 - (u : Int)) = ((j - 1 - u : Nat) : Int) by omega]
  refine hRo.ixI hul fun q1 _ hc1 => (hRL6.ext hE69).ixI hxl fun q3 _ hc3 => ?_
  rw [wlk_get hul] at hc1
  rw [reachL_get hxl] at hc3
  -- the number more
  have fin : ∀ {K : Sl → World → Prop}, (∀ r w', Ext w6 w' → OwnL w' w6.heap.size T.t_int r (wlk (q ++ [c])) → K r w') →
      Calls Tryz.prog F.i_labelsIn #[.int .i64 (bitAnd .i64 ((maskP n (E (q.getD u 0)) : Nat) : Int) ((maskP n (fun x => Wk G (j - 1 - u) b x) : Nat) : Int))] w9 (Ret [.at .sl] fun (x105 : Sl) w16 =>
        IX x105 0 1 fun (px106 : Addr) => LD [.int .i64] px106 w16 fun (x107 : Int) =>
        RUN Tryz.prog (.at .sl) (Instr.buildSlice T.t_sl_int 1 #[(0, .int .i64 x107)]) w16 fun (x108 : Sl) w17 =>
        RUN Tryz.prog (.at .sl) (bsem .append #[T.t_sl_int, T.t_sl_int] T.t_sl_int #[o.v, x108.v]) w17 K) := fun {K} hK => by
    rw [and_maskP hn12]
    refine call (labels12_ok (maskP_small hn12 _) w9) ?_
    rintro x10 w10 ⟨hE10, hO10⟩
    refine (hO10.rep (labs_I64 _)).any.ixI (i := 0) h0 fun q4 _ hc4 => LD_int hc4 ?_
    rw [hc]
    refine pushI ((hO8.ext hE9).ext hE10) (hE69.trans hE10) (by unfold I64; omega) (by rw [wlk_len, hB.len]; omega) fun r12 w12 hE12 hO12 => ?_
    rw [← wlk_snoc] at hO12
    exact hK r12 w12 hE12 hO12
  have nx : ∀ r w', Ext w6 w' → OwnL w' w6.heap.size T.t_int r (wlk (q ++ [c])) → (∃ (u' : Nat) (q' : List Nat), u' ≤ j ∧ IntKind.i64.wrap (((j - 1 - u : Nat) : Int) - 1) = (j : Int) - 1 - u' ∧ BetP E a b j u' q' ∧ Ext w6 w' ∧ OwnL w' w6.heap.size T.t_int r (wlk q')) ∧ (IntKind.i64.wrap (((j - 1 - u : Nat) : Int) - 1) + 1).toNat < (((j - 1 - u : Nat) : Int) + 1).toNat := fun r w' hE hO => by
    rw [wrap_of (by omega) (by omega)]
    exact ⟨⟨u + 1, q ++ [c], by omega, by omega, hB', hE, hO⟩, by omega⟩
  have after9 : ∀ {K : Int → Prop}, K ((maskP n (E (q.getD u 0)) : Nat) : Int) → IX t6 ((q.getD u 0 : Nat) : Int) 1 fun p => LD [.int .i64] p w9 K := fun {K} hK => (hR6.ext hE69).ixI hal fun q2 _ hc2 => LD_int hc2 (by rw [ham]; exact hK)
  refine ⟨LD_int hc1 ((hR6.ext hE69).ixI hal fun q2 _ hc2 => ?_), LD_int hc3 (LD_int hc1 (after9 (fin nx)))⟩
  rw [ham] at hc2
  exact ⟨LD_int hc2 (LD_int hc3 (fin nx)), LD_int hc3 (LD_int hc2 (fin nx))⟩

/-- .. of the reference. -/
def BetAnsS (E : Nat → Nat → Prop) (a b k : Nat) (w : World) (base : Nat) (r : Sl) (ok : Bool) : Prop :=
  (ok = true ∧ ∃ q, BetP E a b k k q ∧ OwnL w base T.t_int r (wlk q)) ∨ (ok = false ∧ r = ⟨none, 0, 0⟩ ∧ ¬ Wk E k a b)

theorem waBetween_ok {w : World} {s : Sl} {p : WPr} {a b k : Nat} (h : RWk w s p) (hg : WGood p) (ha : a < p.labels.toNat) (hb : b < p.labels.toNat) (hk : k ≤ 1000) :
    Calls Tryz.prog F.s_waBetween #[.agg #[.int .i64 p.labels, s.v], .int .i64 (a : Int), .int .i64 (b : Int), .int .i64 (k : Int)] w (Ret [.at .sl, .at .bool] fun (r : Sl) (ok : Bool) w' => Ext w w' ∧ BetAnsS (arcE p.arcs) a b k w' w.heap.size r ok) := by
  refine C_s_waBetween ?_
  unfold V_s_waBetween
  refine NEW_intro fun pp w1 hp1 hs1 hE1 hb1 => LD_is hb1 ?_
  have hl := hg.lab
  refine call (waPowers_ok (m := k) (h.ext hE1) hg hk) ?_
  rintro t w2 ⟨hE2, hP2⟩
  have hR2 := hP2.any
  have hmay := fun {w : World} (h : RWk w s p) => waMay_ok h hg
  have hrelE : ∀ x y, arcE p.arcs x y → x < p.labels.toNat ∧ y < p.labels.toNat := fun x y hxy => hg.rel hxy
  have hlab : p.labels = ((p.labels.toNat : Nat) : Int) := by omega
  generalize hE' : arcE p.arcs = E at *
  generalize hnn : p.labels.toNat = n at *
  have hn12 : n ≤ 12 := by omega
  have hE02 := hE1.trans hE2
  -- a power at a place
  have pw : ∀ {w' : World} {i c : Nat} {K : Bool → Prop}, Ext w2 w' → i ≤ k → c < n → (∀ v : Bool, (v = true ↔ Wk E i c b) → K v) → IX t (i : Int) 1 fun q1 => LD [.sl] q1 w' fun m => IX m (c : Int) 1 fun q2 => LD [.sl] q2 w' fun r => IX r (b : Int) 1 fun q3 => LD [.bool] q3 w' K := fun {w' i c K} hE hi hc hK => by
    have hil : i < (powL E n (k + 1)).length := by rw [powL_len]; omega
    refine (hR2.ext hE).ixL hil fun q1 m hm hc1 => LD_sl hc1 ?_
    rw [powL_get hil] at hm
    have hcl : c < (matB n (Wk E i)).length := by rw [matB_len]; exact hc
    refine hm.any.ixL hcl fun q2 r hr hc2 => LD_sl hc2 ?_
    rw [matB_get hcl] at hr
    have hbl : b < (rowB n (Wk E i c)).length := by rw [rowB_len]; exact hb
    refine hr.any.ixB hbl fun q3 hc3 => LD_bool hc3 (hK _ (rowB_get hbl))
  refine pw (Ext.refl _) (Nat.le_refl _) ha fun v hv => ?_
  refine cond_not (fun hf => ⟨hE02, .inr ⟨rfl, rfl, fun hw => by rw [hv.2 hw] at hf; cases hf⟩⟩) (fun ht => ?_)
  have hw := hv.1 ht
  refine LD_is (hb1.ext hE2) ?_
  refine call (hmay (h.ext hE02)) ?_
  rintro t3 w3 ⟨hE3, ss, hM3⟩
  have hRM : R w3 t3 (matB n E) := hM3.repD.any
  have hE23 := hE3
  have hE03 := hE02.trans hE3
  refine RUN_lit1 (α := Int) slt_int (a : Int) rfl (by decide) fun r7 w7 hE7 hO7 => ?_
  have hz3 := hE03.size_le
  rw [wrap_of (n := (k : Int) - 1) (by omega) (by omega)]
  refine ⟨fun (o : Sl) (x : Int) w' => ∃ (u : Nat) (q : List Nat), u ≤ k ∧ x = (k : Int) - 1 - u ∧ BetP E a b k u q ∧ Ext w3 w' ∧ OwnL w' w3.heap.size T.t_int o (wlk q), fun _ x _ => (x + 1).toNat, ⟨0, [a], Nat.zero_le _, by omega, .start hw, hE7, hO7⟩, ?_⟩
  rintro o _ w8 ⟨u, q, hu, rfl, hB, hE8, hO8⟩
  intros
  have hqi := hB.i64 hrelE ha hn12
  refine cond_dec (fun hge8 => ?_) (fun hlt8 => ?_)
  rotate_left
  · have : u = k := by omega
    subst this
    exact ⟨hE03.trans hE8, .inl ⟨rfl, q, hB, hO8.low hz3⟩⟩
  have hu' : u < k := by omega
  have hgo := hB.wk u (Nat.le_refl _)
  rw [show k - u = (k - 1 - u) + 1 by omega] at hgo
  have hqn := hB.lab hrelE ha u (Nat.le_refl _)
  rw [show ((k : Int) - 1 - (u : Int)) = ((k - 1 - u : Nat) : Int) by omega]
  refine ⟨fun (o' : Sl) (x : Int) w' => o' = o ∧ w' = w8 ∧ ∃ c : Nat, x = c ∧ c ≤ n ∧ ∀ d, d < c → ¬ (E (q.getD u 0) d ∧ Wk E (k - 1 - u) d b), fun _ x _ => n - x.toNat, ⟨rfl, rfl, 0, rfl, Nat.zero_le _, fun d hd => by omega⟩, ?_⟩
  rintro o _ w8 ⟨rfl, rfl, c, rfl, hc, hno⟩
  intros
  refine LD_bi0 ((hb1.ext hE2).ext (hE3.trans hE8)) ?_
  rw [hlab]
  refine cond_dec (fun hlt => ?_) (fun hge => ?_)
  rotate_left
  · exfalso
    obtain ⟨c0, h1, h2⟩ := hgo.uncons
    exact hno c0 (by have := (hrelE _ _ h1).2; omega) ⟨h1, h2⟩
  have hcn : c < n := by omega
  have hlo : o.len = u + 1 := by have := hO8.1; rw [wlk_len, hB.len] at this; exact this
  rw [hlo, wrap_of (n := ((u + 1 : Nat) : Int) - 1) (by omega) (by omega), show (((u + 1 : Nat) : Int) - 1) = ((u : Nat) : Int) by omega]
  have hul : u < (wlk q).length := by rw [wlk_len, hB.len]; omega
  refine (hO8.rep hqi).any.ixI hul fun q1 _ hc1 => LD_int hc1 ?_
  rw [wlk_get hul]
  have hxl : q.getD u 0 < (matB n E).length := by rw [matB_len]; exact hqn
  refine (hRM.ext hE8).ixL hxl fun q2 row hrow hc2 => LD_sl hc2 ?_
  rw [matB_get hxl] at hrow
  have hcl : c < (rowB n (E (q.getD u 0))).length := by rw [rowB_len]; exact hcn
  refine hrow.any.ixB hcl fun q3 hc3 => LD_bool hc3 ?_
  have hv3 := rowB_get hcl
  generalize (rowB n (E (q.getD u 0)))[c] = v3 at hv3
  have skip1 : ¬ (E (q.getD u 0) c ∧ Wk E (k - 1 - u) c b) → (o = o ∧ w8 = w8 ∧ ∃ c' : Nat, IntKind.i64.wrap ((c : Int) + 1) = c' ∧ c' ≤ n ∧ ∀ d, d < c' → ¬ (E (q.getD u 0) d ∧ Wk E (k - 1 - u) d b)) ∧ n - (IntKind.i64.wrap ((c : Int) + 1)).toNat < n - ((c : Int)).toNat := fun hn => by
    rw [wrap_of (by omega) (by omega)]
    refine ⟨⟨rfl, rfl, c + 1, by omega, by omega, fun d hd => ?_⟩, by omega⟩
    by_cases e : d = c
    · subst e; exact hn
    · exact hno d (by omega)
  refine cond_b (fun ht3 => ?_) (fun hf3 => skip1 fun hh => by rw [hv3.2 hh.1] at hf3; cases hf3)
  refine pw (hE3.trans hE8) (by omega) hcn fun v4 hv4 => ?_
  refine cond_b (fun ht4 => ?_) (fun hf4 => skip1 fun hh => by rw [hv4.2 hh.2] at hf4; cases hf4)
  refine pushI hO8 hE8 (by unfold I64; omega) (by rw [wlk_len, hB.len]; omega) fun r12 w12 hE12 hO12 => ?_
  rw [← wlk_snoc] at hO12
  rw [wrap_of (by omega) (by omega)]
  exact ⟨⟨u + 1, q ++ [c], by omega, by omega, hB.next hu' ⟨⟨hv3.1 ht3, hv4.1 ht4⟩, hno⟩, hE12, hO12⟩, by simp only []; omega⟩

end Go.Proofs.YtaeledhbkdakcaaGreatDoor
end

section
/- Filling a cycle with walks between marks, first labelings of cycles, loops, identifiers of cycles: both sides. -/
namespace Go.Proofs.YtaeledhbkdakcaaGreatDoor
open Go.GX Go.RowKit
set_option maxRecDepth 100000

def FillAns (E : Nat → Nat → Prop) (a k : Nat) (m : List Int) (w : World) (base : Nat) (r : Sl) (ok : Bool) : Prop :=
  (ok = true ∧ ∃ out, FillIs E a k m out ∧ (∀ x ∈ out, 0 ≤ x ∧ x < 12) ∧ OwnL w base T.t_int r out) ∨ (ok = false ∧ r = ⟨none, 0, 0⟩ ∧ ∃ i, i < m.length ∧ ¬ Wk E (gapN k m i) a a)

/-- What filling keeps. -/
def FillInv (k : Nat) (m : List Int) (TT : Nat → Int) (hall : Prop) (base i s : Nat) (w : World) (r : Sl) : Prop :=
  ∃ L, OwnL w base T.t_int r L ∧ L.length = k ∧ (∀ x ∈ L, 0 ≤ x ∧ x < 12) ∧ (hall → FillP k m TT i s L)
section
variable {E : Nat → Nat → Prop} {a k : Nat} {m : List Int} {W : Nat → List Nat} {TT : Nat → Int} {hall : Prop} {base i s : Nat} {w w' : World} {r : Sl}
theorem FillInv.keep (h : FillInv k m TT hall base i s w r) {D : Nat → Prop} (hC : Chg w w' D) (hD : ∀ b, oB r b → ¬ D b) : FillInv k m TT hall base i s w' r := by
  obtain ⟨L, h1, h2⟩ := h
  exact ⟨L, h1.chg hC hD, h2⟩
theorem FillInv.ext (h : FillInv k m TT hall base i s w r) (hE : Ext w w') : FillInv k m TT hall base i s w' r := by
  obtain ⟨L, h1, h2⟩ := h
  exact ⟨L, h1.ext hE, h2⟩
theorem FillInv.row (h : FillInv k m TT hall base i s w r) (hs : gapN k m i ≤ s) : FillInv k m TT hall base (i + 1) 0 w r := by
  obtain ⟨L, h1, h2, h3, h4⟩ := h
  exact ⟨L, h1, h2, h3, fun hh => (h4 hh).row hs⟩
theorem FillInv.store (h : FillInv k m TT hall base i s w r) (hm : MarksOk k m) (hT : hall → FillFn E a k m W TT) (hi : i < m.length) {q : List Nat} (hq : BetP E a a (gapN k m i) (gapN k m i) q) (hs : s ≤ gapN k m i) (hv : q.getD s 0 < 12)
    {K : World → Prop} (hk : ∀ w', FillInv k m TT hall base i (s + 1) w' r → Step w w' r.v.ownBlock → K w') : IX r ((posN k m i s : Nat) : Int) 1 fun p => GX.ST p 0 [.int .i64 ((q.getD s 0 : Nat) : Int)] w K := by
  obtain ⟨L, h1, h2, h3, h4⟩ := h
  have hk0 : 0 < k := by have := hm.lab _ (at0_mem hm.ne); omega
  have hpl : posN k m i s < L.length := by rw [h2]; exact posN_lt hk0
  refine IX_own h1 hpl rfl fun p hp => ?_
  refine ST_own h1 hpl hp (((q.getD s 0 : Nat) : Int)) rfl fun w' hO hs' => hk w' ⟨_, hO, by rw [List.length_set]; exact h2, fun x hx => ?_, fun hh => ?_⟩ hs'
  · rcases List.mem_or_eq_of_mem_set hx with hx | hx
    · exact h3 x hx
    · rw [hx]; omega
  · refine (h4 hh).write hm hi rfl ?_
    have hF := hT hh
    have hu := (hF.walk i hi).unique hq
    by_cases e : s < gapN k m i
    · rw [hF.at' i s hi e, hu]
    · have : s = gapN k m i := by omega
      subst this
      rw [hF.wrap hm hi, hq.last]
end

theorem marksOk_ok {w : World} {s : Sl} {m : List Int} {k : Int} (h : R w s m) :
    Calls Tryz.prog F.i_marksOk #[.int .i64 k, s.v] w (Ret [.at .bool] fun (b : Bool) w' => (b = true ↔ (2 ≤ k ∧ k ≤ 180) ∧ 0 < m.length ∧ Rising m 0 (k - 1)) ∧ w = w') := by
  refine C_i_marksOk ?_
  unfold V_i_marksOk
  refine call (within_ok k 2 180 w) ?_
  rintro b _ ⟨hb, rfl⟩
  rw [h.len]
  refine cond_b (fun ht => ?_) (fun hf => ⟨⟨(fun hh => by cases hh), fun hh => absurd hh.1 (inR_false (hb ▸ hf))⟩, rfl⟩)
  have h2 := inR_true (hb ▸ ht)
  refine cond_dec (fun hgt => ?_) (fun hle => ⟨⟨(fun hh => by cases hh), fun hh => by have := hh.2.1; omega⟩, rfl⟩)
  rw [wrap_of (by omega) (by omega)]
  refine call (increasing_ok h 0 (k - 1)) ?_
  rintro c _ ⟨hc, rfl⟩
  exact ⟨⟨fun hh => ⟨h2, by omega, hc.1 hh⟩, fun hh => hc.2 hh.2.2⟩, rfl⟩

theorem MarksOk.rising {k : Nat} {m : List Int} (h : MarksOk k m) : Rising m 0 ((k : Int) - 1) := ⟨fun x hx => by have := h.lab x hx; omega, incr_iff_pairwise.2 h.up⟩

theorem tmod_pos {k : Nat} {m : List Int} {i s : Nat} (hm : MarksOk k m) (hi : i < m.length) (hk : k ≤ 1000) (hs : s ≤ 100000) : Int.tmod (IntKind.i64.wrap (at0 m i + (s : Int))) (k : Int) = ((posN k m i s : Nat) : Int) := by
  have := hm.lab _ (at0_mem hi)
  rw [wrap_of (by omega) (by omega), show at0 m i + (s : Int) = (((at0 m i).toNat + s : Nat) : Int) by omega, ← Int.ofNat_tmod]; rfl

theorem FillCycle_ok {w : World} {s t : Sl} {p : WPr} {a k : Nat} {m : List Int} (h : RWk w s p) (hg : WGood p) (ha : a < p.labels.toNat) (hR : R w t m) (hm : MarksOk k m) (hk : 2 ≤ k ∧ k ≤ 180) :
    Calls Tryz.prog F.i_FillCycle #[.agg #[.int .i64 p.labels, s.v], .int .i64 (a : Int), .int .i64 (k : Int), t.v] w (Ret [.at .sl, .at .bool] fun (r : Sl) (ok : Bool) w' => Ext w w' ∧ FillAns (arcE p.arcs) a k m w' w.heap.size r ok) := by
  refine C_i_FillCycle ?_
  unfold V_i_FillCycle
  refine NEW_intro fun pp w1 hp1 hs1 hE1 hb1 => LD_is hb1 ?_
  have hl := hg.lab
  refine call (IsWalkProblem_ok (h.ext hE1)) ?_
  rintro b w2 ⟨hb, hE2⟩
  refine cond_not (fun hf => by rw [hb.2 hg] at hf; cases hf) (fun _ => ?_)
  refine LD_is (hb1.ext hE2) ?_
  refine RUN_lit1 (α := Int) slt_int (a : Int) rfl (by decide) fun y w3 hE3 hO3 => ?_
  have hE03 := (hE1.trans hE2).trans hE3
  refine call (waHasLabels_ok hl (hO3.rep (by intro x hx; rw [List.mem_singleton.1 hx]; show I64 _; unfold I64; omega)).any) ?_
  rintro b w4 ⟨hb4, hE4⟩
  refine cond_not (fun hf => by rw [hb4.2 (fun x hx => by rw [List.mem_singleton.1 hx]; omega)] at hf; cases hf) (fun _ => ?_)
  have hE04 := hE03.trans hE4
  refine call (marksOk_ok (hR.ext hE04)) ?_
  rintro b w5 ⟨hb5, rfl⟩
  refine cond_not (fun hf => by rw [hb5.2 ⟨by omega, hm.ne, hm.rising⟩] at hf; cases hf) (fun _ => ?_)
  unfold V_i_FillCycle_k1
  have hE24 := hE2.trans (hE3.trans hE4)
  have hb5 := hb1.ext hE24
  have hrelE : ∀ x y, arcE p.arcs x y → x < p.labels.toNat ∧ y < p.labels.toNat := fun x y hxy => hg.rel hxy
  have hwb := fun {w : World} {g : Nat} (h : RWk w s p) (hg2 : g ≤ 1000) => walkBetween_ok (a := a) (b := a) h hg ha ha hg2
  generalize arcE p.arcs = E at *
  have hn12 : p.labels.toNat ≤ 12 := by omega
  refine RUN_make (α := Int) slt_int (d := 0) rfl (by omega) (by unfold maxLen; omega) fun o w7 hE7 hO7 => ?_
  have hE07 := hE04.trans hE7
  have hz4 := hE04.size_le
  have hz7 := hE7.size_le
  refine call (gapsOf_ok (hR.ext hE07) hm (by omega)) ?_
  rintro t8 w8 ⟨hE8, hO8⟩
  have hblk : ∀ b, oB o b → w4.heap.size ≤ b ∧ b < w7.heap.size := fun b hb => hO7.blk b hb
  have hgl : (gapsL k m).length = m.length := mk0_len _ _
  have hG8 : SlR (fun b => w7.heap.size ≤ b) w8 t8 (gapsL k m) := hO8.rep fun x hx => by
    obtain ⟨i, hi, rfl⟩ := mk0_mem.1 hx
    have := (hm.gap hi).2
    show I64 _; unfold I64; omega
  have hlen8 : t8.len = m.length := by have := hG8.len; rw [hgl] at this; exact this
  rw [hlen8]
  have hml := hm.len
  -- the labeling, if all the walks are there
  obtain ⟨W, TT, hT⟩ : ∃ (W : Nat → List Nat) (TT : Nat → Int), (∀ i, i < m.length → Wk E (gapN k m i) a a) → FillFn E a k m W TT := by
    classical
    by_cases hh : ∀ i, i < m.length → Wk E (gapN k m i) a a
    · obtain ⟨W, TT, hF⟩ := ex_fill hm hh
      exact ⟨W, TT, fun _ => hF⟩
    · exact ⟨fun _ => [], fun _ => 0, fun h2 => absurd h2 hh⟩
  generalize hhall : (∀ i, i < m.length → Wk E (gapN k m i) a a) = hall at hT
  have hext : ∀ {w' : World}, Chg w8 w' (oB o) → Ext w4 w' := fun hC => hC.ext0 (hE7.trans hE8) fun b hb => (hblk b hb).1
  refine ⟨IN m.length fun i w' => Chg w8 w' (oB o) ∧ FillInv k m TT hall w4.heap.size i 0 w' o ∧ ∀ j, j < i → Wk E (gapN k m j) a a, MN m.length, IN_zero ⟨Chg.refl _ _, ⟨_, hO7.ext hE8, by simp, (fun x hx => by rw [List.eq_of_mem_replicate hx]; omega), fun _ => .zero _ _ _ (by simp)⟩, fun j hj => by omega⟩, ?_⟩
  rintro _ w9 ⟨i, rfl, hi, hC9, hI9, hW9⟩
  intros
  have hE49 := hext hC9
  refine cond_dec (fun hlt => ?_) (fun hge => ?_)
  rotate_left
  · have : i = m.length := by omega
    subst this
    have hh : hall := by rw [← hhall]; exact hW9
    obtain ⟨L, h1, h2, h3, h4⟩ := hI9
    exact ⟨hE04.trans hE49, .inl ⟨rfl, L, (h4 hh).done (hT hh), h3, h1.low hz4⟩⟩
  have hi' : i < m.length := by omega
  obtain ⟨hg0, hg1, hgk⟩ := hm.gap hi'
  have hgi : i < (gapsL k m).length := by omega
  refine (hG8.chg hC9 fun b hb _ hD => by have := (hblk b hD).2; have h2 : w7.heap.size ≤ b := hb; omega).ixI hgi fun q9 _ hc9 => LD_int hc9 ?_
  have hgv : (gapsL k m)[i] = ((gapN k m i : Nat) : Int) := mk0_get _
  rw [hgv]
  refine LD_is (hb5.ext hE49) ?_
  refine call (hwb (h.ext (hE04.trans hE49)) (by omega)) ?_
  rintro r10 w10 ⟨hE10, hA10⟩
  rcases hA10 with ⟨q, hB, hO10, hs10⟩ | ⟨rfl, hno⟩
  rotate_left
  · exact cond_t rfl ⟨hE04.trans (hE49.trans hE10), .inr ⟨rfl, rfl, i, hi', hno⟩⟩
  refine cond_f hs10 ?_
  have hql : ∀ {u : Nat}, u ≤ gapN k m i → q.getD u 0 < 12 := fun hu => by have := hB.lab hrelE ha _ hu; omega
  have hz9 := hC9.size
  have hz8 := hE8.size_le
  have hWq : SlR (fun b => w9.heap.size ≤ b) w10 r10 (wlk q) := hO10.rep (hB.i64 hrelE ha hn12)
  refine ⟨IN (gapN k m i) fun u w' => Chg w10 w' (oB o) ∧ FillInv k m TT hall w4.heap.size i u w' o, MN (gapN k m i), IN_zero ⟨Chg.refl _ _, hI9.ext hE10⟩, ?_⟩
  rintro _ w11 ⟨u, rfl, hu, hC11, hI11⟩
  intros
  refine cond_dec (fun hlt2 => ?_) (fun hge2 => ?_)
  rotate_left
  · have : u = gapN k m i := by omega
    subst this
    refine IN_next (by omega) hi' ⟨(hC9.trans (.of_ext hE10)).trans hC11, hI11.row (Nat.le_refl _), fun j hj => ?_⟩
    by_cases e : j = i
    · subst e
      have := hB.wk 0 (Nat.zero_le _)
      rw [hB.fst] at this
      exact this
    · exact hW9 j (by omega)
  have hu' : u < gapN k m i := by omega
  intro w12 hE12 _
  have cr := Chg.refl w12 fun _ => False
  refine ⟨fun _ => False, ?_⟩
  have hE4w : Ext w4 w12 := (hext ((hC9.trans (.of_ext hE10)).trans hC11)).trans hE12
  refine (hR.ext (hE04.trans hE4w)).ixI hi' fun q1 _ hc1 => ⟨not_false, LD_int hc1 ⟨by omega, cr, ?_⟩⟩
  rw [← at0_get hi', tmod_pos hm hi' (by omega) (by omega)]
  have hul : u < (wlk q).length := by rw [wlk_len, hB.len]; omega
  refine ((hWq.chg hC11 fun b hb _ hD => by have := (hblk b hD).2; have h2 : w9.heap.size ≤ b := hb; omega).ext hE12).ixI hul fun q2 _ hc2 => ⟨cr, LD_int hc2 ⟨cr, ?_⟩⟩
  rw [wlk_get hul]
  refine (hI11.ext hE12).store hm hT hi' hB (by omega) (hql (by omega)) fun w13 hI13 hs13 => ?_
  exact IN_next (by omega) hu' ⟨(hC11.trans (.of_ext hE12)).trans (.of_step hs13 fun k hk => hk), hI13⟩

theorem WalkBetween_ok {w : World} {s : Sl} {p : WPr} {a b k : Nat} (h : RWk w s p) (hg : WGood p) (ha : a < p.labels.toNat) (hb : b < p.labels.toNat) (hk : k ≤ 199) :
    Calls Tryz.prog F.s_WalkBetween #[.agg #[.int .i64 p.labels, s.v], .int .i64 (a : Int), .int .i64 (b : Int), .int .i64 (k : Int)] w (Ret [.at .sl, .at .bool] fun (r : Sl) (ok : Bool) w' => Ext w w' ∧ BetAnsS (arcE p.arcs) a b k w' w.heap.size r ok) := by
  refine C_s_WalkBetween ?_
  unfold V_s_WalkBetween
  refine NEW_intro fun pp w1 hp1 hs1 hE1 hb1 => LD_is hb1 ?_
  have hl := hg.lab
  refine call (waGood_ok (h.ext hE1)) ?_
  rintro c w2 ⟨hc, hE2⟩
  refine cond_not (fun hf => by rw [hc.2 hg] at hf; cases hf) (fun _ => ?_)
  refine RUN_lits slt_int [(a : Int), (b : Int)] (by simp) (by simp) rfl rfl fun y w3 hE3 hO3 => ?_
  have hE13 := hE2.trans hE3
  refine LD_bi0 (hb1.ext hE13) ?_
  rw [wrap_of (by omega) (by omega)]
  refine call (l1All_ok (hO3.rep (by intro x hx; simp only [List.mem_cons, List.not_mem_nil, or_false] at hx; show I64 _; unfold I64; rcases hx with rfl | rfl <;> omega)).any 0 (p.labels - 1)) ?_
  rintro c _ ⟨hc3, rfl⟩
  refine cond_not (fun hf => by rw [hc3.2 (fun x hx => by simp only [List.mem_cons, List.not_mem_nil, or_false] at hx; rcases hx with rfl | rfl <;> omega)] at hf; cases hf) (fun _ => ?_)
  refine call (l1In_ok _ 0 199 _) ?_
  rintro c _ ⟨hc4, rfl⟩
  refine cond_not (fun hf => absurd ⟨by omega, by omega⟩ (inR_false (hc4 ▸ hf))) (fun _ => ?_)
  refine LD_is (hb1.ext hE13) ?_
  have hE03 := hE1.trans hE13
  refine call (waBetween_ok (h.ext hE03) hg ha hb (by omega)) ?_
  rintro r ok w7 ⟨hE7, hA⟩
  refine ⟨hE03.trans hE7, ?_⟩
  rcases hA with ⟨h1, q, h2, h3⟩ | h1
  · exact .inl ⟨h1, q, h2, h3.low hE03.size_le⟩
  · exact .inr h1

theorem cyFill_ok {w : World} {s t : Sl} {p : WPr} {a k : Nat} {m : List Int} (h : RWk w s p) (hg : WGood p) (ha : a < p.labels.toNat) (hR : R w t m) (hm : MarksOk k m) (hk : 2 ≤ k ∧ k ≤ 180) :
    Calls Tryz.prog F.s_cyFill #[.agg #[.int .i64 p.labels, s.v], .int .i64 (a : Int), .int .i64 (k : Int), t.v] w (Ret [.at .sl, .at .bool] fun (r : Sl) (ok : Bool) w' => Ext w w' ∧ FillAns (arcE p.arcs) a k m w' w.heap.size r ok) := by
  refine C_s_cyFill ?_
  unfold V_s_cyFill
  refine NEW_intro fun pp w1 hp1 hs1 hE1 hb1 => ?_
  have hl := hg.lab
  have hrelE : ∀ x y, arcE p.arcs x y → x < p.labels.toNat ∧ y < p.labels.toNat := fun x y hxy => hg.rel hxy
  have hwb := fun {w : World} {g : Nat} (h : RWk w s p) (hg2 : g ≤ 199) => WalkBetween_ok (a := a) (b := a) h hg ha ha hg2
  generalize arcE p.arcs = E at *
  have hn12 : p.labels.toNat ≤ 12 := by omega
  refine RUN_make (α := Int) slt_int (d := 0) rfl (by omega) (by unfold maxLen; omega) fun o w7 hE7 hO7 => ?_
  have hE07 := hE1.trans hE7
  have hz4 := hE1.size_le
  have hz7 := hE7.size_le
  refine call (cyGaps_ok (hR.ext hE07) hm (by omega)) ?_
  rintro t8 w8 ⟨hE8, hO8⟩
  have hblk : ∀ b, oB o b → w1.heap.size ≤ b ∧ b < w7.heap.size := fun b hb => hO7.blk b hb
  have hgl : (gapsL k m).length = m.length := mk0_len _ _
  have hG8 : SlR (fun b => w7.heap.size ≤ b) w8 t8 (gapsL k m) := hO8.rep fun x hx => by
    obtain ⟨i, hi, rfl⟩ := mk0_mem.1 hx
    have := (hm.gap hi).2
    show I64 _; unfold I64; omega
  have hlen8 : t8.len = m.length := by have := hG8.len; rw [hgl] at this; exact this
  rw [hlen8]
  have hml := hm.len
  obtain ⟨W, TT, hT⟩ : ∃ (W : Nat → List Nat) (TT : Nat → Int), (∀ i, i < m.length → Wk E (gapN k m i) a a) → FillFn E a k m W TT := by
    classical
    by_cases hh : ∀ i, i < m.length → Wk E (gapN k m i) a a
    · obtain ⟨W, TT, hF⟩ := ex_fill hm hh
      exact ⟨W, TT, fun _ => hF⟩
    · exact ⟨fun _ => [], fun _ => 0, fun h2 => absurd h2 hh⟩
  generalize hhall : (∀ i, i < m.length → Wk E (gapN k m i) a a) = hall at hT
  have hext : ∀ {w' : World}, Chg w8 w' (oB o) → Ext w1 w' := fun hC => hC.ext0 (hE7.trans hE8) fun b hb => (hblk b hb).1
  refine ⟨IN m.length fun i w' => Chg w8 w' (oB o) ∧ FillInv k m TT hall w1.heap.size i 0 w' o ∧ ∀ j, j < i → Wk E (gapN k m j) a a, MN m.length, IN_zero ⟨Chg.refl _ _, ⟨_, hO7.ext hE8, by simp, (fun x hx => by rw [List.eq_of_mem_replicate hx]; omega), fun _ => .zero _ _ _ (by simp)⟩, fun j hj => by omega⟩, ?_⟩
  rintro _ w9 ⟨i, rfl, hi, hC9, hI9, hW9⟩
  intros
  have hE49 := hext hC9
  refine cond_dec (fun hlt => ?_) (fun hge => ?_)
  rotate_left
  · have : i = m.length := by omega
    subst this
    have hh : hall := by rw [← hhall]; exact hW9
    obtain ⟨L, h1, h2, h3, h4⟩ := hI9
    exact ⟨hE1.trans hE49, .inl ⟨rfl, L, (h4 hh).done (hT hh), h3, h1.low hz4⟩⟩
  have hi' : i < m.length := by omega
  obtain ⟨hg0, hg1, hgk⟩ := hm.gap hi'
  have hgi : i < (gapsL k m).length := by omega
  refine (hG8.chg hC9 fun b hb _ hD => by have := (hblk b hD).2; have h2 : w7.heap.size ≤ b := hb; omega).ixI hgi fun q9 _ hc9 => LD_int hc9 ?_
  have hgv : (gapsL k m)[i] = ((gapN k m i : Nat) : Int) := mk0_get _
  rw [hgv]
  refine LD_is (hb1.ext hE49) ?_
  refine call (hwb (h.ext (hE1.trans hE49)) (by omega)) ?_
  rintro r10 ok10 w10 ⟨hE10, hA10⟩
  rcases hA10 with ⟨rfl, q, hB, hO10⟩ | ⟨rfl, _, hno⟩
  rotate_left
  · exact cond_t rfl ⟨hE1.trans (hE49.trans hE10), .inr ⟨rfl, rfl, i, hi', hno⟩⟩
  refine cond_f rfl ?_
  have hql : ∀ {u : Nat}, u ≤ gapN k m i → q.getD u 0 < 12 := fun hu => by have := hB.lab hrelE ha _ hu; omega
  have hz9 := hC9.size
  have hz8 := hE8.size_le
  have hWq : SlR (fun b => w9.heap.size ≤ b) w10 r10 (wlk q) := hO10.rep (hB.i64 hrelE ha hn12)
  have hlq : r10.len = gapN k m i + 1 := by have := hWq.len; rw [wlk_len, hB.len] at this; exact this
  rw [hlq]
  refine ⟨IN (gapN k m i + 1) fun u w' => Chg w10 w' (oB o) ∧ FillInv k m TT hall w1.heap.size i u w' o, MN (gapN k m i + 1), IN_zero ⟨Chg.refl _ _, hI9.ext hE10⟩, ?_⟩
  rintro _ w11 ⟨u, rfl, hu, hC11, hI11⟩
  intros
  refine cond_dec (fun hlt2 => ?_) (fun hge2 => ?_)
  rotate_left
  · refine IN_next (by omega) hi' ⟨(hC9.trans (.of_ext hE10)).trans hC11, hI11.row (by omega), fun j hj => ?_⟩
    by_cases e : j = i
    · subst e
      have := hB.wk 0 (Nat.zero_le _)
      rw [hB.fst] at this
      exact this
    · exact hW9 j (by omega)
  have hu' : u < gapN k m i + 1 := by omega
  have hE4w : Ext w1 w11 := hext ((hC9.trans (.of_ext hE10)).trans hC11)
  have hul : u < (wlk q).length := by rw [wlk_len, hB.len]; omega
  refine (hWq.chg hC11 fun b hb _ hD => by have := (hblk b hD).2; have h2 : w9.heap.size ≤ b := hb; omega).ixI hul fun q2 _ hc2 => LD_int hc2 ?_
  rw [wlk_get hul]
  refine (hR.ext (hE1.trans hE4w)).ixI hi' fun q1 _ hc1 => LD_int hc1 ⟨by omega, ?_⟩
  rw [← at0_get hi', tmod_pos hm hi' (by omega) (by omega)]
  refine hI11.store hm hT hi' hB (by omega) (hql (by omega)) fun w13 hI13 hs13 => ?_
  exact IN_next (by omega) hu' ⟨hC11.trans (.of_step hs13 fun k hk => hk), hI13⟩

/-! ### First labelings -/

def FirstAns (E : Nat → Nat → Prop) (n k : Nat) (w : World) (r : Sl) (ok : Bool) : Prop :=
  (ok = true ∧ k ≤ 60 ∧ ∃ a q, a < n ∧ BetP E a a k k q ∧ (∀ c, c < a → ¬ Wk E k c c) ∧ R w r (wlk (q.take k))) ∨ (ok = false ∧ r = ⟨none, 0, 0⟩ ∧ (60 < k ∨ ∀ a, a < n → ¬ Wk E k a a))

theorem wlk_take (q : List Nat) (k : Nat) : wlk (q.take k) = (wlk q).take k := by unfold wlk; rw [List.map_take]

theorem FirstCycleLabeling_ok {w : World} {s : Sl} {p : WPr} {k : Nat} (h : RWk w s p) (hg : WGood p) (hk : 1 ≤ k ∧ k ≤ 180) :
    Calls Tryz.prog F.i_FirstCycleLabeling #[.agg #[.int .i64 p.labels, s.v], .int .i64 (k : Int)] w (Ret [.at .sl, .at .bool] fun (r : Sl) (ok : Bool) w' => Ext w w' ∧ FirstAns (arcE p.arcs) p.labels.toNat k w' r ok) := by
  refine C_i_FirstCycleLabeling ?_
  unfold V_i_FirstCycleLabeling
  refine NEW_intro fun pp w1 hp1 hs1 hE1 hb1 => LD_is hb1 ?_
  have hl := hg.lab
  refine call (IsWalkProblem_ok (h.ext hE1)) ?_
  rintro c w2 ⟨hc, hE2⟩
  refine cond_not (fun hf => by rw [hc.2 hg] at hf; cases hf) (fun _ => ?_)
  refine call (within_ok _ 1 60 _) ?_
  rintro c _ ⟨hc3, rfl⟩
  have hE02 := hE1.trans hE2
  refine cond_not (fun hf => ⟨hE02, .inr ⟨rfl, rfl, .inl (by have := inR_false (hc3 ▸ hf); omega)⟩⟩) (fun ht => ?_)
  have hk60 := inR_true (hc3 ▸ ht)
  unfold V_i_FirstCycleLabeling_k1
  refine LD_bi0 (hb1.ext hE2) ?_
  have hrelE : ∀ x y, arcE p.arcs x y → x < p.labels.toNat ∧ y < p.labels.toNat := fun x y hxy => hg.rel hxy
  have hwb := fun {w : World} {a : Nat} (h : RWk w s p) (ha : a < p.labels.toNat) => walkBetween_ok (a := a) (b := a) (k := k) h hg ha ha (by omega)
  generalize arcE p.arcs = E at *
  have hlab : p.labels = ((p.labels.toNat : Nat) : Int) := by omega
  have hn12 : p.labels.toNat ≤ 12 := by omega
  refine ⟨fun (x : Int) w' => ∃ a : Nat, x = a ∧ a ≤ p.labels.toNat ∧ Ext w2 w' ∧ ∀ c, c < a → ¬ Wk E k c c, fun x _ => p.labels.toNat - x.toNat, ⟨0, rfl, Nat.zero_le _, Ext.refl _, fun c hc => by omega⟩, ?_⟩
  rintro _ w4 ⟨a, rfl, ha, hE4, hno4⟩
  intros
  have hb4 := hb1.ext (hE2.trans hE4)
  have hE04 := hE02.trans hE4
  skip
  refine cond_dec (fun hlt => ?_) (fun hge => ?_)
  rotate_left
  · have : a = p.labels.toNat := by omega
    subst this
    exact ⟨hE04, .inr ⟨rfl, rfl, .inr hno4⟩⟩
  have han : a < p.labels.toNat := by omega
  refine LD_is hb4 ?_
  refine call (hwb (h.ext hE04) han) ?_
  rintro r6 w6 ⟨hE6, hA6⟩
  rcases hA6 with ⟨q, hB, hO6, hs6⟩ | ⟨rfl, hno⟩
  rotate_left
  · refine cond_f rfl ?_
    rw [wrap_of (by omega) (by omega)]
    refine ⟨⟨a + 1, by omega, by omega, hE4.trans hE6, fun c hc => ?_⟩, by simp only []; omega⟩
    by_cases e : c = a
    · subst e; exact hno
    · exact hno4 c (by omega)
  refine cond_t (by rw [hs6]; rfl) ?_
  refine (hO6.rep (hB.i64 hrelE han hn12)).any.take (i := k) (by rw [wlk_len, hB.len]; omega) rfl fun s' hs' => ?_
  exact ⟨hE04.trans hE6, .inl ⟨rfl, by omega, a, q, han, hB, hno4, by rw [wlk_take]; exact hs'⟩⟩


theorem sFirstCycleLabeling_ok {w : World} {s : Sl} {p : WPr} {k : Nat} (h : RWk w s p) (hg : WGood p) (hk : 1 ≤ k ∧ k ≤ 180) :
    Calls Tryz.prog F.s_FirstCycleLabeling #[.agg #[.int .i64 p.labels, s.v], .int .i64 (k : Int)] w (Ret [.at .sl, .at .bool] fun (r : Sl) (ok : Bool) w' => Ext w w' ∧ FirstAns (arcE p.arcs) p.labels.toNat k w' r ok) := by
  refine C_s_FirstCycleLabeling ?_
  unfold V_s_FirstCycleLabeling
  refine NEW_intro fun pp w1 hp1 hs1 hE1 hb1 => LD_is hb1 ?_
  have hl := hg.lab
  refine call (waGood_ok (h.ext hE1)) ?_
  rintro c w2 ⟨hc, hE2⟩
  refine cond_not (fun hf => by rw [hc.2 hg] at hf; cases hf) (fun _ => ?_)
  refine call (l1In_ok _ 1 60 _) ?_
  rintro c _ ⟨hc3, rfl⟩
  have hE02 := hE1.trans hE2
  refine cond_not (fun hf => ⟨hE02, .inr ⟨rfl, rfl, .inl (by have := inR_false (hc3 ▸ hf); omega)⟩⟩) (fun ht => ?_)
  have hk60 := inR_true (hc3 ▸ ht)
  unfold V_s_FirstCycleLabeling_k1
  skip
  have hrelE : ∀ x y, arcE p.arcs x y → x < p.labels.toNat ∧ y < p.labels.toNat := fun x y hxy => hg.rel hxy
  have hwb := fun {w : World} {a : Nat} (h : RWk w s p) (ha : a < p.labels.toNat) => waBetween_ok (a := a) (b := a) (k := k) h hg ha ha (by omega)
  generalize arcE p.arcs = E at *
  have hlab : p.labels = ((p.labels.toNat : Nat) : Int) := by omega
  have hn12 : p.labels.toNat ≤ 12 := by omega
  refine ⟨fun (x : Int) w' => ∃ a : Nat, x = a ∧ a ≤ p.labels.toNat ∧ Ext w2 w' ∧ ∀ c, c < a → ¬ Wk E k c c, fun x _ => p.labels.toNat - x.toNat, ⟨0, rfl, Nat.zero_le _, Ext.refl _, fun c hc => by omega⟩, ?_⟩
  rintro _ w4 ⟨a, rfl, ha, hE4, hno4⟩
  intros
  have hb4 := hb1.ext (hE2.trans hE4)
  have hE04 := hE02.trans hE4
  refine LD_bi0 hb4 ?_
  refine cond_dec (fun hlt => ?_) (fun hge => ?_)
  rotate_left
  · have : a = p.labels.toNat := by omega
    subst this
    exact ⟨hE04, .inr ⟨rfl, rfl, .inr hno4⟩⟩
  have han : a < p.labels.toNat := by omega
  refine LD_is hb4 ?_
  refine call (hwb (h.ext hE04) han) ?_
  rintro r6 ok6 w6 ⟨hE6, hA6⟩
  rcases hA6 with ⟨rfl, q, hB, hO6⟩ | ⟨rfl, _, hno⟩
  rotate_left
  · refine cond_f rfl ?_
    rw [wrap_of (by omega) (by omega)]
    refine ⟨⟨a + 1, by omega, by omega, hE4.trans hE6, fun c hc => ?_⟩, by simp only []; omega⟩
    by_cases e : c = a
    · subst e; exact hno
    · exact hno4 c (by omega)
  refine cond_t rfl ?_
  refine (hO6.rep (hB.i64 hrelE han hn12)).any.take (i := k) (by rw [wlk_len, hB.len]; omega) rfl fun s' hs' => ?_
  refine call (l1Own_ok hs' (by rw [List.length_take, wlk_len, hB.len]; omega)) ?_; rintro r7 w7 ⟨hE7, hO7⟩; exact ⟨(hE04.trans hE6).trans hE7, .inl ⟨rfl, by omega, a, q, han, hB, hno4, by rw [wlk_take]; exact (hO7.rep fun x hx => hB.i64 hrelE han hn12 x (List.mem_of_mem_take hx)).any⟩⟩


/-! ### Loops, identifiers -/

def LoopIs (E : Nat → Nat → Prop) (n : Nat) (x : Int) : Prop := (∃ a : Nat, x = a ∧ a < n ∧ E a a ∧ ∀ c, c < a → ¬ E c c) ∨ (x = -1 ∧ ∀ a, a < n → ¬ E a a)

theorem loopOf_ok {w : World} {s : Sl} {p : WPr} (h : RWk w s p) (hg : WGood p) :
    Calls Tryz.prog F.i_WalkProblem_loopOf #[.agg #[.int .i64 p.labels, s.v]] w (Ret [.at (.int .i64)] fun (x : Int) w' => Ext w w' ∧ LoopIs (arcE p.arcs) p.labels.toNat x) := by
  refine C_i_WalkProblem_loopOf ?_
  unfold V_i_WalkProblem_loopOf
  refine NEW_intro fun pp w1 hp1 hs1 hE1 hb1 => LD_bi0 hb1 ?_
  have hl := hg.lab
  obtain ⟨n, hn⟩ : ∃ n : Nat, p.labels = n := ⟨p.labels.toNat, by omega⟩
  have hnt : p.labels.toNat = n := by omega
  have hnum := numbersTo_ok n (by omega) w1
  rw [← hn] at hnum
  refine call hnum ?_
  rintro t w2 ⟨hE2, hO2⟩
  rw [hnt]
  classical
  refine call (indexFuncI_ok (p := fun x => decide (arcE p.arcs x.toNat x.toNat)) (hO2.rep (upTo_ok n (by omega))).any ?_) ?_
  · intro x hx w' hw'
    obtain ⟨u, hu, rfl⟩ := List.mem_map.1 hx
    rw [List.mem_range] at hu
    refine callv (CALLV_mk (by kernel_rfl) (C_i_WalkProblem_loopOf_1 (Q := fun (b : Bool) w'' => b = decide (arcE p.arcs ((u : Nat) : Int).toNat ((u : Nat) : Int).toNat) ∧ Ext w' w'') ?_)) fun _ _ hh => hh
    unfold V_i_WalkProblem_loopOf_1
    refine LD_is ((hb1.ext hE2).ext hw') ?_
    refine call (after_ok (h.ext ((hE1.trans hE2).trans hw')) hg) ?_
    rintro r w3 ⟨hE3, hO3⟩
    rw [hnt] at hO3
    have hul : u < (afterL p.arcs n).length := by rw [afterL_len]; exact hu
    refine (hO3.rep (afterL_I64 (by omega))).any.ixI hul fun q _ hc => LD_int hc ⟨by omega, ?_⟩
    rw [afterL_get hul, bit_maskP (by omega) hu]
    refine ⟨?_, hE3⟩
    by_cases he : arcE p.arcs u u
    · rw [if_pos he, Int.toNat_natCast, decide_eq_true he]; rfl
    · rw [if_neg he, Int.toNat_natCast, decide_eq_false he]; rfl
  · rintro x w3 ⟨hx, hE3⟩
    refine ⟨(hE1.trans hE2).trans hE3, ?_⟩
    cases hf : (upTo n).findIdx? fun x => decide (arcE p.arcs x.toNat x.toNat) with
    | none =>
      rw [hf] at hx
      refine .inr ⟨hx, fun a ha he => ?_⟩
      have := List.findIdx?_eq_none_iff.1 hf (a : Int) (List.mem_map.2 ⟨a, List.mem_range.2 ha, rfl⟩)
      rw [Int.toNat_natCast, decide_eq_true he] at this; cases this
    | some j =>
      rw [hf] at hx
      obtain ⟨hj, hp, hb⟩ := List.findIdx?_eq_some_iff_getElem.1 hf
      have hup : ∀ i (hi : i < (upTo n).length), (upTo n)[i] = (i : Int) := fun i hi => by simp [upTo]
      rw [hup, Int.toNat_natCast, decide_eq_true_eq] at hp
      rw [upTo_len] at hj
      refine .inl ⟨j, hx, hj, hp, fun c hc he => ?_⟩
      have := hb c hc
      rw [hup, Int.toNat_natCast] at this
      exact this (decide_eq_true he)

theorem waLoop_ok {w : World} {s : Sl} {p : WPr} (h : RWk w s p) (hg : WGood p) :
    Calls Tryz.prog F.s_waLoop #[.agg #[.int .i64 p.labels, s.v]] w (Ret [.at (.int .i64)] fun (x : Int) w' => Ext w w' ∧ LoopIs (arcE p.arcs) p.labels.toNat x) := by
  refine C_s_waLoop ?_
  unfold V_s_waLoop
  refine NEW_intro fun pp w1 hp1 hs1 hE1 hb1 => LD_bs1 hb1 ?_
  rw [h.arcs.len]
  have hle := h.arcs.le
  refine ⟨IN p.arcs.length fun i w' => Ext w w' ∧ ∀ j (hj : j < p.arcs.length), j < i → ∀ c : Nat, p.arcs[j] ≠ [(c : Int), (c : Int)], MN p.arcs.length, IN_zero ⟨hE1, fun j hj hji => by omega⟩, ?_⟩
  rintro _ w2 ⟨i, rfl, hi, hE2, hno⟩
  intros
  refine cond_dec (fun hlt => ?_) (fun hge => ?_)
  rotate_left
  · refine ⟨hE2, .inr ⟨rfl, fun a ha he => ?_⟩⟩
    obtain ⟨j, hj, e⟩ := List.getElem_of_mem he
    exact hno j hj (by omega) a e
  have hi' : i < p.arcs.length := by omega
  obtain ⟨a, b, he, ha, hb⟩ := hg.arc (List.getElem_mem hi')
  refine (h.arcs.ext hE2).ixL hi' fun q row hrow hc => LD_sl hc ?_
  rw [he] at hrow
  refine hrow.any.ixI (i := 0) (by simp) fun q0 _ hc0 => LD_int hc0 ?_
  refine hrow.any.ixI (i := 1) (by simp) fun q1 _ hc1 => LD_int hc1 ?_
  intro w3 hE3
  have hE03 := hE2.trans hE3
  refine cond_eq (fun heq => ?_) (fun hne => IN_next hle hi' ⟨hE03, fun j hj hji c hjc => ?_⟩)
  · refine (hrow.any.ext hE3).ixI (i := 0) (by simp) fun q2 _ hc2 => LD_int hc2 ?_
    have hab : a = b := by simp at heq; omega
    subst hab
    refine ⟨hE03, .inl ⟨a, rfl, ha, by unfold arcE; rw [← he]; exact List.getElem_mem hi', fun c hca hcc => ?_⟩⟩
    obtain ⟨j, hj, e⟩ := List.getElem_of_mem hcc
    rcases Nat.lt_trichotomy j i with h1 | h1 | h1
    · exact hno j hj h1 c e
    · subst h1
      rw [he] at e
      simp at e; omega
    · have hlt := hg.up.lt j i h1 hj
      rw [he, e] at hlt
      unfold cmpL at hlt
      exact absurd hlt (by simp; omega)
  · by_cases e : j = i
    · subst e
      rw [he] at hjc
      simp only [List.cons.injEq, and_true] at hjc
      exact hne (by simp; omega)
    · exact hno j hj (by omega) c hjc

end Go.Proofs.YtaeledhbkdakcaaGreatDoor
end

section
/- Walk problems, the program: closure, distances, the period of a component. -/
namespace Go.Proofs.YtaeledhbkdakcaaGreatDoor
open Go.GX Go.RowKit
set_option maxRecDepth 100000

/-! ### Closure -/

noncomputable def closeL (E : Nat → Nat → Prop) (n : Nat) : List Int := (List.range n).map fun a => ((maskP n (fun b => ∃ k, Wk E k a b) : Nat) : Int)
noncomputable def closeS (E : Nat → Nat → Prop) (n i j : Nat) : List Int := (List.range n).map fun a => if a < i then ((maskP n (fun b => ∃ k, k ≤ n ∧ Wk E k a b) : Nat) : Int) else if a = i then ((maskP n (fun b => ∃ k, k < j ∧ Wk E k a b) : Nat) : Int) else 0
theorem closeS_len (E : Nat → Nat → Prop) (n i j : Nat) : (closeS E n i j).length = n := by simp [closeS]
theorem closeS_get {E : Nat → Nat → Prop} {n i j a : Nat} (h : a < (closeS E n i j).length) : (closeS E n i j)[a] = if a < i then ((maskP n (fun b => ∃ k, k ≤ n ∧ Wk E k a b) : Nat) : Int) else if a = i then ((maskP n (fun b => ∃ k, k < j ∧ Wk E k a b) : Nat) : Int) else 0 := by simp [closeS]
theorem closeS_I64 {E : Nat → Nat → Prop} {n i j : Nat} (hn : n ≤ 12) : ∀ x ∈ closeS E n i j, I64 x := fun x hx => by
  obtain ⟨a, _, rfl⟩ := List.mem_map.1 hx
  split
  · exact mask_I64 hn _
  · split
    · exact mask_I64 hn _
    · unfold I64; omega
theorem closeS_next (E : Nat → Nat → Prop) (n i : Nat) : closeS E n i (n + 1) = closeS E n (i + 1) 0 := by
  apply List.ext_getElem
  · simp [closeS]
  · intro a h1 h2
    rw [closeS_get h1, closeS_get h2]
    by_cases hlt : a < i
    · rw [if_pos hlt, if_pos (by omega)]
    · rw [if_neg hlt]
      by_cases he : a = i
      · rw [if_pos he, if_pos (by omega)]
        congr 1
        exact maskP_congr fun b _ => ⟨fun ⟨k, hk, hw⟩ => ⟨k, by omega, hw⟩, fun ⟨k, hk, hw⟩ => ⟨k, by omega, hw⟩⟩
      · rw [if_neg he, if_neg (by omega)]
        by_cases he2 : a = i + 1
        · rw [if_pos he2, maskP_none fun b _ ⟨k, hk, _⟩ => by omega]; rfl
        · rw [if_neg he2]
theorem closeS_set {E : Nat → Nat → Prop} {n i j : Nat} : (closeS E n i j).set i ((maskP n (fun b => (∃ k, k < j ∧ Wk E k i b) ∨ Wk E j i b) : Nat) : Int) = closeS E n i (j + 1) := by
  apply List.ext_getElem
  · simp [closeS]
  · intro a h1 h2
    rw [List.getElem_set, closeS_get h2]
    by_cases he : i = a
    · subst he
      rw [if_pos rfl, if_neg (by omega), if_pos rfl]
      congr 1
      refine maskP_congr fun b _ => ⟨?_, ?_⟩
      · rintro (⟨k, hk, hw⟩ | hw)
        · exact ⟨k, by omega, hw⟩
        · exact ⟨j, by omega, hw⟩
      · rintro ⟨k, hk, hw⟩
        by_cases hkj : k = j
        · subst hkj; exact .inr hw
        · exact .inl ⟨k, by omega, hw⟩
    · rw [if_neg he, closeS_get]
      by_cases hlt : a < i
      · rw [if_pos hlt, if_pos hlt]
      · rw [if_neg hlt, if_neg hlt, if_neg (by omega), if_neg (by omega)]
theorem closeS_end {E : Nat → Nat → Prop} {n : Nat} (hE : ∀ x y, E x y → y < n) : closeS E n n 0 = closeL E n := by
  apply List.ext_getElem
  · simp [closeS, closeL]
  · intro a h1 h2
    have ha : a < n := by rw [closeS_len] at h1; exact h1
    rw [closeS_get h1, if_pos ha]
    have e2 : (closeL E n)[a] = ((maskP n (fun b => ∃ k, Wk E k a b) : Nat) : Int) := by simp [closeL]
    rw [e2]
    congr 1
    refine maskP_congr fun b _ => ⟨fun ⟨k, _, hw⟩ => ⟨k, hw⟩, fun ⟨k, hw⟩ => ?_⟩
    rcases Nat.eq_zero_or_pos k with rfl | hk
    · exact ⟨0, by omega, hw⟩
    · obtain ⟨k', _, h3, h4⟩ := hw.short hE hk
      exact ⟨k', h3, h4⟩
theorem closeL_len (E : Nat → Nat → Prop) (n : Nat) : (closeL E n).length = n := by simp [closeL]
theorem closeL_get {E : Nat → Nat → Prop} {n a : Nat} (h : a < (closeL E n).length) : (closeL E n)[a] = ((maskP n (fun b => ∃ k, Wk E k a b) : Nat) : Int) := by simp [closeL]
theorem closeL_I64 {E : Nat → Nat → Prop} {n : Nat} (hn : n ≤ 12) : ∀ x ∈ closeL E n, I64 x := fun x hx => by
  obtain ⟨a, _, rfl⟩ := List.mem_map.1 hx
  exact mask_I64 hn _

theorem closure_ok {w : World} {s : Sl} {p : WPr} (h : RWk w s p) (hg : WGood p) :
    Calls Tryz.prog F.i_WalkProblem_closure #[.agg #[.int .i64 p.labels, s.v]] w (Ret [.at .sl] fun (r : Sl) w' => Ext w w' ∧ OwnL w' w.heap.size T.t_int r (closeL (arcE p.arcs) p.labels.toNat)) := by
  refine C_i_WalkProblem_closure ?_
  unfold V_i_WalkProblem_closure
  refine NEW_intro fun pp w1 hp1 hs1 hE1 hb1 => LD_bi0 hb1 ?_
  have hl := hg.lab
  obtain ⟨n, hn⟩ : ∃ n : Nat, p.labels = n := ⟨p.labels.toNat, by omega⟩
  have hnt : p.labels.toNat = n := by omega
  have hn12 : n ≤ 12 := by omega
  rw [hnt]
  have hrun : ∀ {K : Sl → World → Prop}, RUN Tryz.prog (.at .sl) (Instr.makeSlice T.t_sl_int (.int .i64 (n : Int)) (.int .i64 (n : Int))) w1 K → RUN Tryz.prog (.at .sl) (Instr.makeSlice T.t_sl_int (.int .i64 p.labels) (.int .i64 p.labels)) w1 K := fun hk => by rw [hn]; exact hk
  refine hrun ?_
  refine RUN_make (α := Int) slt_int (d := 0) rfl (by omega) (by unfold maxLen; omega) fun r w2 hE2 hO2 => ?_
  have hE12 := hE1.trans hE2
  have hz1 := hE1.size_le
  have hz2 := hE2.size_le
  have hrl : r.len = n := by have := hO2.1; rw [List.length_replicate] at this; exact this
  rw [hrl]
  have hpB : ∀ {w' : World}, Chg w2 w' (oB r) → Box w' pp T.t_i_WalkProblem [.int .i64 p.labels, s.v] := fun hC => (hb1.ext hE2).chg hC fun hh => by have := (hO2.blk _ hh).1; have := hb1.lt; omega
  have hext : ∀ {w' : World}, Chg w2 w' (oB r) → Ext w w' := fun hC => hC.ext0 hE12 fun k hk => by have := (hO2.blk _ hk).1; omega
  refine ⟨IN n fun i w' => Chg w2 w' (oB r) ∧ OwnL w' w1.heap.size T.t_int r (closeS (arcE p.arcs) n i 0), MN n, IN_zero ⟨Chg.refl _ _, ?_⟩, ?_⟩
  · have e : closeS (arcE p.arcs) n 0 0 = List.replicate n 0 := by
      apply List.ext_getElem
      · simp [closeS]
      · intro a h1 h2
        rw [closeS_get h1, List.getElem_replicate, if_neg (by omega)]
        split
        · rw [maskP_none fun b _ ⟨k, hk, _⟩ => by omega]; rfl
        · rfl
    rw [e]; exact hO2
  rintro _ w3 ⟨i, rfl, hi, hC3, hO3⟩
  intros
  refine cond_dec (fun hlt => ?_) (fun hge => ?_)
  · have hi' : i < n := by omega
    have h3 := h.ext (hext hC3)
    refine LD_is (hpB hC3) (LD_bi0 (hpB hC3) ?_)
    have hcall := reached_ok (a := i) (m := n) h3 hg (by omega) (by omega)
    rw [← hn] at hcall
    refine call hcall ?_
    rintro t w4 ⟨hE4, hO4⟩
    rw [hnt] at hO4
    have hRt := (hO4.rep (reachL_I64 hn12)).any
    have hC4 : Chg w2 w4 (oB r) := hC3.trans (.of_ext hE4)
    have hz4 := hE4.size_le
    rw [hRt.len, reachL_len]
    refine ⟨IN (n + 1) fun j w' => Chg w4 w' (oB r) ∧ OwnL w' w1.heap.size T.t_int r (closeS (arcE p.arcs) n i j), MN (n + 1), IN_zero ⟨Chg.refl _ _, hO3.ext hE4⟩, ?_⟩
    rintro _ w5 ⟨j, rfl, hj, hC5, hO5⟩
    intros
    refine cond_dec (fun hlt2 => ?_) (fun hge2 => ?_)
    · have hj' : j < n + 1 := by omega
      have hRt5 : R w5 t (reachL (arcE p.arcs) n i (n + 1)) := ((hO4.rep (reachL_I64 hn12)).chg hC5 fun b hb _ hD => by
        have h1 := (hO3.blk _ hD).2
        have h2 : w3.heap.size ≤ b := hb
        omega).any
      have hjl : j < (reachL (arcE p.arcs) n i (n + 1)).length := by rw [reachL_len]; exact hj'
      have hil : i < (closeS (arcE p.arcs) n i j).length := by rw [closeS_len]; exact hi'
      refine hRt5.ixI hjl fun q _ hc => LD_int hc ?_
      refine (hO5.rep (closeS_I64 hn12)).any.ixI hil fun q2 _ hc2 => LD_int hc2 ?_
      rw [reachL_get hjl, closeS_get hil, if_neg (by omega), if_pos rfl, or_maskP hn12]
      refine IX_own hO5 hil rfl fun q3 hq3 => ?_
      refine ST_own hO5 hil hq3 (((maskP n (fun b => (∃ k, k < j ∧ Wk (arcE p.arcs) k i b) ∨ Wk (arcE p.arcs) j i b) : Nat) : Int)) rfl fun w6 hO6 hs6 => ?_
      rw [closeS_set] at hO6
      exact IN_next (by omega) hj' ⟨hC5.trans (.of_step hs6 fun k hk => hk), hO6⟩
    · have : j = n + 1 := by omega
      subst this
      rw [closeS_next] at hO5
      exact IN_next (by omega) hi' ⟨hC4.trans hC5, hO5⟩
  · have : i = n := by omega
    subst this
    rw [closeS_end fun x y hxy => by have := (hg.rel hxy).2; omega] at hO3
    exact ⟨hext hC3, hO3.low hz1⟩

end Go.Proofs.YtaeledhbkdakcaaGreatDoor
end

section
/- Walk problems, the program: distances, the period of a component. -/
namespace Go.Proofs.YtaeledhbkdakcaaGreatDoor
open Go.GX Go.RowKit
set_option maxRecDepth 100000

/-- Lengths of walks from a label, -1 where none leads. -/
structure DistOk (E : Nat → Nat → Prop) (n a : Nat) (D : List Int) : Prop where
  len : D.length = n
  val : ∀ b (h : b < D.length), D[b] = -1 ∨ ∃ k : Nat, k ≤ n ∧ D[b] = k ∧ Wk E k a b
  all : ∀ b (h : b < D.length), (∃ k, Wk E k a b) → 0 ≤ D[b]
  zero : ∀ h : a < D.length, D[a] = 0

/-- What holds when lengths below k are done, and of length k the labels of a list. -/
structure DistS (E : Nat → Nat → Prop) (n a k : Nat) (L : List Int) (D : List Int) : Prop where
  len : D.length = n
  val : ∀ b (h : b < D.length), D[b] = -1 ∨ ∃ j : Nat, j ≤ n ∧ D[b] = j ∧ Wk E j a b
  low : ∀ b (h : b < D.length), ∀ j, j < k → Wk E j a b → 0 ≤ D[b]
  cur : ∀ b (h : b < D.length), (b : Int) ∈ L → 0 ≤ D[b]
  zero : ∀ h : a < D.length, D[a] = -1 ∨ D[a] = 0

theorem DistS.I64 {E : Nat → Nat → Prop} {n a k : Nat} {L D : List Int} (h : DistS E n a k L D) (hn : n ≤ 1000) : ∀ x ∈ D, I64 x := fun x hx => by
  obtain ⟨b, hb, rfl⟩ := List.mem_iff_getElem.1 hx
  rcases h.val b hb with he | ⟨j, hj, he, _⟩
  · rw [he]; unfold GX.I64; omega
  · rw [he]; unfold GX.I64; omega
theorem DistOk.I64 {E : Nat → Nat → Prop} {n a : Nat} {D : List Int} (h : DistOk E n a D) (hn : n ≤ 1000) : ∀ x ∈ D, -1 ≤ x ∧ x ≤ n := fun x hx => by
  obtain ⟨b, hb, rfl⟩ := List.mem_iff_getElem.1 hx
  rcases h.val b hb with he | ⟨j, hj, he, _⟩
  · rw [he]; omega
  · rw [he]; omega

theorem distancesIn_ok {w : World} {s : Sl} {p : WPr} {a : Nat} (h : RWk w s p) (hg : WGood p) (ha : a < p.labels.toNat) :
    Calls Tryz.prog F.i_WalkProblem_distancesIn #[.agg #[.int .i64 p.labels, s.v], .int .i64 a] w (Ret [.at .sl] fun (r : Sl) w' => Ext w w' ∧ ∃ D, OwnL w' w.heap.size T.t_int r D ∧ DistOk (arcE p.arcs) p.labels.toNat a D) := by
  refine C_i_WalkProblem_distancesIn ?_
  unfold V_i_WalkProblem_distancesIn
  refine NEW_intro fun pp w1 hp1 hs1 hE1 hb1 => ?_
  have hl := hg.lab
  obtain ⟨n, hn⟩ : ∃ n : Nat, p.labels = n := ⟨p.labels.toNat, by omega⟩
  have hnt : p.labels.toNat = n := by omega
  have hn12 : n ≤ 12 := by omega
  have hrel : ∀ x y, arcE p.arcs x y → y < n := fun x y hxy => by have := (hg.rel hxy).2; omega
  rw [hnt] at ha ⊢
  refine RUN_lit1 (α := Int) slt_int (-1) rfl (by decide) fun y w2 hE2 hO2 => LD_bi0 (hb1.ext hE2) ?_
  have hcallR := repeat_ok (n := n) (hO2.rep (by intro x hx; rw [List.mem_singleton.1 hx]; show I64 _; unfold GX.I64; omega)).any (show I64 (-1) by unfold GX.I64; omega) (by omega)
  rw [← hn] at hcallR
  refine call hcallR ?_
  rintro r w3 ⟨hE3, hO3⟩
  have hE13 := hE2.trans hE3
  have hE03 := hE1.trans hE13
  have hb3 := hb1.ext hE13
  have hz1 := hE1.size_le
  have hz2 := hE2.size_le
  refine LD_is hb3 (LD_bi0 hb3 ?_)
  have hcall := reached_ok (a := a) (m := n) (h.ext hE03) hg (by omega) (by omega)
  rw [← hn] at hcall
  refine call hcall ?_
  rintro t w4 ⟨hE4, hO4⟩
  rw [hnt] at hO4
  have hz3 := hE3.size_le
  have hz4 := hE4.size_le
  have hE04 := hE03.trans hE4
  have hRt := (hO4.rep (reachL_I64 hn12)).any
  rw [hRt.len, reachL_len]
  have hext : ∀ {w' : World}, Chg w4 w' (oB r) → Ext w w' := fun hC => hC.ext0 hE04 fun k hk => by have := (hO3.blk _ hk).1; omega
  refine ⟨IN (n + 1) fun k w' => Chg w4 w' (oB r) ∧ ∃ D, OwnL w' w2.heap.size T.t_int r D ∧ DistS (arcE p.arcs) n a k [] D ∧ (∀ ha : a < D.length, 1 ≤ k → D[a] = 0), MN (n + 1), IN_zero ⟨Chg.refl _ _, List.replicate n (-1), hO3.ext hE4, ⟨by simp, fun b hb => .inl (by simp), fun b hb j hj => by omega, fun b hb hm => by simp at hm, fun h => .inl (by simp)⟩, fun _ h1 => by omega⟩, ?_⟩
  rintro _ w5 ⟨k, rfl, hk, hC5, D, hO5, hD, hDz⟩
  intros
  refine cond_dec (fun hlt => ?_) (fun hge => ?_)
  · have hk' : k < n + 1 := by omega
    have hRt5 : R w5 t (reachL (arcE p.arcs) n a (n + 1)) := ((hO4.rep (reachL_I64 hn12)).chg hC5 fun b hb _ hDD => by
        have h1 := (hO3.blk _ hDD).2
        have h2 : w3.heap.size ≤ b := hb
        omega).any
    have hkl : k < (reachL (arcE p.arcs) n a (n + 1)).length := by rw [reachL_len]; exact hk'
    refine hRt5.ixI hkl fun q _ hcq => LD_int hcq ?_
    rw [reachL_get hkl]
    refine call (labels12_ok (maskP_small hn12 _) w5) ?_
    rintro u w6 ⟨hE6, hO6⟩
    generalize hL : labs (maskP n fun b => Wk (arcE p.arcs) k a b) = L at hO6
    have hL64 : ∀ x ∈ L, GX.I64 x := by subst hL; exact labs_I64 _
    have hLlen : L.length ≤ 12 := by subst hL; exact labs_len _
    have hLm : ∀ x, x ∈ L ↔ ∃ b : Nat, x = b ∧ b < n ∧ Wk (arcE p.arcs) k a b := by subst hL; exact fun x => mem_labsP hn12
    have hLs : L.Pairwise (· < ·) := by subst hL; exact labs_sorted _
    rw [(hO6.rep hL64).any.len]
    have hz5 := hC5.size
    refine ⟨IN L.length fun j w' => Chg w6 w' (oB r) ∧ ∃ D, OwnL w' w2.heap.size T.t_int r D ∧ DistS (arcE p.arcs) n a k (L.take j) D ∧ (∀ ha : a < D.length, 1 ≤ k → D[a] = 0), MN L.length, IN_zero ⟨Chg.refl _ _, D, hO5.ext hE6, by simpa using hD, hDz⟩, ?_⟩
    rintro _ w7 ⟨j, rfl, hj, hC7, D7, hO7, hD7, hDz7⟩
    intros
    refine cond_dec (fun hlt2 => ?_) (fun hge2 => ?_)
    · have hj' : j < L.length := by omega
      have hRu : R w7 u L := ((hO6.rep hL64).chg hC7 fun b hb _ hDD => by
        have h1 := (hO3.blk _ hDD).2
        have h2 : w5.heap.size ≤ b := hb
        omega).any
      refine hRu.ixI hj' fun q2 _ hc2 => LD_int hc2 ?_
      obtain ⟨b, hb, hbn, hbw⟩ := (hLm L[j]).1 (List.getElem_mem hj')
      rw [hb]
      have hbl : b < D7.length := by rw [hD7.len]; exact hbn
      have htake : L.take (j + 1) = L.take j ++ [(b : Int)] := by rw [List.take_succ_eq_append_getElem hj', hb]
      have hR7 := (hO7.rep (hD7.I64 (by omega))).any
      refine hR7.ixI hbl fun q3 _ hc3 => LD_int hc3 ?_
      refine cond_dec (fun hneg => ?_) (fun hnn => ?_)
      · refine IX_own hO7 hbl rfl fun q4 hq4 => ?_
        refine ST_own hO7 hbl hq4 (k : Int) rfl fun w8 hO8 hs8 => ?_
        refine IN_next (by omega) hj' ⟨hC7.trans (.of_step hs8 fun k hk => hk), D7.set b k, hO8, ⟨by rw [List.length_set]; exact hD7.len, fun c hc => ?_, fun c hc i hi hw => ?_, fun c hc hm => ?_, fun hc => ?_⟩, fun hc h1 => ?_⟩
        · rw [List.getElem_set]
          by_cases he : b = c
          · subst he; rw [if_pos rfl]; exact .inr ⟨k, by omega, rfl, hbw⟩
          · rw [if_neg he]; exact hD7.val c (by rw [List.length_set] at hc; exact hc)
        · rw [List.getElem_set]
          by_cases he : b = c
          · subst he; rw [if_pos rfl]; omega
          · rw [if_neg he]; exact hD7.low c (by rw [List.length_set] at hc; exact hc) i hi hw
        · rw [List.getElem_set]
          by_cases he : b = c
          · subst he; rw [if_pos rfl]; omega
          · rw [if_neg he]
            rw [htake] at hm
            refine hD7.cur c (by rw [List.length_set] at hc; exact hc) ?_
            rcases List.mem_append.1 hm with hm | hm
            · exact hm
            · exact absurd (by have := List.mem_singleton.1 hm; omega) he
        · rw [List.getElem_set]
          by_cases he : b = a
          · rw [if_pos he]
            subst he
            by_cases hk0 : k = 0
            · subst hk0; exact .inr rfl
            · have := hD7.low b hbl 0 (by omega) rfl
              omega
          · rw [if_neg he]; exact hD7.zero (by rw [List.length_set] at hc; exact hc)
        · rw [List.getElem_set]
          by_cases he : b = a
          · subst he
            have := hD7.low b hbl 0 (by omega) rfl
            omega
          · rw [if_neg he]; exact hDz7 (by rw [List.length_set] at hc; exact hc) h1
      · refine IN_next (by omega) hj' ⟨hC7, D7, hO7, ⟨hD7.len, hD7.val, hD7.low, fun c hc hm => ?_, hD7.zero⟩, hDz7⟩
        rw [htake] at hm
        rcases List.mem_append.1 hm with hm | hm
        · exact hD7.cur c hc hm
        · have : c = b := by have := List.mem_singleton.1 hm; omega
          subst this
          omega
    · have : j = L.length := by omega
      subst this
      rw [List.take_length] at hD7
      refine IN_next (by omega) hk' ⟨(hC5.trans (.of_ext hE6)).trans hC7, D7, hO7, ⟨hD7.len, hD7.val, fun c hc i hi hw => ?_, fun c hc hm => by simp at hm, hD7.zero⟩, fun hc _ => ?_⟩
      · by_cases hik : i = k
        · subst hik
          exact hD7.cur c hc ((hLm c).2 ⟨c, rfl, by rw [hD7.len] at hc; exact hc, hw⟩)
        · exact hD7.low c hc i (by omega) hw
      · by_cases hk1 : 1 ≤ k
        · exact hDz7 hc hk1
        · have : k = 0 := by omega
          subst this
          have h1 := hD7.cur a hc ((hLm a).2 ⟨a, rfl, ha, rfl⟩)
          rcases hD7.zero hc with h2 | h2
          · omega
          · exact h2
  · have : k = n + 1 := by omega
    subst this
    refine ⟨hext hC5, D, hO5.low (by omega), hD.len, hD.val, fun b hb hex => ?_, fun hh => hDz hh (by omega)⟩
    obtain ⟨j, hw⟩ := hex
    rcases Nat.eq_zero_or_pos j with rfl | hj
    · exact hD.low b hb 0 (by omega) hw
    · obtain ⟨j', _, h3, h4⟩ := hw.short hrel hj
      exact hD.low b hb j' (by omega) h4

/-! ### The greatest common divisor -/

theorem gcd_list {w : World} {s : Sl} {l : List Nat} (h : R w s (l.map fun x : Nat => (x : Int))) :
    Calls Tryz.prog F.i_gcd #[s.v] w (Ret [.at (.int .i64)] fun (x : Int) w' => Ext w w' ∧ x = ((l.foldl Nat.gcd 0 : Nat) : Int)) := by
  refine C_i_gcd ?_
  unfold V_i_gcd
  have hle : l.length ≤ 9223372036854775807 := by have := h.le; rwa [List.length_map] at this
  rw [h.len, List.length_map]
  refine ⟨IN2 l.length fun i (d : Int) w' => Ext w w' ∧ d = (((l.take i).foldl Nat.gcd 0 : Nat) : Int), MN2 l.length, IN2_zero ⟨Ext.refl _, rfl⟩, ?_⟩
  rintro _ _ w1 ⟨i, rfl, hi, hE1, rfl⟩
  intros
  refine cond_dec (fun hlt => ?_) (fun hge => ?_)
  · have hi' : i < l.length := by omega
    have hil : i < (l.map fun x : Nat => (x : Int)).length := by rw [List.length_map]; exact hi'
    refine (h.ext hE1).ixI hil fun q _ hc => LD_int hc ?_
    rw [List.getElem_map]
    have hf : (l.take (i + 1)).foldl Nat.gcd 0 = Nat.gcd ((l.take i).foldl Nat.gcd 0) l[i] := by
      rw [List.take_succ_eq_append_getElem hi', List.foldl_append]; rfl
    generalize hG : (l.take (i + 1)).foldl Nat.gcd 0 = G at hf
    refine ⟨fun (d n : Int) w' => Ext w1 w' ∧ ∃ u v : Nat, d = u ∧ n = v ∧ Nat.gcd u v = G, fun _ n _ => n.toNat, ⟨Ext.refl _, _, _, rfl, rfl, hf.symm⟩, ?_⟩
    rintro _ _ w2 ⟨hE2, u, v, rfl, rfl, hG2⟩
    intros
    refine cond_ne (fun hne => ⟨hne, fun w3 hE3 => ?_⟩) (fun heq => ?_)
    · have hv : 0 < v := by omega
      have e : Int.tmod (u : Int) (v : Int) = ((u % v : Nat) : Int) := by rw [Int.tmod_eq_emod_of_nonneg (by omega)]; rfl
      rw [e]
      have hm := Nat.mod_lt u hv
      refine ⟨⟨hE2.trans hE3, v, u % v, rfl, rfl, ?_⟩, by simp only [Int.toNat_natCast]; exact hm⟩
      rw [← hG2, Nat.gcd_comm u v, Nat.gcd_rec v u, Nat.gcd_comm]
    · have hv : v = 0 := by have : (v : Int) = 0 := heq; omega
      subst hv
      rw [Nat.gcd_zero_right] at hG2
      subst hG2
      exact IN2_next hle hi' ⟨hE1.trans hE2, by rw [hG]⟩
  · have : i = l.length := by omega
    subst this
    exact ⟨hE1, by rw [List.take_length]⟩

theorem gcd_ok {w : World} {s : Sl} {a b : Nat} (h : R w s [(a : Int), (b : Int)]) :
    Calls Tryz.prog F.i_gcd #[s.v] w (Ret [.at (.int .i64)] fun (x : Int) w' => Ext w w' ∧ x = (Nat.gcd a b : Nat)) := by
  refine call (gcd_list (l := [a, b]) h) ?_
  rintro x w' ⟨hE, rfl⟩
  exact ⟨hE, by simp⟩

/-! ### The period -/

theorem DistOk.pot {E : Nat → Nat → Prop} {n a : Nat} {D : List Int} (h : DistOk E n a D) (ha : a < n) (hE : ∀ x y, E x y → y < n) : D.getD a 0 = 0 ∧ ∀ b, Comp E a b → ∃ k : Nat, D.getD b 0 = k ∧ Wk E k a b := by
  have hal : a < D.length := by rw [h.len]; exact ha
  refine ⟨by rw [List.getD_eq_getElem?_getD, List.getElem?_eq_getElem hal, Option.getD_some]; exact h.zero hal, fun b hb => ?_⟩
  have hbn : b < n := by
    obtain ⟨k, hw⟩ := hb.1
    rcases Nat.eq_zero_or_pos k with rfl | hk
    · cases hw; exact ha
    · exact hw.lt hE hk
  have hbl : b < D.length := by rw [h.len]; exact hbn
  rw [List.getD_eq_getElem?_getD, List.getElem?_eq_getElem hbl, Option.getD_some]
  rcases h.val b hbl with he | ⟨k, _, he, hw⟩
  · have := h.all b hbl hb.1; omega
  · exact ⟨k, he, hw⟩

/-- A number whose divisors are those of some steps, and one step more. -/
theorem div_step {S : Nat → Nat → Prop} {P u v : Nat} {d : Nat → Int} (hP : ∀ g : Nat, g ∣ P ↔ ∀ x y, S x y → (g : Int) ∣ d x + 1 - d y) : ∀ g : Nat, g ∣ Nat.gcd P (d u + 1 - d v).natAbs ↔ ∀ x y, (S x y ∨ (x = u ∧ y = v)) → (g : Int) ∣ d x + 1 - d y := fun g => by
  rw [Nat.dvd_gcd_iff, hP g]
  constructor
  · rintro ⟨h1, h2⟩ x y (h | ⟨rfl, rfl⟩)
    · exact h1 x y h
    · exact Int.natAbs_dvd_natAbs.1 (by rw [Int.natAbs_natCast]; exact h2)
  · intro h
    exact ⟨fun x y hs => h x y (.inl hs), by have := Int.natAbs_dvd_natAbs.2 (h u v (.inr ⟨rfl, rfl⟩)); rwa [Int.natAbs_natCast] at this⟩

theorem gcd_bound {P x N : Nat} (hP : P ≤ N) (hx : x ≤ N) : Nat.gcd P x ≤ N := by
  rcases Nat.eq_zero_or_pos P with rfl | h
  · rw [Nat.gcd_zero_left]; exact hx
  · exact Nat.le_trans (Nat.gcd_le_left x h) hP

theorem abs_max {x : Int} : (if x < 0 - x then 0 - x else x) = (x.natAbs : Int) := by split <;> omega

theorem periodOf_ok {w : World} {s t : Sl} {p : WPr} {r : Nat} {C : List Int} (h : RWk w s p) (hg : WGood p) (hC : R w t C) (h0 : 0 < C.length) (hr : C[0] = (r : Int)) (hrn : r < p.labels.toNat) (hm : ∀ b : Nat, (b : Int) ∈ C ↔ b < p.labels.toNat ∧ Comp (arcE p.arcs) r b) :
    Calls Tryz.prog F.i_WalkProblem_periodOf #[.agg #[.int .i64 p.labels, s.v], t.v] w (Ret [.at (.int .i64)] fun (x : Int) w' => Ext w w' ∧ ∃ P : Nat, x = P ∧ P ≤ 100 ∧ ∀ g : Nat, g ∣ P ↔ PerDiv (arcE p.arcs) r g) := by
  refine C_i_WalkProblem_periodOf ?_
  unfold V_i_WalkProblem_periodOf
  refine NEW_intro fun pp w1 hp1 hs1 hE1 hb1 => ?_
  intro w2 hE2 _
  have hE12 := hE1.trans hE2
  have hl := hg.lab
  have hrel : ∀ x y, arcE p.arcs x y → y < p.labels.toNat := fun x y hxy => (hg.rel hxy).2
  generalize hEe : arcE p.arcs = E at *
  have hb2 := hb1.ext hE2
  refine LD_is hb2 ⟨Ext.refl _, ?_⟩
  refine (hC.ext hE12).ixI (i := 0) h0 fun q _ hc => ⟨Ext.refl _, LD_int hc ⟨Ext.refl _, ?_⟩⟩
  rw [hr]
  refine call (distancesIn_ok (h.ext hE12) hg hrn) ?_
  rintro u w3 ⟨hE3, D, hO3, hD⟩
  rw [hEe] at hD
  obtain ⟨hz, hpot⟩ := hD.pot hrn hrel
  have hD64 := hD.I64 (by omega)
  have hE13 := hE12.trans hE3
  have hRD : R w3 u D := (hO3.rep fun x hx => by have := hD64 x hx; show I64 x; unfold GX.I64; omega).any
  refine LD_bs1 (hb2.ext hE3) ?_
  rw [h.arcs.len]
  have hdl := hD.len
  let d : Nat → Int := fun b => D.getD b 0
  have hdb : ∀ b, b < D.length → -1 ≤ d b ∧ d b ≤ p.labels.toNat ∧ D[b]? = some (d b) := fun b hb => by
    have e : d b = D[b] := by show D.getD b 0 = _; rw [List.getD_eq_getElem?_getD, List.getElem?_eq_getElem hb]; rfl
    rw [e]
    have := hD64 _ (List.getElem_mem hb)
    exact ⟨this.1, this.2, List.getElem?_eq_getElem hb⟩
  refine ⟨IN2 p.arcs.length fun i (x : Int) w' => Ext w3 w' ∧ ∃ P : Nat, x = P ∧ P ≤ 100 ∧ ∀ g : Nat, g ∣ P ↔ ∀ a b, (arcE (p.arcs.take i) a b ∧ Comp E r a ∧ Comp E r b) → (g : Int) ∣ d a + 1 - d b, MN2 p.arcs.length, IN2_zero ⟨Ext.refl _, 0, rfl, by omega, fun g => by simp [arcE]⟩, ?_⟩
  rintro _ _ w4 ⟨i, rfl, hi, hE4, P, rfl, hP100, hP⟩
  intros
  refine cond_dec (fun hlt => ?_) (fun hge => ?_)
  · have hi' : i < p.arcs.length := by omega
    refine (h.arcs.ext (hE13.trans hE4)).ixL hi' fun q2 row hrow hcr => LD_sl hcr ?_
    obtain ⟨a, b, he, ha, hb⟩ := hg.arc (List.getElem_mem hi')
    rw [he] at hrow
    have hCx := hC.ext (hE13.trans hE4)
    have hstep : ∀ x y, arcE (p.arcs.take (i + 1)) x y ↔ arcE (p.arcs.take i) x y ∨ (x = a ∧ y = b) := fun x y => by
      unfold arcE
      rw [List.take_succ_eq_append_getElem hi', he, List.mem_append, List.mem_singleton]
      simp only [List.cons.injEq, and_true, Int.natCast_inj]
    refine hrow.any.ixI (i := 0) (by simp) fun q3 _ hc3 => LD_int hc3 ?_
    refine call (contains_ok hCx _) ?_
    rintro _ _ ⟨rfl, rfl⟩
    have skip : ¬ (Comp E r a ∧ Comp E r b) → IN2 p.arcs.length (fun i (x : Int) w' => Ext w3 w' ∧ ∃ P : Nat, x = P ∧ P ≤ 100 ∧ ∀ g : Nat, g ∣ P ↔ ∀ a b, (arcE (p.arcs.take i) a b ∧ Comp E r a ∧ Comp E r b) → (g : Int) ∣ d a + 1 - d b) (P : Int) (IntKind.i64.wrap ((i : Int) + 1)) w4 ∧ MN2 p.arcs.length (P : Int) (IntKind.i64.wrap ((i : Int) + 1)) w4 < MN2 p.arcs.length (P : Int) (i : Int) w4 := fun hno =>
      IN2_next h.arcs.le hi' ⟨hE4, P, rfl, hP100, fun g => (hP g).trans ⟨fun hh x y ⟨h1, h2, h3⟩ => by
        rcases (hstep x y).1 h1 with h4 | ⟨rfl, rfl⟩
        · exact hh x y ⟨h4, h2, h3⟩
        · exact absurd ⟨h2, h3⟩ hno, fun hh x y ⟨h1, h2⟩ => hh x y ⟨(hstep x y).2 (.inl h1), h2⟩⟩⟩
    have hmem : ∀ c : Nat, c < p.labels.toNat → (C.contains (c : Int) = true ↔ Comp E r c) := fun c hcn => by
      rw [List.contains_iff_mem, hm c]
      exact ⟨fun hh => hh.2, fun hh => ⟨hcn, hh⟩⟩
    refine cond_b (fun ht => ?_) (fun hf => skip fun hh => ?_)
    · refine hrow.any.ixI (i := 1) (by simp) fun q4 _ hc4 => LD_int hc4 ?_
      refine call (contains_ok hCx _) ?_
      rintro _ _ ⟨rfl, rfl⟩
      refine cond_b (fun ht2 => ?_) (fun hf => skip fun hh => ?_)
      · have hca := (hmem a ha).1 ht
        have hcb := (hmem b hb).1 ht2
        refine hrow.any.ixI (i := 0) (by simp) fun q5 _ hc5 => LD_int hc5 ?_
        have hal : a < D.length := by rw [hdl]; exact ha
        have hbl : b < D.length := by rw [hdl]; exact hb
        have hRD4 := hRD.ext hE4
        refine hRD4.ixI (i := a) hal fun q6 _ hc6 => LD_int hc6 ?_
        refine hrow.any.ixI (i := 1) (by simp) fun q7 _ hc7 => LD_int hc7 ?_
        refine hRD4.ixI (i := b) hbl fun q8 _ hc8 => LD_int hc8 ?_
        intro w7 hE7
        obtain ⟨a1, a2, a3⟩ := hdb a hal
        obtain ⟨b1, b2, b3⟩ := hdb b hbl
        have ea : D[a] = d a := by rw [List.getElem?_eq_getElem hal] at a3; exact Option.some.inj a3
        have eb : D[b] = d b := by rw [List.getElem?_eq_getElem hbl] at b3; exact Option.some.inj b3
        rw [ea, eb, wrap_of (n := d a + 1) (by omega) (by omega), wrap_of (n := d a + 1 - d b) (by omega) (by omega), wrap_of (n := 0 - (d a + 1 - d b)) (by omega) (by omega)]
        refine RUN_max ?_
        rw [abs_max]
        have hx100 : (d a + 1 - d b).natAbs ≤ 100 := by omega
        refine RUN_lits slt_int [(P : Int), ((d a + 1 - d b).natAbs : Int)] (by simp) (by simp) rfl rfl fun y w9 hE9 hO9 => ?_
        refine call (gcd_ok (hO9.rep (by intro x hx; simp at hx; show I64 x; unfold GX.I64; rcases hx with rfl | rfl <;> omega)).any) ?_
        rintro _ w10 ⟨hE10, rfl⟩
        refine IN2_next h.arcs.le hi' ⟨((hE4.trans hE7).trans hE9).trans hE10, _, rfl, gcd_bound hP100 hx100, fun g => ?_⟩
        rw [div_step hP g]
        constructor
        · intro hh x y ⟨h1, h2, h3⟩
          rcases (hstep x y).1 h1 with h4 | ⟨rfl, rfl⟩
          · exact hh x y (.inl ⟨h4, h2, h3⟩)
          · exact hh x y (.inr ⟨rfl, rfl⟩)
        · rintro hh x y (⟨h1, h2⟩ | ⟨rfl, rfl⟩)
          · exact hh x y ⟨(hstep x y).2 (.inl h1), h2⟩
          · exact hh x y ⟨(hstep x y).2 (.inr ⟨rfl, rfl⟩), hca, hcb⟩
      · have := (hmem b hb).2 hh.2
        exact absurd (this.symm.trans hf) (by simp)
    · have := (hmem a ha).2 hh.1
      exact absurd (this.symm.trans hf) (by simp)
  · have : i = p.arcs.length := by omega
    subst this
    refine ⟨hE13.trans hE4, P, rfl, hP100, fun g => ?_⟩
    rw [hP g, List.take_length, hEe, ← pot_div (d := d) hz hpot g]
    exact ⟨fun hh x y h2 h3 h1 => hh x y ⟨h1, h2, h3⟩, fun hh x y ⟨h1, h2, h3⟩ => hh x y h2 h3 h1⟩

end Go.Proofs.YtaeledhbkdakcaaGreatDoor
end

section
/- Walk problems, the reference: depths within a component. -/
namespace Go.Proofs.YtaeledhbkdakcaaGreatDoor
open Go.GX Go.RowKit
set_option maxRecDepth 100000

theorem waGcd_ok {a b : Nat} (w : World) :
    Calls Tryz.prog F.s_waGcd #[.int .i64 a, .int .i64 b] w (Ret [.at (.int .i64)] fun (x : Int) w' => Ext w w' ∧ x = (Nat.gcd a b : Nat)) := by
  refine C_s_waGcd ?_
  unfold V_s_waGcd
  refine ⟨fun (d n : Int) w' => Ext w w' ∧ ∃ u v : Nat, d = u ∧ n = v ∧ Nat.gcd u v = Nat.gcd a b, fun _ n _ => n.toNat, ⟨Ext.refl _, a, b, rfl, rfl, rfl⟩, ?_⟩
  rintro _ _ w2 ⟨hE2, u, v, rfl, rfl, hG⟩
  intros
  refine cond_dec (fun hpos => ⟨by omega, fun w3 hE3 => ?_⟩) (fun hz => ?_)
  · have hv : 0 < v := by omega
    have e : Int.tmod (u : Int) (v : Int) = ((u % v : Nat) : Int) := by rw [Int.tmod_eq_emod_of_nonneg (by omega)]; rfl
    rw [e]
    have hm := Nat.mod_lt u hv
    refine ⟨⟨hE2.trans hE3, v, u % v, rfl, rfl, ?_⟩, by simp only [Int.toNat_natCast]; exact hm⟩
    rw [← hG, Nat.gcd_comm u v, Nat.gcd_rec v u, Nat.gcd_comm]
  · have hv : v = 0 := by omega
    subst hv
    rw [Nat.gcd_zero_right] at hG
    exact ⟨hE2, by rw [hG]⟩

theorem l1Abs_ok {x : Int} (hx : -1000 ≤ x ∧ x ≤ 1000) (w : World) :
    Calls Tryz.prog F.s_l1Abs #[.int .i64 x] w (Ret [.at (.int .i64)] fun (r : Int) w' => w = w' ∧ r = (x.natAbs : Int)) := by
  refine C_s_l1Abs ?_
  unfold V_s_l1Abs
  rw [wrap_of (by omega) (by omega)]
  refine call (l1Most_ok _ _ _) ?_
  rintro _ _ ⟨rfl, rfl⟩
  refine ⟨rfl, ?_⟩
  unfold most2
  split <;> omega

/-! ### Depths -/

structure DepOk (E : Nat → Nat → Prop) (n a : Nat) (D : List Int) : Prop where
  len : D.length = n
  val : ∀ b (h : b < D.length), D[b] = -1 ∨ ∃ k : Nat, k ≤ n ∧ D[b] = k ∧ Wk E k a b
  all : ∀ b (h : b < D.length), Comp E a b → 0 ≤ D[b]
  zero : ∀ h : a < D.length, D[a] = 0

theorem DepOk.I64 {E : Nat → Nat → Prop} {n a : Nat} {D : List Int} (h : DepOk E n a D) : ∀ x ∈ D, -1 ≤ x ∧ x ≤ n := fun x hx => by
  obtain ⟨b, hb, rfl⟩ := List.mem_iff_getElem.1 hx
  rcases h.val b hb with he | ⟨j, hj, he, _⟩
  · rw [he]; omega
  · rw [he]; omega
theorem DepOk.pot {E : Nat → Nat → Prop} {n a : Nat} {D : List Int} (h : DepOk E n a D) (ha : a < n) (hE : ∀ x y, E x y → y < n) : D.getD a 0 = 0 ∧ ∀ b, Comp E a b → ∃ k : Nat, D.getD b 0 = k ∧ Wk E k a b := by
  have hal : a < D.length := by rw [h.len]; exact ha
  refine ⟨by rw [List.getD_eq_getElem?_getD, List.getElem?_eq_getElem hal, Option.getD_some]; exact h.zero hal, fun b hb => ?_⟩
  have hbn : b < n := by
    obtain ⟨k, hw⟩ := hb.1
    rcases Nat.eq_zero_or_pos k with rfl | hk
    · cases hw; exact ha
    · exact hw.lt hE hk
  have hbl : b < D.length := by rw [h.len]; exact hbn
  rw [List.getD_eq_getElem?_getD, List.getElem?_eq_getElem hbl, Option.getD_some]
  rcases h.val b hbl with he | ⟨k, _, he, hw⟩
  · have := h.all b hbl hb; omega
  · exact ⟨k, he, hw⟩

/-- How many labels have a depth. -/
def cntN (D : List Int) : Nat := (D.filter fun x => decide (0 ≤ x)).length
theorem cntN_le (D : List Int) : cntN D ≤ D.length := List.length_filter_le _ _
theorem cntN_set : ∀ {D : List Int} {v : Nat} {k : Int} (hv : v < D.length), D[v] < 0 → 0 ≤ k → cntN (D.set v k) = cntN D + 1
  | x :: D, 0, k, _, h1, h2 => by
    have h1' : ¬ 0 ≤ x := by have : x < 0 := h1; omega
    simp [cntN, h1', h2]
  | x :: D, v + 1, k, hv, h1, h2 => by
    have ih := cntN_set (D := D) (v := v) (k := k) (by simpa using hv) (by simpa using h1) h2
    unfold cntN at ih ⊢
    rw [List.set_cons_succ, List.filter_cons, List.filter_cons]
    split
    · rw [List.length_cons, List.length_cons, ih]
    · exact ih

structure DepV (E : Nat → Nat → Prop) (n a : Nat) (D : List Int) : Prop where
  len : D.length = n
  val : ∀ b (h : b < D.length), D[b] = -1 ∨ ∃ k : Nat, k < cntN D ∧ D[b] = k ∧ Wk E k a b
  zero : ∀ h : a < D.length, D[a] = 0
theorem DepV.I64 {E : Nat → Nat → Prop} {n a : Nat} {D : List Int} (h : DepV E n a D) (hn : n ≤ 1000) : ∀ x ∈ D, I64 x := fun x hx => by
  obtain ⟨b, hb, rfl⟩ := List.mem_iff_getElem.1 hx
  have hc := cntN_le D
  have hl := h.len
  rcases h.val b hb with he | ⟨j, hj, he, _⟩
  · rw [he]; unfold GX.I64; omega
  · rw [he]; unfold GX.I64; omega
/-- The arcs of a list lead from depths to depths. -/
def DepCl (A : List (List Int)) (C D : List Int) : Prop := ∀ u v : Nat, arcE A u v → (v : Int) ∈ C → ∀ (hu : u < D.length) (hv : v < D.length), 0 ≤ D[u] → 0 ≤ D[v]

theorem DepV.step {E : Nat → Nat → Prop} {n a u v : Nat} {D : List Int} (h : DepV E n a D) (hu : u < D.length) (hv : v < D.length) (h0 : 0 ≤ D[u]) (hneg : D[v] < 0) (he : E u v) : DepV E n a (D.set v (D[u] + 1)) ∧ cntN (D.set v (D[u] + 1)) = cntN D + 1 := by
  have hc := cntN_set hv hneg (k := D[u] + 1) (by omega)
  refine ⟨⟨by rw [List.length_set]; exact h.len, fun b hb => ?_, fun hh => ?_⟩, hc⟩
  · rw [List.getElem_set, hc]
    by_cases hbv : v = b
    · subst hbv
      rw [if_pos rfl]
      rcases h.val u hu with h1 | ⟨k, hk, h1, hw⟩
      · omega
      · exact .inr ⟨k + 1, by omega, by rw [h1]; push_cast; rfl, u, hw, he⟩
    · rw [if_neg hbv]
      rcases h.val b (by rw [List.length_set] at hb; exact hb) with h1 | ⟨k, hk, h1, hw⟩
      · exact .inl h1
      · exact .inr ⟨k, by omega, h1, hw⟩
  · rw [List.getElem_set]
    by_cases hav : v = a
    · subst hav
      have := h.zero hv
      omega
    · rw [if_neg hav]; exact h.zero (by rw [List.length_set] at hh; exact hh)

theorem leastD_of {p : Nat → Prop} : ∀ n, p n → ∃ m, p m ∧ ∀ k, p k → m ≤ k := by
  intro n
  induction n using Nat.strongRecOn with
  | ind n ih =>
    intro hn
    by_cases h : ∃ k, k < n ∧ p k
    · obtain ⟨k, hk, hp⟩ := h
      exact ih k hk hp
    · refine ⟨n, hn, fun k hk => ?_⟩
      by_cases hlt : k < n
      · exact absurd ⟨k, hlt, hk⟩ h
      · omega
/-- A measure of what a loop keeps besides its variables. -/
theorem ghostD {σ α : Type} (J : σ → α → World → Prop) (t : σ → Nat) : ∃ m : α → World → Nat, (∀ x w, (∃ s, J s x w) → ∃ s, J s x w ∧ t s = m x w) ∧ ∀ s x w, J s x w → m x w ≤ t s := by
  have key : ∀ x w, ∃ m : Nat, ((∃ s, J s x w) → ∃ s, J s x w ∧ t s = m) ∧ ∀ s, J s x w → m ≤ t s := by
    intro x w
    by_cases h : ∃ s, J s x w
    · obtain ⟨s, hs⟩ := h
      obtain ⟨m, ⟨s', h1, h2⟩, h3⟩ := leastD_of (p := fun n => ∃ s, J s x w ∧ t s = n) (t s) ⟨s, hs, rfl⟩
      exact ⟨m, fun _ => ⟨s', h1, h2⟩, fun s hs => h3 _ ⟨s, hs, rfl⟩⟩
    · exact ⟨0, fun h' => absurd h' h, fun s hs => absurd ⟨s, hs⟩ h⟩
  refine ⟨fun x w => Classical.choose (key x w), fun x w h => (Classical.choose_spec (key x w)).1 h, fun s x w h => (Classical.choose_spec (key x w)).2 s h⟩

theorem DepCl.all {p : WPr} {n r : Nat} {C D : List Int} (hg : WGood p) (hn : p.labels.toNat = n) (hm : ∀ b : Nat, (b : Int) ∈ C ↔ b < n ∧ Comp (arcE p.arcs) r b) (hl : D.length = n) (h0 : ∀ h : r < D.length, D[r] = 0) (hcl : DepCl p.arcs C D) : ∀ b (h : b < D.length), Comp (arcE p.arcs) r b → 0 ≤ D[b] := by
  have go : ∀ k b, Wk (arcE p.arcs) k r b → Comp (arcE p.arcs) r b → ∀ h : b < D.length, 0 ≤ D[b] := by
    intro k
    induction k with
    | zero => intro b hw _ h; cases hw; rw [h0 h]; omega
    | succ k ih =>
      rintro b ⟨c, hw, he⟩ hc h
      have hcc : Comp (arcE p.arcs) r c := by
        obtain ⟨_, j, q⟩ := hc
        exact ⟨⟨k, hw⟩, _, (Wk.one he).cat q⟩
      have hr2 := hg.rel he
      have hcl2 : c < D.length := by omega
      exact hcl c b he ((hm b).2 ⟨by omega, hc⟩) hcl2 h (ih c hw hcc hcl2)
  intro b h hc
  obtain ⟨⟨k, hw⟩, _⟩ := id hc
  exact go k b hw hc h

theorem waDepths_ok {w : World} {s t : Sl} {p : WPr} {r : Nat} {C : List Int} (h : RWk w s p) (hg : WGood p) (hC : R w t C) (h0 : 0 < C.length) (hr : C[0] = (r : Int)) (hrn : r < p.labels.toNat) (hm : ∀ b : Nat, (b : Int) ∈ C ↔ b < p.labels.toNat ∧ Comp (arcE p.arcs) r b) :
    Calls Tryz.prog F.s_waDepths #[.agg #[.int .i64 p.labels, s.v], t.v] w (Ret [.at .sl] fun (u : Sl) w' => Ext w w' ∧ ∃ D, OwnL w' w.heap.size T.t_int u D ∧ DepOk (arcE p.arcs) p.labels.toNat r D) := by
  refine C_s_waDepths ?_
  unfold V_s_waDepths
  refine NEW_intro fun pp w1 hp1 hs1 hE1 hb1 => LD_bi0 hb1 ?_
  have hl := hg.lab
  have hz1 := hE1.size_le
  obtain ⟨n, hn⟩ : ∃ n : Nat, p.labels = n := ⟨p.labels.toNat, by omega⟩
  have hnt : p.labels.toNat = n := by omega
  have hn12 : n ≤ 12 := by omega
  rw [hnt] at hrn hm ⊢
  have hrun : ∀ {K : Sl → World → Prop}, RUN Tryz.prog (.at .sl) (Instr.makeSlice T.t_sl_int (.int .i64 (n : Int)) (.int .i64 (n : Int))) w1 K → RUN Tryz.prog (.at .sl) (Instr.makeSlice T.t_sl_int (.int .i64 p.labels) (.int .i64 p.labels)) w1 K := fun hk => by rw [hn]; exact hk
  refine hrun ?_
  refine RUN_make (α := Int) slt_int (d := 0) rfl (by omega) (by unfold maxLen; omega) fun u w2 hE2 hO2 => ?_
  have hz2 := hE2.size_le
  have hE12 := hE1.trans hE2
  have hul : u.len = n := by have := hO2.1; rw [List.length_replicate] at this; exact this
  have hub : ∀ k, oB u k → w1.heap.size ≤ k ∧ k < w2.heap.size := fun k hk => hO2.blk k hk
  have hext : ∀ {w' : World}, Chg w2 w' (oB u) → Ext w w' := fun hC => hC.ext0 hE12 fun k hk => by have := (hub k hk).1; omega
  have hbox : ∀ {w' : World}, Chg w2 w' (oB u) → Box w' pp T.t_i_WalkProblem [.int .i64 p.labels, s.v] := fun hC => (hb1.ext hE2).chg hC fun hh => by have := (hub _ hh).1; have := hb1.lt; omega
  rw [hul]
  refine ⟨IN n fun i w' => Chg w2 w' (oB u) ∧ OwnL w' w1.heap.size T.t_int u (List.replicate i (-1) ++ List.replicate (n - i) 0), MN n, IN_zero ⟨Chg.refl _ _, by simpa using hO2⟩, ?_⟩
  rintro _ w3 ⟨i, rfl, hi, hC3, hO3⟩
  intros
  refine cond_dec (fun hlt => ?_) (fun hge => ?_)
  · have hi' : i < n := by omega
    have hil : i < (List.replicate i (-1 : Int) ++ List.replicate (n - i) 0).length := by simp; omega
    refine IX_own hO3 hil rfl fun q hq => ?_
    refine ST_own hO3 hil hq (-1) rfl fun w4 hO4 hs4 => ?_
    refine IN_next (by omega) hi' ⟨hC3.trans (.of_step hs4 fun k hk => hk), ?_⟩
    have e : (List.replicate i (-1 : Int) ++ List.replicate (n - i) 0).set i (-1) = List.replicate (i + 1) (-1) ++ List.replicate (n - (i + 1)) 0 := by
      rw [List.set_append_right _ _ (by simp)]
      obtain ⟨d, hd⟩ : ∃ d, n - i = d + 1 := ⟨n - i - 1, by omega⟩
      have hd2 : n - (i + 1) = d := by omega
      rw [hd, hd2, List.length_replicate, Nat.sub_self, List.replicate_succ, List.set_cons_zero, List.replicate_succ' (n := i), List.append_assoc]
      rfl
    rw [e] at hO4
    exact hO4
  · have : i = n := by omega
    subst this
    have hO3' : OwnL w3 w1.heap.size T.t_int u (List.replicate i (-1)) := by simpa using hO3
    refine (hC.ext (hext hC3)).ixI (i := 0) h0 fun q _ hc => LD_int hc ?_
    rw [hr]
    have hrl : r < (List.replicate i (-1 : Int)).length := by simpa using hrn
    refine IX_own hO3' hrl rfl fun q2 hq2 => ?_
    refine ST_own hO3' hrl hq2 (0 : Int) rfl fun w5 hO5 hs5 => ?_
    have hC5 : Chg w2 w5 (oB u) := hC3.trans (.of_step hs5 fun k hk => hk)
    have hV0 : DepV (arcE p.arcs) i r ((List.replicate i (-1 : Int)).set r 0) := by
      refine ⟨by simp, fun b hb => ?_, fun hh => by simp⟩
      rw [List.getElem_set]
      by_cases he : r = b
      · subst he
        rw [if_pos rfl, cntN_set hrl (by simp) (by omega)]
        exact .inr ⟨0, by omega, rfl, rfl⟩
      · rw [if_neg he]; exact .inl (by simp)
    obtain ⟨m9, hm1, hm2⟩ := ghostD (fun (db : List Int × Bool) (x : Bool) (w' : World) => x = db.2 ∧ Chg w2 w' (oB u) ∧ OwnL w' w1.heap.size T.t_int u db.1 ∧ DepV (arcE p.arcs) i r db.1 ∧ (db.2 = false → DepCl p.arcs C db.1)) (fun db => if db.2 then 1 + (i - cntN db.1) else 0)
    refine ⟨fun x w' => ∃ db : List Int × Bool, x = db.2 ∧ Chg w2 w' (oB u) ∧ OwnL w' w1.heap.size T.t_int u db.1 ∧ DepV (arcE p.arcs) i r db.1 ∧ (db.2 = false → DepCl p.arcs C db.1), m9, ⟨(_, true), rfl, hC5, hO5, hV0, fun h => by cases h⟩, ?_⟩
    rintro ag w6 hJ
    intros
    obtain ⟨⟨D, b⟩, ⟨hb, hC6, hO6, hV6, hcl6⟩, ht⟩ := hm1 _ _ hJ
    simp only at hb hO6 hV6 hcl6 ht
    subst hb
    cases ag with
    | false =>
      refine cond_f rfl ?_
      have hcn := cntN_le D
      refine ⟨hext hC6, D, hO6.low hz1, hV6.len, fun b hb => ?_, DepCl.all hg hnt hm hV6.len hV6.zero (hcl6 rfl), hV6.zero⟩
      rcases hV6.val b hb with h1 | ⟨k, hk, h1, hw⟩
      · exact .inl h1
      · exact .inr ⟨k, by have := hV6.len; omega, h1, hw⟩
    | true =>
      refine cond_t rfl ?_
      refine LD_bs1 (hbox hC6) ?_
      rw [h.arcs.len]
      refine ⟨IN2 p.arcs.length fun j (x : Bool) w' => Chg w2 w' (oB u) ∧ ∃ D2, OwnL w' w1.heap.size T.t_int u D2 ∧ DepV (arcE p.arcs) i r D2 ∧ cntN D ≤ cntN D2 ∧ (x = true → cntN D < cntN D2) ∧ (x = false → DepCl (p.arcs.take j) C D2), MN2 p.arcs.length, IN2_zero ⟨hC6, D, hO6, hV6, Nat.le_refl _, (fun h => by cases h), fun _ u v he => by simp [arcE] at he⟩, ?_⟩
      rintro x7 _ w7 ⟨j, rfl, hj, hC7, D2, hO7, hV7, hc7, ht7, hf7⟩
      intros
      have hD64 := hV7.I64 (by omega)
      refine cond_dec (fun hlt2 => ?_) (fun hge2 => ?_)
      · have hj' : j < p.arcs.length := by omega
        have hR7 := (hO7.rep hD64).any
        have hdl := hV7.len
        refine (h.arcs.ext (hext hC7)).ixL hj' fun q3 row hrow hc3 => LD_sl hc3 ?_
        obtain ⟨x, y, he, hx, hy⟩ := hg.arc (List.getElem_mem hj')
        rw [hnt] at hx hy
        rw [he] at hrow
        have hstep : ∀ c d, arcE (p.arcs.take (j + 1)) c d ↔ arcE (p.arcs.take j) c d ∨ (c = x ∧ d = y) := fun c d => by
          unfold arcE
          rw [List.take_succ_eq_append_getElem hj', he, List.mem_append, List.mem_singleton]
          simp only [List.cons.injEq, and_true, Int.natCast_inj]
        have hxl : x < D2.length := by omega
        have hyl : y < D2.length := by omega
        have skip : (0 ≤ D2[x] → (y : Int) ∈ C → 0 ≤ D2[y]) → ∀ {w' : World}, w' = w7 → IN2 p.arcs.length (fun j (x : Bool) w' => Chg w2 w' (oB u) ∧ ∃ D2, OwnL w' w1.heap.size T.t_int u D2 ∧ DepV (arcE p.arcs) i r D2 ∧ cntN D ≤ cntN D2 ∧ (x = true → cntN D < cntN D2) ∧ (x = false → DepCl (p.arcs.take j) C D2)) x7 (IntKind.i64.wrap ((j : Int) + 1)) w' ∧ MN2 p.arcs.length x7 (IntKind.i64.wrap ((j : Int) + 1)) w' < MN2 p.arcs.length x7 (j : Int) w7 := fun hs {w'} hw => by
          subst hw
          refine IN2_next h.arcs.le hj' ⟨hC7, D2, hO7, hV7, hc7, ht7, fun hx7 c d hcd hd hcl hdl h0c => ?_⟩
          rcases (hstep c d).1 hcd with h1 | ⟨rfl, rfl⟩
          · exact hf7 hx7 c d h1 hd hcl hdl h0c
          · exact hs h0c hd
        refine hrow.any.ixI (i := 0) (by simp) fun q4 _ hc4 => LD_int hc4 ?_
        refine hR7.ixI (i := x) hxl fun q5 _ hc5 => LD_int hc5 ?_
        unfold V_s_waDepths_k7
        refine cond_dec (fun hge0 => ?_) (fun hneg => skip (fun h1 => absurd h1 hneg) rfl)
        refine hrow.any.ixI (i := 1) (by simp) fun q6 _ hc6 => LD_int hc6 ?_
        refine hR7.ixI (i := y) hyl fun q7 _ hc7' => LD_int hc7' ?_
        refine cond_dec (fun hylt => ?_) (fun hyge => skip (fun _ _ => by omega) rfl)
        refine hrow.any.ixI (i := 1) (by simp) fun q8 _ hc8 => LD_int hc8 ?_
        refine call (l1Has_ok (hC.ext (hext hC7)) _) ?_
        rintro _ _ ⟨rfl, rfl⟩
        refine cond_b (fun hmem => ?_) (fun hnm => skip (fun _ hh => by have := List.contains_iff_mem.2 hh; rw [show C.contains (y : Int) = false from hnm] at this; cases this) rfl)
        intro w9 hE9 _
        have hO9 := hO7.ext hE9
        have hR9 := hR7.ext hE9
        have hrow9 := hrow.any.ext hE9
        refine ⟨fun _ => False, ?_⟩
        refine hrow9.ixI (i := 1) (by simp) fun q9 _ hc9 => ⟨not_false, LD_int hc9 ⟨Chg.refl _ _, ?_⟩⟩
        refine hrow9.ixI (i := 0) (by simp) fun q10 _ hc10 => ⟨Chg.refl _ _, LD_int hc10 ⟨Chg.refl _ _, ?_⟩⟩
        refine hR9.ixI (i := x) hxl fun q11 _ hc11 => ⟨Chg.refl _ _, LD_int hc11 ⟨Chg.refl _ _, Chg.refl _ _, ?_⟩⟩
        have hcn := cntN_le D2
        have hbnd : D2[x] ≤ 1000 := by
          rcases hV7.val x hxl with h1 | ⟨k, hk, h1, _⟩
          · omega
          · omega
        have hge1 : (0 : Int) ≤ D2[x] := hge0
        rw [wrap_of (n := D2[x] + 1) (by omega) (by omega)]
        refine IX_own hO9 hyl rfl fun q12 hq12 => ?_
        refine ST_own hO9 hyl hq12 (D2[x] + 1) rfl fun w10 hO10 hs10 => ?_
        obtain ⟨hV10, hc10'⟩ := hV7.step hxl hyl hge1 hylt (show arcE p.arcs x y from by unfold arcE; rw [← he]; exact List.getElem_mem hj')
        exact IN2_next h.arcs.le hj' ⟨(hC7.trans (.of_ext hE9)).trans (.of_step hs10 fun k hk => hk), _, hO10, hV10, by omega, fun _ => by omega, fun hh => by cases hh⟩
      · have : j = p.arcs.length := by omega
        subst this
        rw [List.take_length] at hf7
        refine ⟨⟨(D2, x7), rfl, hC7, hO7, hV7, hf7⟩, ?_⟩
        have hle := hm2 (D2, x7) x7 w7 ⟨rfl, hC7, hO7, hV7, hf7⟩
        rw [if_pos rfl] at ht
        have hcn := cntN_le D2
        have hdl := hV7.len
        cases x7 with
        | false =>
          have : m9 false w7 ≤ 0 := hle
          omega
        | true =>
          have h1 : m9 true w7 ≤ 1 + (i - cntN D2) := hle
          have h2 := ht7 rfl
          omega

end Go.Proofs.YtaeledhbkdakcaaGreatDoor
end

section
/- Walk problems, the program: components, flexible labels. -/
namespace Go.Proofs.YtaeledhbkdakcaaGreatDoor
open Go.GX Go.RowKit
set_option maxRecDepth 100000

theorem setOf_ok {w : World} {s : Sl} {L : List Int} {n : Nat} (h : R w s L) (hn : n ≤ 12) (hL : ∀ x ∈ L, ∃ a : Nat, x = a ∧ a < n) :
    Calls Tryz.prog F.i_setOf #[s.v] w (Ret [.at (.int .i64)] fun (x : Int) w' => w = w' ∧ x = ((maskP n (fun a : Nat => (a : Int) ∈ L) : Nat) : Int)) := by
  refine C_i_setOf ?_
  unfold V_i_setOf
  rw [h.len]
  refine ⟨IN2 L.length fun i (x : Int) w' => w = w' ∧ x = ((maskP n (fun a : Nat => (a : Int) ∈ L.take i) : Nat) : Int), MN2 L.length, IN2_zero ⟨rfl, by rw [maskP_none (fun a _ => by simp)]; rfl⟩, ?_⟩
  rintro _ _ _ ⟨i, rfl, hi, rfl, rfl⟩
  intros
  refine cond_dec (fun hlt => ?_) (fun hge => ?_)
  · have hi' : i < L.length := by omega
    refine h.ixI hi' fun q _ hc => LD_int hc ?_
    obtain ⟨a, ha, han⟩ := hL _ (List.getElem_mem hi')
    rw [ha]
    refine ⟨by omega, ?_⟩
    rw [shl_maskP hn han, or_maskP hn]
    refine IN2_next h.le hi' ⟨rfl, ?_⟩
    congr 1
    refine maskP_congr fun b _ => ?_
    rw [List.take_succ_eq_append_getElem hi', ha, List.mem_append, List.mem_singleton, Int.natCast_inj]
  · have : i = L.length := by omega
    subst this
    rw [List.take_length]
    exact ⟨rfl, rfl⟩

/-- What is known of components and periods whose roots are some labels. -/
structure CompsIs (E : Nat → Nat → Prop) (n : Nat) (rs : List Nat) (CL : List (List Int)) (PL : List Int) : Prop where
  cl : CL = rs.map (compL E n)
  pl : PL.length = rs.length
  per : ∀ j (h1 : j < PL.length) (h2 : j < rs.length), ∃ P : Nat, PL[j] = P ∧ P ≤ 100 ∧ (P = 1 ↔ Flex E rs[j])
theorem CompsIs.I64 {E : Nat → Nat → Prop} {n : Nat} {rs : List Nat} {CL : List (List Int)} {PL : List Int} (h : CompsIs E n rs CL PL) : ∀ x ∈ PL, I64 x := fun x hx => by
  obtain ⟨j, hj, rfl⟩ := List.mem_iff_getElem.1 hx
  obtain ⟨P, he, hP, _⟩ := h.per j hj (by rw [← h.pl]; exact hj)
  rw [he]; unfold GX.I64; omega
theorem CompsIs.add {E : Nat → Nat → Prop} {n : Nat} {rs : List Nat} {CL : List (List Int)} {PL : List Int} (h : CompsIs E n rs CL PL) {a P : Nat} (hP : P ≤ 100 ∧ (P = 1 ↔ Flex E a)) : CompsIs E n (rs ++ [a]) (CL ++ [compL E n a]) (PL ++ [(P : Int)]) :=
  ⟨by rw [h.cl, List.map_append, List.map_singleton], by simp [h.pl], fun j h1 h2 => by
    have hpl := h.pl
    by_cases hj : j < rs.length
    · rw [List.getElem_append_left (by omega), List.getElem_append_left hj]
      exact h.per j _ hj
    · have : j = rs.length := by simp at h2; omega
      subst this
      refine ⟨P, ?_, hP.1, ?_⟩
      · rw [List.getElem_append_right (by omega)]; simp [hpl]
      · rw [List.getElem_append_right (by omega)]; simpa using hP.2⟩
theorem roots_len {E : Nat → Nat → Prop} {a : Nat} {rs : List Nat} (h : Roots E a rs) : rs.length ≤ a := nodup_length a rs (h.apart.imp fun {x y} hc (he : x = y) => hc (by subst he; exact Comp.refl)) h.lt

structure CompsS (w0 : World) (E : Nat → Nat → Prop) (n a : Nat) (s6 s7 : Sl) (x8 : Int) (w : World) : Prop where
  ext : Ext w0 w
  ex : ∃ rs CL PL, Roots E a rs ∧ CompsIs E n rs CL PL ∧ RowsX (oB s7) w0.heap.size T.t_sl_int w s6 CL ∧ OwnL w w0.heap.size T.t_int s7 PL
  done : x8 = ((maskP n (fun b => ∃ r, r < a ∧ Comp E r b) : Nat) : Int)

set_option maxHeartbeats 1000000 in
theorem walkComponents_ok {w : World} {s : Sl} {p : WPr} (h : RWk w s p) (hg : WGood p) :
    Calls Tryz.prog F.i_WalkProblem_walkComponents #[.agg #[.int .i64 p.labels, s.v]] w (Ret [.at .sl, .at .sl] fun (r6 : Sl) (r7 : Sl) w' => Ext w w' ∧ ∃ rs CL PL, Roots (arcE p.arcs) p.labels.toNat rs ∧ CompsIs (arcE p.arcs) p.labels.toNat rs CL PL ∧ R w' r6 CL ∧ R w' r7 PL) := by
  refine C_i_WalkProblem_walkComponents ?_
  unfold V_i_WalkProblem_walkComponents
  refine NEW_intro fun pp w1 hp1 hs1 hE1 hb1 => ?_
  intro w2 hE2 _
  have hE12 := hE1.trans hE2
  have hb2 := hb1.ext hE2
  refine LD_is hb2 (LD_is hb2 ?_)
  refine call (closure_ok (h.ext hE12) hg) ?_
  rintro tc w3 ⟨hE3, hO3⟩
  refine ⟨hE3, ?_⟩
  refine call (after_ok (h.ext (hE12.trans hE3)) hg) ?_
  rintro ta w4 ⟨hE4, hO4⟩
  have hE24 := hE3.trans hE4
  refine ⟨hE24, hE24, ?_⟩
  have hl := hg.lab
  have hrelE : ∀ x y, arcE p.arcs x y → x < p.labels.toNat ∧ y < p.labels.toNat := fun x y hxy => hg.rel hxy
  have hper := fun {w : World} {t : Sl} {r : Nat} {C : List Int} (h' : RWk w s p) (hC : R w t C) => periodOf_ok (r := r) h' hg hC
  generalize hEe : arcE p.arcs = E at *
  generalize hnn : p.labels.toNat = n at *
  have hn12 : n ≤ 12 := by omega
  have hRc4 : R w4 tc (closeL E n) := ((hO3.ext hE4).rep (closeL_I64 hn12)).any
  have hRa4 : R w4 ta (afterL p.arcs n) := (hO4.rep (afterL_I64 hn12)).any
  have hE04 := hE12.trans hE24
  have hb4 := hb2.ext hE24
  have hlt4 := hb4.lt
  rw [hRc4.len, closeL_len]
  have memC : ∀ {r b : Nat}, Comp E r b → r < n → b < n := fun {r b} hc hr => by
    obtain ⟨⟨k, hw⟩, _⟩ := hc
    rcases Nat.eq_zero_or_pos k with rfl | hk
    · cases hw; exact hr
    · exact hw.lt (fun x y hxy => (hrelE x y hxy).2) hk
  refine ⟨fun s6 s7 x8 x w' => ∃ a : Nat, x = a ∧ a ≤ n ∧ CompsS w4 E n a s6 s7 x8 w', fun _ _ _ x _ => n - x.toNat, ⟨0, rfl, by omega, Ext.refl _, ⟨[], [], [], Roots.nil E, ⟨rfl, rfl, fun j h1 => by simp at h1⟩, RowsX.nil _ _ _ _, OwnL.nil _ _ _⟩, by rw [maskP_none fun b _ ⟨r, hr, _⟩ => by omega]; rfl⟩, ?_⟩
  rintro s6 s7 x8 _ w5 ⟨a, rfl, ha, hE5, ⟨rs, CL, PL, hrs, hcp, hX6, hO7⟩, rfl⟩
  intros
  have next : ∀ {s6' s7' : Sl} {x8' : Int} {w' : World}, a < n → CompsS w4 E n (a + 1) s6' s7' x8' w' → (∃ a' : Nat, IntKind.i64.wrap ((a : Int) + 1) = a' ∧ a' ≤ n ∧ CompsS w4 E n a' s6' s7' x8' w') ∧ n - (IntKind.i64.wrap ((a : Int) + 1)).toNat < n - ((a : Int)).toNat := fun han hS => by
    rw [wrap_of (by omega) (by omega)]
    exact ⟨⟨a + 1, by omega, by omega, hS⟩, by omega⟩
  refine cond_dec (fun hlt => ?_) (fun hge => ?_)
  · have han : a < n := by omega
    refine ⟨by omega, ?_⟩
    classical
    rw [bit_maskP hn12 han]
    by_cases hdone : ∃ r, r < a ∧ Comp E r a
    · rw [if_pos hdone]
      refine cond_t (by rfl) (next han ⟨hE5, ⟨rs, CL, PL, hrs.skip fun hc => ?_, hcp, hX6, hO7⟩, ?_⟩)
      · obtain ⟨r0, hr0, hcm⟩ := hdone
        obtain ⟨r, hr, hx⟩ := hrs.cover r0 hr0 (cyc_comp hcm.symm hc)
        exact ⟨r, hr, hx.trans hcm⟩
      · congr 1
        refine maskP_congr fun b _ => ⟨fun ⟨r, h1, h2⟩ => ⟨r, by omega, h2⟩, fun ⟨r, h1, h2⟩ => ?_⟩
        by_cases he : r = a
        · subst he
          obtain ⟨r0, hr0, hcm⟩ := hdone
          exact ⟨r0, hr0, hcm.trans h2⟩
        · exact ⟨r, by omega, h2⟩
    · rw [if_neg hdone]
      refine cond_f (by rfl) ?_
      have hRc5 := hRc4.ext hE5
      have hal : a < (closeL E n).length := by rw [closeL_len]; exact han
      refine hRc5.ixI hal fun q _ hcq => LD_int hcq ?_
      rw [closeL_get hal]
      refine call (labels12_ok (maskP_small hn12 _) w5) ?_
      rintro u w6 ⟨hE6, hO6⟩
      generalize hL : labs (maskP n fun b => ∃ k, Wk E k a b) = L at hO6
      have hL64 : ∀ x ∈ L, I64 x := by subst hL; exact labs_I64 _
      have hLlen : L.length ≤ 12 := by subst hL; exact labs_len _
      have hLm : ∀ x, x ∈ L ↔ ∃ b : Nat, x = b ∧ b < n ∧ ∃ k, Wk E k a b := by subst hL; exact fun x => mem_labsP hn12
      have hLs : L.Pairwise (· < ·) := by subst hL; exact labs_sorted _
      have hRu := (hO6.rep hL64).any
      rw [hRu.len]
      have hz6 := hE6.size_le
      refine ⟨IN2 L.length fun j (x : Sl) w' => Ext w6 w' ∧ OwnL w' w6.heap.size T.t_int x ((L.take j).filter fun y => decide (Comp E a y.toNat)), MN2 L.length, IN2_zero ⟨Ext.refl _, OwnL.nil _ _ _⟩, ?_⟩
      rintro x10 _ w7 ⟨j, rfl, hj, hE7, hO10⟩
      intros
      refine cond_dec (fun hlt2 => ?_) (fun hge2 => ?_)
      · have hj' : j < L.length := by omega
        refine (hRu.ext hE7).ixI hj' fun q2 _ hc2 => LD_int hc2 ?_
        obtain ⟨b, hb, hbn, hbk⟩ := (hLm L[j]).1 (List.getElem_mem hj')
        rw [hb]
        have hbl : b < (closeL E n).length := by rw [closeL_len]; exact hbn
        refine (hRc5.ext (hE6.trans hE7)).ixI hbl fun q3 _ hc3 => LD_int hc3 ⟨by omega, ?_⟩
        rw [closeL_get hbl, bit_maskP hn12 han]
        have hcomp : Comp E a b ↔ ∃ k, Wk E k b a := ⟨fun hc => hc.2, fun hk => ⟨hbk, hk⟩⟩
        by_cases hback : ∃ k, Wk E k b a
        · rw [if_pos hback]
          refine cond_t (by rfl) ?_
          refine RUN_lit1 (α := Int) slt_int (b : Int) rfl (by decide) fun y w8 hE8 hO8 => ?_
          have hz7 := hE7.size_le
          have hz8 := hE8.size_le
          have hfl : ((L.take j).filter fun y => decide (Comp E a y.toNat)).length ≤ 12 := Nat.le_trans (List.length_filter_le _ _) (by rw [List.length_take]; omega)
          refine RUN_append (α := Int) slt_int (hO10.ext hE8) (by omega) (hO8.rep (by intro x hx; rw [List.mem_singleton.1 hx]; show I64 _; unfold GX.I64; omega)).any (by simp; omega) (by simp [maxLen]; omega) fun r' w9 hO9 hs9 => ?_
          refine IN2_next (by omega) hj' ⟨hs9.ext0 (hE7.trans hE8) fun k hk => (hO10.blk k hk).1, ?_⟩
          rw [List.take_succ_eq_append_getElem hj', hb, List.filter_append]
          have : ([(b : Int)].filter fun y => decide (Comp E a y.toNat)) = [(b : Int)] := by simp [hcomp.2 hback]
          rw [this]; exact hO9
        · rw [if_neg hback]
          refine cond_f (by rfl) (IN2_next (by omega) hj' ⟨hE7, ?_⟩)
          rw [List.take_succ_eq_append_getElem hj', hb, List.filter_append]
          have : ([(b : Int)].filter fun y => decide (Comp E a y.toNat)) = [] := by
            have hno : ¬ Comp E a b := fun hc => hback (hcomp.1 hc)
            simp [hno]
          rw [this, List.append_nil]; exact hO10
      · have : j = L.length := by omega
        subst this
        rw [List.take_length] at hO10
        have hC : (L.filter fun y => decide (Comp E a y.toNat)) = compL E n a := sorted_ext (hLs.filter _) (compL_sorted _ _ _) fun x => by
          rw [List.mem_filter, hLm, compL_mem]
          constructor
          · rintro ⟨⟨b, rfl, hb, _⟩, hc⟩
            exact ⟨b, rfl, hb, by simpa using hc⟩
          · rintro ⟨b, rfl, hb, hc⟩
            exact ⟨⟨b, rfl, hb, hc.1⟩, by simpa using hc⟩
        rw [hC] at hO10
        have hC64 : ∀ x ∈ compL E n a, I64 x := fun x hx => by
          obtain ⟨b, rfl, hb, _⟩ := compL_mem.1 hx
          unfold GX.I64; omega
        have hR10 : R w7 x10 (compL E n a) := (hO10.rep hC64).any
        have hClen := compL_len E n a
        refine call (setOf_ok hR10 hn12 fun x hx => by obtain ⟨b, h1, h2, _⟩ := compL_mem.1 hx; exact ⟨b, h1, h2⟩) ?_
        rintro _ _ ⟨rfl, rfl⟩
        have hmask : maskP n (fun b : Nat => (b : Int) ∈ compL E n a) = maskP n (fun b => Comp E a b) := maskP_congr fun b hb => by rw [compL_mem']; exact ⟨fun hh => hh.2, fun hh => ⟨hb, hh⟩⟩
        rw [hmask]
        have hE57 := hE6.trans hE7
        have hE47 := hE5.trans hE57
        rw [hR10.len]
        have hdn : ∀ {x : Int}, x = bitOr .i64 ((maskP n (fun b => ∃ r, r < a ∧ Comp E r b) : Nat) : Int) ((maskP n (fun b => Comp E a b) : Nat) : Int) → x = ((maskP n (fun b => ∃ r, r < a + 1 ∧ Comp E r b) : Nat) : Int) := fun hx => by
          rw [hx, or_maskP hn12]
          congr 1
          refine maskP_congr fun b _ => ⟨?_, ?_⟩
          · rintro (⟨r, h1, h2⟩ | h2)
            · exact ⟨r, by omega, h2⟩
            · exact ⟨a, by omega, h2⟩
          · rintro ⟨r, h1, h2⟩
            by_cases he : r = a
            · subst he; exact .inr h2
            · exact .inl ⟨r, by omega, h2⟩
        refine ⟨IN2 (compL E n a).length fun j (x : Bool) w' => Ext w7 w' ∧ (x = true ↔ ∃ b c : Nat, (b : Int) ∈ (compL E n a).take j ∧ Comp E a c ∧ E b c), MN2 (compL E n a).length, IN2_zero ⟨Ext.refl _, by simp⟩, ?_⟩
        rintro x11 _ w11 ⟨j, rfl, hj, hE11, hx11⟩
        intros
        refine cond_dec (fun hlt3 => ?_) (fun hge3 => ?_)
        · have hj' : j < (compL E n a).length := by omega
          refine (hR10.ext hE11).ixI hj' fun q4 _ hc4 => LD_int hc4 ?_
          obtain ⟨b, hb, hbn, hbc⟩ := compL_mem.1 (List.getElem_mem hj')
          rw [hb]
          have htk : (compL E n a).take (j + 1) = (compL E n a).take j ++ [(b : Int)] := by rw [List.take_succ_eq_append_getElem hj', hb]
          refine cond_b (fun ht w12 hE12' => ?_) (fun hf => ?_)
          · refine IN2_next (by omega) hj' ⟨hE11.trans hE12', ?_⟩
            obtain ⟨b', c, h1, h2, h3⟩ := hx11.1 ht
            exact ⟨fun _ => ⟨b', c, by rw [htk]; exact List.mem_append_left _ h1, h2, h3⟩, fun _ => rfl⟩
          · have hbl : b < (afterL p.arcs n).length := by rw [afterL_len]; exact hbn
            refine (hRa4.ext (hE47.trans hE11)).ixI hbl fun q5 _ hc5 => LD_int hc5 ?_
            rw [afterL_get hbl]
            refine QCALL_int ((maskP n (fun b => Comp E a b) : Nat) : Int) (fun w' hE' => ?_) ?_
            · refine call (setOf_ok ((hR10.ext hE11).ext hE') hn12 fun x hx => by obtain ⟨b, h1, h2, _⟩ := compL_mem.1 hx; exact ⟨b, h1, h2⟩) ?_
              rintro _ _ ⟨rfl, rfl⟩
              exact ⟨by rw [hmask], Ext.refl _⟩
            · intro w13 hE13
              rw [hEe, and_maskP hn12]
              refine IN2_next (by omega) hj' ⟨hE11.trans hE13, ?_⟩
              have hnz : (((((maskP n fun c => E b c ∧ Comp E a c) : Nat) : Int) != 0) = true) ↔ ∃ c, E b c ∧ Comp E a c := by
                rw [bne_iff_ne]
                constructor
                · intro hne
                  refine Classical.byContradiction fun hno => hne ?_
                  rw [maskP_none fun c _ hc => hno ⟨c, hc⟩]; rfl
                · rintro ⟨c, h1, h2⟩ hz
                  exact maskP_zero (n := n) (P := fun c => E b c ∧ Comp E a c) (by exact_mod_cast hz) c (hrelE b c h1).2 ⟨h1, h2⟩
              rw [hnz, htk]
              constructor
              · rintro ⟨c, h1, h2⟩
                exact ⟨b, c, by simp, h2, h1⟩
              · rintro ⟨b', c, h1, h2, h3⟩
                rcases List.mem_append.1 h1 with h1 | h1
                · rw [hx11.2 ⟨b', c, h1, h2, h3⟩] at hf; cases hf
                · have : b' = b := by have := List.mem_singleton.1 h1; omega
                  subst this
                  exact ⟨c, h3, h2⟩
        · have : j = (compL E n a).length := by omega
          subst this
          rw [List.take_length] at hx11
          have hcyc : x11 = true ↔ ∃ k, 0 < k ∧ Wk E k a a := by
            rw [hx11, ← cyc_iff]
            exact ⟨fun ⟨b, c, h1, h2, h3⟩ => ⟨b, c, (compL_mem'.1 h1).2, h2, h3⟩, fun ⟨b, c, h1, h2, h3⟩ => ⟨b, c, compL_mem'.2 ⟨memC h1 han, h1⟩, h2, h3⟩⟩
          have hE4_11 := hE47.trans hE11
          have hX11 := hX6.ext (hE57.trans hE11)
          have hO711 := hO7.ext (hE57.trans hE11)
          refine cond_b (fun ht => ?_) (fun hf => next han ⟨hE4_11, ⟨rs, CL, PL, hrs.skip fun hc => (by rw [hcyc.2 hc] at hf; cases hf), hcp, hX11, hO711⟩, hdn rfl⟩)
          have hca := hcyc.1 ht
          intro w14 hE14 _
          have hE4_14 := hE4_11.trans hE14
          have hX14 := hX11.ext hE14
          have hO714 := hO711.ext hE14
          have hE7_14 := hE11.trans hE14
          have hO10_14 := hO10.ext hE7_14
          have hz5 := hE5.size_le
          have hz7 := hE7.size_le
          have hz714 := hE7_14.size_le
          have hp4 : ¬ (oB s6 pp.block ∨ oB s7 pp.block) := fun hh => hh.elim (fun h1 => by have := (hX6.blk h1).1; omega) (fun h1 => by have := (hO7.blk _ h1).1; omega)
          refine ⟨fun b => oB s6 b ∨ oB s7 b, hp4, LD_is (hb4.ext hE4_14) ?_⟩
          refine RUN_lit1 (α := Sl) slt_rows x10 rfl (by decide) fun y w15 hE15 hO15 => ⟨.of_ext hE15, ?_⟩
          have hlen6 : CL.length ≤ 12 := by rw [hcp.cl, List.length_map]; have := roots_len hrs; omega
          have hlen7 : PL.length ≤ 12 := by rw [hcp.pl]; have := roots_len hrs; omega
          have hrow : SlR (fun b => s6.v.ownBlock ≠ some b ∧ ¬ oB s7 b) w15 x10 (compL E n a) := ((hO10_14.rep hC64).ext hE15).weak (fun b hb _ => ⟨fun he => by have h1 := (hX6.blk he).2; have h2 : w6.heap.size ≤ b := hb; omega, fun he => by have h1 := (hO7.blk _ he).2; have h2 : w6.heap.size ≤ b := hb; omega⟩) RepP.pos
          refine RUN_append_X slt_rows hX14 (by omega) hE15 hrow hO15 (by omega) (by unfold maxLen; omega) fun s6' w16 hX16 hs16 hN16 => ?_
          have hz15 := hE15.size_le
          have hz16 := hs16.size
          have hC16 : Chg w14 w16 (fun b => oB s6 b ∨ oB s7 b) := (Chg.of_ext hE15).trans (.of_step hs16 fun k hk => .inl hk)
          refine ⟨hC16, ?_⟩
          have hE4_16 : Ext w4 w16 := hs16.ext0 (hE4_14.trans hE15) fun k hk => (hX6.blk hk).1
          have hne67 : ∀ b, s7.v.ownBlock = some b → ¬ s6.v.ownBlock = some b := by
            obtain ⟨ss, hOs, _⟩ := hX14.ex
            exact own_apart hO714 hOs (by decide)
          have hO716 := (hO714.ext hE15).keep fun b hb => hs16.block b ((hO714.ext hE15).blk b hb).2 fun he => hne67 b hb he.symm
          have hR10_16 : R w16 x10 (compL E n a) := ((hO10_14.rep hC64).ext hE15).stepD hs16 (fun b hb he => by have h1 := (hX6.blk he).2; have h2 : w6.heap.size ≤ b := hb; omega) |>.any
          have hE0_16 := hE04.trans hE4_16
          have h0C : 0 < (compL E n a).length := List.length_pos_of_mem (compL_mem'.2 ⟨han, Comp.refl⟩)
          have hC0 : (compL E n a)[0] = (a : Int) := by
            obtain ⟨b, hb, hbn, hbc⟩ := compL_mem.1 (List.getElem_mem h0C)
            obtain ⟨i, hi, he⟩ := List.mem_iff_getElem.1 (compL_mem'.2 (show a < n ∧ Comp E a a from ⟨han, Comp.refl⟩))
            have hle : b ≤ a := by
              rcases Nat.eq_zero_or_pos i with rfl | hi0
              · rw [he] at hb; omega
              · have := List.pairwise_iff_getElem.1 (compL_sorted E n a) 0 i h0C hi hi0
                rw [he, hb] at this; omega
            by_cases hba : b = a
            · rw [hb, hba]
            · exact absurd ⟨b, by omega, hbc.symm⟩ hdone
          refine call (hper (h.ext hE0_16) hR10_16 h0C hC0 han fun b => compL_mem') ?_
          rintro _ w17 ⟨hE17, P, rfl, hP100, hPd⟩
          refine ⟨hC16.trans (.of_ext hE17), ?_⟩
          refine RUN_lit1 (α := Int) slt_int (P : Int) rfl (by decide) fun y2 w18 hE18 hO18 => ⟨hC16.trans (.of_ext (hE17.trans hE18)), ?_⟩
          have hE1618 := hE17.trans hE18
          have hz1618 := hE1618.size_le
          have hO718 := hO716.ext hE1618
          refine RUN_appendF (α := Int) slt_int hO718 (by omega) (hO18.rep (by intro x hx; rw [List.mem_singleton.1 hx]; show I64 _; unfold GX.I64; omega)).any (by simp; omega) (by simp [maxLen]; omega) fun s7' w19 hO19 hs19 hN19 => ?_
          have hC19 : Chg w14 w19 (fun b => oB s6 b ∨ oB s7 b) := (hC16.trans (.of_ext hE1618)).trans (.of_step hs19 fun k hk => .inr hk)
          refine ⟨hC19, hC19, ?_⟩
          have hX18 := hX16.ext hE1618
          have hX19 : RowsX (oB s7') w4.heap.size T.t_sl_int w19 s6' (CL ++ [compL E n a]) := hX18.chg (.of_step hs19 fun k hk => hk) (fun b hb hb7 => by
            obtain ⟨ss, hOs, _⟩ := hX18.ex
            exact own_apart hO718 hOs (by decide) b hb7 hb) fun b hb hlt => by
            rcases hN19 with hN | hN
            · exact (show s7.v.ownBlock = some b from hN ▸ hb)
            · have := hN b hb; omega
          exact next han ⟨hs19.ext0 (hE4_16.trans hE1618) fun k hk => (hO7.blk k hk).1, ⟨rs ++ [a], CL ++ [compL E n a], PL ++ [(P : Int)], hrs.add hca fun r hr hc => hdone ⟨r, hrs.lt r hr, hc⟩, hcp.add ⟨hP100, (flex_of hPd hca).1⟩, hX19, hO19⟩, hdn rfl⟩
  · have : a = n := by omega
    subst this
    exact ⟨hE04.trans hE5, rs, CL, PL, hrs, hcp, hX6.rep, (hO7.rep hcp.I64).any⟩

theorem flexL_I64 {E : Nat → Nat → Prop} {n : Nat} (hn : n ≤ 1000) : ∀ x ∈ flexL E n, I64 x := fun x hx => by
  obtain ⟨b, rfl, hb, _⟩ := flexL_mem.1 hx
  unfold GX.I64; omega

theorem flexibleLabels_ok {w : World} {s : Sl} {p : WPr} (h : RWk w s p) (hg : WGood p) :
    Calls Tryz.prog F.i_WalkProblem_flexibleLabels #[.agg #[.int .i64 p.labels, s.v]] w (Ret [.at .sl] fun (r : Sl) w' => Ext w w' ∧ OwnL w' w.heap.size T.t_int r (flexL (arcE p.arcs) p.labels.toNat)) := by
  refine C_i_WalkProblem_flexibleLabels ?_
  unfold V_i_WalkProblem_flexibleLabels
  refine NEW_intro fun pp w1 hp1 hs1 hE1 hb1 => LD_is hb1 ?_
  refine call (walkComponents_ok (h.ext hE1) hg) ?_
  rintro r6 r7 w2 ⟨hE2, rs, CL, PL, hrs, hcp, hR6, hR7⟩
  have hl := hg.lab
  generalize arcE p.arcs = E at *
  generalize hnn : p.labels.toNat = n at *
  have hn12 : n ≤ 12 := by omega
  have hrl := roots_len hrs
  have hcl : CL.length = rs.length := by rw [hcp.cl, List.length_map]
  have hz1 := hE1.size_le
  have hz2 := hE2.size_le
  rw [hR6.len, hcl]
  classical
  have hfs : ∀ i, (((rs.take i).filter fun r => decide (Flex E r)).flatMap (compL E n)).length ≤ 12 := fun i => by
    have hpw : ((rs.take i).filter fun r => decide (Flex E r)).Pairwise fun r q => ¬ Comp E r q := (hrs.apart.sublist (List.take_sublist _ _)).filter _
    have hnd := flex_nodup (n := n) hpw
    have h1 : ((((rs.take i).filter fun r => decide (Flex E r)).flatMap (compL E n)).map Int.toNat).length ≤ n := nodup_length n _ (by
      unfold List.Nodup
      rw [List.pairwise_map]
      refine List.Pairwise.imp_of_mem ?_ hnd
      intro x y hx hy hne he
      obtain ⟨r, _, hx⟩ := List.mem_flatMap.1 hx
      obtain ⟨q, _, hy⟩ := List.mem_flatMap.1 hy
      obtain ⟨u, rfl, _, _⟩ := compL_mem.1 hx
      obtain ⟨v, rfl, _, _⟩ := compL_mem.1 hy
      exact hne (by simp only [Int.toNat_natCast] at he; rw [he])) (fun x hx => by
      obtain ⟨y, hy, rfl⟩ := List.mem_map.1 hx
      obtain ⟨r, _, hy⟩ := List.mem_flatMap.1 hy
      obtain ⟨u, rfl, hu, _⟩ := compL_mem.1 hy
      simpa using hu)
    rw [List.length_map] at h1
    omega
  refine ⟨IN2 rs.length fun i (x : Sl) w' => Ext w2 w' ∧ OwnL w' w2.heap.size T.t_int x (((rs.take i).filter fun r => decide (Flex E r)).flatMap (compL E n)), MN2 rs.length, IN2_zero ⟨Ext.refl _, OwnL.nil _ _ _⟩, ?_⟩
  rintro out _ w3 ⟨i, rfl, hi, hE3, hO3⟩
  intros
  refine cond_dec (fun hlt => ?_) (fun hge => ?_)
  · have hi' : i < rs.length := by omega
    refine (hR6.ext hE3).ixL (i := i) (by omega) fun q row hrow hc => LD_sl hc ?_
    have hrowE : CL[i]'(by omega) = compL E n rs[i] := by simp only [hcp.cl, List.getElem_map]
    rw [hrowE] at hrow
    have hpl : i < PL.length := by rw [hcp.pl]; exact hi'
    refine (hR7.ext hE3).ixI hpl fun q2 _ hc2 => LD_int hc2 ?_
    obtain ⟨P, hP, _, hPf⟩ := hcp.per i hpl hi'
    rw [hP]
    have htk : rs.take (i + 1) = rs.take i ++ [rs[i]] := List.take_succ_eq_append_getElem hi'
    refine cond_eq (fun h1 => ?_) (fun hne => ?_)
    · have hF : Flex E rs[i] := hPf.1 (by have : (P : Int) = 1 := h1; omega)
      have hcl2 := compL_len E n rs[i]
      have hfi := hfs i
      refine RUN_append (α := Int) slt_int hO3 hE3.size_le hrow.any (by omega) (by unfold maxLen; omega) fun s' w4 hO4 hs4 => ?_
      refine IN2_next (by omega) hi' ⟨hs4.ext0 hE3 fun k hk => (hO3.blk k hk).1, ?_⟩
      rw [htk, List.filter_append, List.flatMap_append]
      have e : ([rs[i]].filter fun r => decide (Flex E r)) = [rs[i]] := by simp [hF]
      rw [e]; simpa using hO4
    · have hF : ¬ Flex E rs[i] := fun hf => hne (by rw [hPf.2 hf]; rfl)
      refine IN2_next (by omega) hi' ⟨hE3, ?_⟩
      rw [htk, List.filter_append]
      have e : ([rs[i]].filter fun r => decide (Flex E r)) = [] := by simp [hF]
      rw [e, List.append_nil]; exact hO3
  · have : i = rs.length := by omega
    subst this
    rw [List.take_length] at hO3
    have hfi := hfs rs.length
    rw [List.take_length] at hfi
    refine call (sort_ok hO3 (by omega)) ?_
    rintro w5 ⟨hO5, hs5⟩
    have e : flexL E n = sortI ((rs.filter fun r => decide (Flex E r)).flatMap (compL E n)) := eq_sortI (flexL_sorted E n) (flex_nodup (hrs.apart.filter _)) fun x => (flex_roots hrs (fun r => by simp [List.mem_filter]) x).symm
    rw [← e] at hO5
    exact ⟨(hE1.trans hE2).trans (hs5.ext0 hE3 fun k hk => (hO3.blk k hk).1), hO5.low (by omega)⟩

end Go.Proofs.YtaeledhbkdakcaaGreatDoor
end
