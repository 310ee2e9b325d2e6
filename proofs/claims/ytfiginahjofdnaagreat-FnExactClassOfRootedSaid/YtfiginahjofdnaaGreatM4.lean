/- Own texts, merged: WalkS1, WalkS2, Drop, Reduce, WalkS3, WalkS4, WalkS5, Prob, RootI1, Delete, Compact, RowFun, RSort, RowSort, Trod, Open, ProbIn, EdgeCol, Fault, SplitPure, Solution, ElimPure. -/
import Derived.Test.YtfiginahjofdnaaGreatM3
import Derived.Ground.Names2Prog
import Derived.Ground.SlsfProg
import Derived.Shelf.SlSortCmp.Insertion
import Derived.Shelf.SlSortCmp.SiftDown1
import Derived.Shelf.SlSortCmp.HeapSort1
import Derived.Shelf.SlSortCmp.Insertion1
import Derived.Shelf.SlSortCmp.Median1
import Derived.Shelf.SlSortCmp.Pivot1
import Derived.Shelf.SlSortCmp.ReverseRange1
import Derived.Shelf.SlSortCmp.PartialInsertion1
import Derived.Shelf.SlSortCmp.PartitionEqual1
import Derived.Shelf.SlSortCmp.Partition1
import Derived.Shelf.SlSortCmp.Pdq1
import Derived.Shelf.SlSortCmp.Whole1
import Derived.Shelf.SlSortCmp.NoneTotal
import Derived.Test.YtfiginahjofdnaaGreatProg
import Derived.Deep.Slices
import Derived.Lib.SmallJoins
import Derived.OpenShut
import Derived.ShutString
import Derived.ChangeOld
import Derived.Carry
import Derived.ProofKit
set_option linter.unusedVariables false
section
/- Walk problems, the reference: matrices of pairs of labels. -/
namespace Go.Proofs.YtfiginahjofdnaaGreat
open Go.GX Go.RowKit
set_option maxRecDepth 100000

theorem slt_rowsB : SlT Tryz.prog T.t_sl_sl_bool T.t_sl_bool 1 24 (.slice none 0 0) := ⟨by kernel_rfl, by kernel_rfl, rfl, by decide⟩
theorem slt_matsB : SlT Tryz.prog T.t_sl_sl_sl_bool T.t_sl_sl_bool 1 24 (.slice none 0 0) := ⟨by kernel_rfl, by kernel_rfl, rfl, by decide⟩

noncomputable def rowB (n : Nat) (P : Nat → Prop) : List Bool := by
  classical exact (List.range n).map fun b => decide (P b)
noncomputable def matB (n : Nat) (P : Nat → Nat → Prop) : List (List Bool) := (List.range n).map fun a => rowB n (P a)
theorem rowB_len (n : Nat) (P : Nat → Prop) : (rowB n P).length = n := by simp [rowB]
theorem matB_len (n : Nat) (P : Nat → Nat → Prop) : (matB n P).length = n := by simp [matB]
theorem rowB_get {n : Nat} {P : Nat → Prop} {a : Nat} (h : a < (rowB n P).length) : ((rowB n P)[a] = true) ↔ P a := by simp [rowB]
theorem matB_get {n : Nat} {P : Nat → Nat → Prop} {a : Nat} (h : a < (matB n P).length) : (matB n P)[a] = rowB n (P a) := by simp [matB]
theorem rowB_congr {n : Nat} {P Q : Nat → Prop} (h : ∀ a < n, P a ↔ Q a) : rowB n P = rowB n Q := by
  apply List.ext_getElem
  · rw [rowB_len, rowB_len]
  · intro a h1 h2
    rw [Bool.eq_iff_iff, rowB_get, rowB_get]
    exact h a (by rw [rowB_len] at h1; exact h1)
theorem matB_congr {n : Nat} {P Q : Nat → Nat → Prop} (h : ∀ a < n, ∀ b < n, P a b ↔ Q a b) : matB n P = matB n Q := by
  apply List.ext_getElem
  · rw [matB_len, matB_len]
  · intro a h1 h2
    rw [matB_get, matB_get]
    exact rowB_congr (h a (by rw [matB_len] at h1; exact h1))
theorem rowB_set {n : Nat} {P Q : Nat → Prop} {b : Nat} {v : Bool} (hv : v = true ↔ Q b) (hc : ∀ c < n, c ≠ b → (P c ↔ Q c)) : (rowB n P).set b v = rowB n Q := by
  apply List.ext_getElem
  · rw [List.length_set, rowB_len, rowB_len]
  · intro c h1 h2
    have hcn : c < n := by rw [rowB_len] at h2; exact h2
    rw [List.getElem_set, Bool.eq_iff_iff, rowB_get]
    by_cases he : b = c
    · subst he; rw [if_pos rfl]; exact hv
    · rw [if_neg he, rowB_get]; exact hc c hcn (Ne.symm he)
theorem matB_set {n : Nat} {P Q : Nat → Nat → Prop} {a b : Nat} (ha : a < n) {v : Bool} (hv : v = true ↔ Q a b) (hc : ∀ x < n, ∀ y < n, ¬ (x = a ∧ y = b) → (P x y ↔ Q x y)) : (matB n P).set a ((rowB n (P a)).set b v) = matB n Q := by
  apply List.ext_getElem
  · rw [List.length_set, matB_len, matB_len]
  · intro c h1 h2
    have hcn : c < n := by rw [matB_len] at h2; exact h2
    rw [List.getElem_set, matB_get h2]
    by_cases he : a = c
    · subst he; rw [if_pos rfl]; exact rowB_set hv fun y hy hne => hc a ha y hy fun h => hne h.2
    · rw [if_neg he, matB_get]; exact rowB_congr fun y hy => hc c hcn y hy fun h => he h.1.symm
theorem rowB_false (n : Nat) {P : Nat → Prop} (h : ∀ a < n, ¬ P a) : rowB n P = List.replicate n false := by
  apply List.ext_getElem
  · rw [rowB_len, List.length_replicate]
  · intro a h1 h2
    rw [List.getElem_replicate, ← Bool.not_eq_true, rowB_get]
    exact h a (by rw [rowB_len] at h1; exact h1)

abbrev OwnB (base : Nat) (w : World) (s : Sl) (L : List (List Bool)) (ss : List Sl) : Prop := RowsD w base T.t_bool T.t_sl_bool s L ss

theorem OwnB.repD {base : Nat} {w : World} {s : Sl} {L : List (List Bool)} {ss : List Sl} (h : OwnB base w s L ss) : SlR (fun b => base ≤ b) w s L := h.own2.repD fun _ _ _ _ => trivial

/-- One place of a matrix written. -/
theorem ST_mat {base : Nat} {w : World} {s : Sl} {n : Nat} {P Q : Nat → Nat → Prop} {ss : List Sl} {a b : Nat} {r : Sl} {p : Addr} {v : Bool} (h : OwnB base w s (matB n P) ss) (ha : a < n) (hb : b < n) (hr : ss[a]? = some r) (hp : Plc r b 1 p) (hv : v = true ↔ Q a b) (hc : ∀ x < n, ∀ y < n, ¬ (x = a ∧ y = b) → (P x y ↔ Q x y)) {K : World → Prop}
    (hk : ∀ w', OwnB base w' s (matB n Q) ss → Step w w' r.v.ownBlock → K w') : GX.ST p 0 [.bool v] w K := by
  have hal : a < (matB n P).length := by rw [matB_len]; exact ha
  have hO := h.row a r (matB n P)[a] hr (by simp [hal])
  rw [matB_get hal] at hO
  refine ST_own (α := Bool) hO (i := b) (by rw [rowB_len]; exact hb) hp v rfl fun w' hO' hs => ?_
  have h2 := h.chg (by decide) hr hO' hs
  rw [matB_set ha hv hc] at h2
  exact hk w' h2 hs

theorem waMay_ok {w : World} {s : Sl} {p : WPr} (h : RWk w s p) (hg : WGood p) :
    Calls Tryz.prog F.s_waMay #[.agg #[.int .i64 p.labels, s.v]] w (Ret [.at .sl] fun (r : Sl) w' => Ext w w' ∧ ∃ ss, OwnB w.heap.size w' r (matB p.labels.toNat (arcE p.arcs)) ss) := by
  refine C_s_waMay ?_
  unfold V_s_waMay
  refine NEW_intro fun pp w1 hp1 hs1 hE1 hb1 => ?_
  have hl := hg.lab
  obtain ⟨n, hn⟩ : ∃ n : Nat, p.labels = n := ⟨p.labels.toNat, by omega⟩
  have hnt : p.labels.toNat = n := by omega
  have hn12 : n ≤ 12 := by omega
  rw [hnt]
  have hz1 := hE1.size_le
  refine ⟨fun (out : Sl) (x : Int) w' => ∃ a : Nat, x = a ∧ a ≤ n ∧ Ext w1 w' ∧ ∃ ss, OwnB w1.heap.size w' out (List.replicate a (rowB n fun _ => False)) ss, fun _ x _ => n - x.toNat, ⟨0, rfl, by omega, Ext.refl _, [], RowsD.nil _ _ _ _⟩, ?_⟩
  rintro out _ w2 ⟨a, rfl, ha, hE2, ss, hM⟩
  intros
  have hb2 := hb1.ext hE2
  refine LD_bi0 hb2 (cond_dec (fun hlt => LD_bi0 hb2 ?_) (fun hge => ?_))
  · have han : a < n := by omega
    have hrun : ∀ {K : Sl → World → Prop}, RUN Tryz.prog (.at .sl) (Instr.makeSlice T.t_sl_bool (.int .i64 (n : Int)) (.int .i64 (n : Int))) w2 K → RUN Tryz.prog (.at .sl) (Instr.makeSlice T.t_sl_bool (.int .i64 p.labels) (.int .i64 p.labels)) w2 K := fun hk => by rw [hn]; exact hk
    refine hrun ?_
    refine RUN_make (α := Bool) slt_bool (d := false) rfl (by omega) (by unfold maxLen; omega) fun r w3 hE3 hO3 => ?_
    rw [← rowB_false n (P := fun _ => False) (fun _ _ h => h)] at hO3
    refine RUN_lit1 (α := Sl) slt_rowsB r rfl (by decide) fun y w4 hE4 hO4 => ?_
    have hz2 := hE2.size_le
    have hz3 := hE3.size_le
    have hz4 := hE4.size_le
    refine RUN_append_rowD slt_rowsB (by decide) (hM.ext (hE3.trans hE4)) (by omega) ((hO3.ext hE4).low hz2) (hM.fresh hO3 (Nat.le_refl _)) hO4 (by simp; omega) (by simp [maxLen]; omega) fun s' w5 hM5 hs5 => ?_
    rw [wrap_of (by omega) (by omega)]
    refine ⟨⟨a + 1, by omega, by omega, hs5.ext0 (hE2.trans (hE3.trans hE4)) fun b hb => (hM.own.blk b hb).1, ss ++ [r], ?_⟩, by simp only []; omega⟩
    rw [List.replicate_succ']
    exact hM5
  · have : a = n := by omega
    subst this
    refine LD_bs1 hb2 ?_
    have e0 : List.replicate a (rowB a fun _ => False) = matB a (arcE (p.arcs.take 0)) := by
      apply List.ext_getElem
      · simp [matB]
      · intro c h1 h2
        rw [List.getElem_replicate, matB_get h2]
        exact rowB_congr fun b _ => by simp [arcE]
    rw [e0] at hM
    rw [h.arcs.len]
    refine ⟨IN p.arcs.length fun i w' => Ext w1 w' ∧ OwnB w1.heap.size w' out (matB a (arcE (p.arcs.take i))) ss, MN p.arcs.length, IN_zero ⟨hE2, hM⟩, ?_⟩
    rintro _ w6 ⟨i, rfl, hi, hE6, hM6⟩
    intros
    refine cond_dec (fun hlt => ?_) (fun hge2 => ?_)
    · have hi' : i < p.arcs.length := by omega
      refine (h.arcs.ext (hE1.trans hE6)).ixL hi' fun q row hrow hc => LD_sl hc ?_
      intro w7 hE7 _
      obtain ⟨x, y, he, hx, hy⟩ := hg.arc (List.getElem_mem hi')
      rw [hnt] at hx hy
      rw [he] at hrow
      have hrow7 := hrow.any.ext hE7
      have hM7 := hM6.ext hE7
      have hxl : x < (matB a (arcE (p.arcs.take i))).length := by rw [matB_len]; exact hx
      refine ⟨fun _ => False, ?_⟩
      refine hrow7.ixI (i := 0) (by simp) fun q0 _ hc0 => ⟨not_false, LD_int hc0 ?_⟩
      refine hM7.ix (i := x) hxl fun q1 r1 hr1 hO1 hc1 _ => ⟨not_false, LD_sl hc1 ⟨Chg.refl _ _, ?_⟩⟩
      refine hrow7.ixI (i := 1) (by simp) fun q2 _ hc2 => ⟨Chg.refl _ _, LD_int hc2 ⟨Chg.refl _ _, ?_⟩⟩
      rw [matB_get hxl] at hO1
      refine IX_own hO1 (i := y) (by rw [rowB_len]; exact hy) rfl fun q3 hq3 => ?_
      refine ST_mat (Q := arcE (p.arcs.take (i + 1))) (v := true) hM7 hx hy hr1 hq3 ?_ ?_ fun w8 hM8 hs8 => ?_
      · unfold arcE
        rw [List.take_succ_eq_append_getElem hi', he]
        simp
      · intro u hu v hv hne
        unfold arcE
        rw [List.take_succ_eq_append_getElem hi', he, List.mem_append, List.mem_singleton]
        simp only [List.cons.injEq, and_true, Int.natCast_inj]
        exact ⟨.inl, fun h => h.resolve_right hne⟩
      · exact IN_next h.arcs.le hi' ⟨hs8.ext0 (hE6.trans hE7) fun k hk => (hO1.blk k hk).1, hM8⟩
    · have : i = p.arcs.length := by omega
      subst this
      rw [List.take_length] at hM6
      exact ⟨hE1.trans hE6, ss, hM6.low hz1⟩

/-- Relations composed. -/
def comp2 (n : Nat) (P Q : Nat → Nat → Prop) (x z : Nat) : Prop := ∃ y, y < n ∧ P x y ∧ Q y z

theorem waTimes_ok {w : World} {s t : Sl} {n : Nat} {P Q : Nat → Nat → Prop} (hA : R w s (matB n P)) (hB : R w t (matB n Q)) (hn : n ≤ 12) :
    Calls Tryz.prog F.s_waTimes #[s.v, t.v] w (Ret [.at .sl] fun (r : Sl) w' => Ext w w' ∧ SlR (fun b => w.heap.size ≤ b) w' r (matB n (comp2 n P Q))) := by
  refine C_s_waTimes ?_
  unfold V_s_waTimes
  rw [hA.len, matB_len]
  refine ⟨IN2 n fun i (out : Sl) w' => Ext w w' ∧ ∃ ss, OwnB w.heap.size w' out ((matB n (comp2 n P Q)).take i) ss, MN2 n, IN2_zero ⟨Ext.refl _, [], RowsD.nil _ _ _ _⟩, ?_⟩
  rintro out _ w1 ⟨i, rfl, hi, hE1, ss, hM⟩
  intros
  refine cond_dec (fun hlt => ?_) (fun hge => ?_)
  · have hi' : i < n := by omega
    refine (hA.ext hE1).ixL (i := i) (by rw [matB_len]; exact hi') fun q row hrow hc => LD_sl hc ?_
    rw [matB_get (by rw [matB_len]; exact hi')] at hrow
    rw [hrow.len, rowB_len]
    refine RUN_make (α := Bool) slt_bool (d := false) rfl (by omega) (by unfold maxLen; omega) fun r w2 hE2 hO2 => ?_
    rw [← rowB_false n (P := fun z => ∃ y, y < 0 ∧ P i y ∧ Q y z) (fun _ _ ⟨_, h, _⟩ => by omega)] at hO2
    have hz1 := hE1.size_le
    have hz2 := hE2.size_le
    have hrl : r.len = n := by have := hO2.1; rw [rowB_len] at this; exact this
    have hob : ∀ k, oB r k → w1.heap.size ≤ k := fun k hk => (hO2.blk k hk).1
    rw [hrl]
    refine ⟨IN n fun k w' => Chg w2 w' (oB r) ∧ OwnL w' w1.heap.size T.t_bool r (rowB n fun z => ∃ y, y < k ∧ P i y ∧ Q y z), MN n, IN_zero ⟨Chg.refl _ _, hO2⟩, ?_⟩
    rintro _ w3 ⟨k, rfl, hk, hC3, hO3⟩
    intros
    refine cond_dec (fun hlt2 => ?_) (fun hge2 => ?_)
    · have hk' : k < n := by omega
      have hE03 : Ext w1 w3 := hC3.ext0 hE2 hob
      refine (hrow.any.ext hE03).ixB (i := k) (by rw [rowB_len]; exact hk') fun q2 hc2 => LD_bool hc2 ?_
      have hrk : (rowB n (P i))[k]'(by rw [rowB_len]; exact hk') = true ↔ P i k := rowB_get _
      generalize (rowB n (P i))[k]'(by rw [rowB_len]; exact hk') = vk at hrk
      refine ⟨IN n fun j w' => Chg w3 w' (oB r) ∧ OwnL w' w1.heap.size T.t_bool r (rowB n fun z => ∃ y, (y < k ∨ (y = k ∧ z < j)) ∧ P i y ∧ Q y z), MN n, IN_zero ⟨Chg.refl _ _, ?_⟩, ?_⟩
      · have e : (rowB n fun z => ∃ y, (y < k ∨ (y = k ∧ z < 0)) ∧ P i y ∧ Q y z) = rowB n fun z => ∃ y, y < k ∧ P i y ∧ Q y z := rowB_congr fun z _ => ⟨fun ⟨y, h, h2⟩ => ⟨y, by omega, h2⟩, fun ⟨y, h, h2⟩ => ⟨y, .inl h, h2⟩⟩
        rw [e]; exact hO3
      rintro _ w4 ⟨j, rfl, hj, hC4, hO4⟩
      intros
      refine cond_dec (fun hlt3 => ?_) (fun hge3 => ?_)
      · have hj' : j < n := by omega
        have hE04 : Ext w1 w4 := hC4.ext0 hE03 hob
        have hjl : j < (rowB n fun z => ∃ y, (y < k ∨ (y = k ∧ z < j)) ∧ P i y ∧ Q y z).length := by rw [rowB_len]; exact hj'
        have fin : ∀ {v : Bool} {q3 : Addr}, Plc r j 1 q3 → (v = true ↔ ∃ y, (y < k ∨ (y = k ∧ j < j + 1)) ∧ P i y ∧ Q y j) → GX.ST q3 0 [.bool v] w4 fun w5 => IN n (fun j w' => Chg w3 w' (oB r) ∧ OwnL w' w1.heap.size T.t_bool r (rowB n fun z => ∃ y, (y < k ∨ (y = k ∧ z < j)) ∧ P i y ∧ Q y z)) (IntKind.i64.wrap ((j : Int) + 1)) w5 ∧ MN n (IntKind.i64.wrap ((j : Int) + 1)) w5 < MN n (j : Int) w4 := fun {v q3} hq3 hv => by
          refine ST_own (α := Bool) hO4 hjl hq3 v rfl fun w5 hO5 hs5 => IN_next (by omega) hj' ⟨hC4.trans (.of_step hs5 fun k hk => hk), ?_⟩
          rw [rowB_set (Q := fun z => ∃ y, (y < k ∨ (y = k ∧ z < j + 1)) ∧ P i y ∧ Q y z) hv (fun c hc hne => ⟨fun ⟨y, h, h2⟩ => ⟨y, by omega, h2⟩, fun ⟨y, h, h2⟩ => ⟨y, by omega, h2⟩⟩)] at hO5
          exact hO5
        refine (hO4.rep fun _ _ => trivial).any.ixB hjl fun q3 hc3 => LD_bool hc3 ?_
        have hold := rowB_get hjl
        generalize (rowB n fun z => ∃ y, (y < k ∨ (y = k ∧ z < j)) ∧ P i y ∧ Q y z)[j] = old at hold
        refine cond_b (fun ht => IX_own hO4 hjl rfl fun q4 hq4 => fin hq4 ⟨fun _ => ?_, fun _ => rfl⟩) (fun hf => ?_)
        · obtain ⟨y, h1, h2⟩ := hold.1 ht
          exact ⟨y, by omega, h2⟩
        · have hno : ¬ ∃ y, y < k ∧ P i y ∧ Q y j := fun ⟨y, h1, h2⟩ => by rw [hold.2 ⟨y, .inl h1, h2⟩] at hf; cases hf
          refine cond_b (fun htk => ?_) (fun hfk => IX_own hO4 hjl rfl fun q4 hq4 => fin hq4 ⟨(fun hh => by cases hh), fun ⟨y, h1, h2, h3⟩ => ?_⟩)
          · refine (hB.ext (hE1.trans hE04)).ixL (i := k) (by rw [matB_len]; exact hk') fun q5 row2 hrow2 hc5 => LD_sl hc5 ?_
            rw [matB_get (by rw [matB_len]; exact hk')] at hrow2
            have hjl2 : j < (rowB n (Q k)).length := by rw [rowB_len]; exact hj'
            refine hrow2.any.ixB hjl2 fun q6 hc6 => LD_bool hc6 ?_
            refine IX_own hO4 hjl rfl fun q4 hq4 => fin hq4 ?_
            rw [rowB_get hjl2]
            constructor
            · intro hq
              exact ⟨k, .inr ⟨rfl, by omega⟩, hrk.1 htk, hq⟩
            · rintro ⟨y, h1, h2, h3⟩
              rcases h1 with h1 | ⟨rfl, _⟩
              · exact absurd ⟨y, h1, h2, h3⟩ hno
              · exact h3
          · exfalso
            rcases h1 with h1 | ⟨rfl, _⟩
            · exact hno ⟨y, h1, h2, h3⟩
            · rw [hrk.2 h2] at hfk; cases hfk
      · have : j = n := by omega
        subst this
        have e : (rowB j fun z => ∃ y, (y < k ∨ (y = k ∧ z < j)) ∧ P i y ∧ Q y z) = rowB j fun z => ∃ y, y < k + 1 ∧ P i y ∧ Q y z := rowB_congr fun z hz => ⟨fun ⟨y, h, h2⟩ => ⟨y, by omega, h2⟩, fun ⟨y, h, h2⟩ => ⟨y, by omega, h2⟩⟩
        rw [e] at hO4
        exact IN_next (by omega) hk' ⟨hC3.trans hC4, hO4⟩
    · have : k = n := by omega
      subst this
      have hE03 : Ext w1 w3 := hC3.ext0 hE2 hob
      have hz3 := hC3.size
      refine RUN_lit1 (α := Sl) slt_rowsB r rfl (by decide) fun y w8 hE8 hO8 => ?_
      have hz8 := hE8.size_le
      refine RUN_append_rowD slt_rowsB (by decide) (hM.ext (hE03.trans hE8)) (by omega) ((hO3.ext hE8).low hz1) (hM.fresh hO3 (Nat.le_refl _)) hO8 (by simp [matB_len]; omega) (by simp [maxLen, matB_len]; omega) fun s' w9 hM9 hs9 => ?_
      refine IN2_next (by omega) hi' ⟨hs9.ext0 (hE1.trans (hE03.trans hE8)) fun b hb => (hM.own.blk b hb).1, ss ++ [r], ?_⟩
      have hil : i < (matB k (comp2 k P Q)).length := by rw [matB_len]; exact hi'
      rw [List.take_succ_eq_append_getElem hil, matB_get hil]
      exact hM9
  · have : i = n := by omega
    subst this
    rw [List.take_of_length_le (by rw [matB_len]; exact Nat.le_refl _)] at hM
    exact ⟨hE1, hM.repD⟩

end Go.Proofs.YtfiginahjofdnaaGreat
end

section
/- Walk problems, the reference: powers of the relation, what walks of some length reach. -/
namespace Go.Proofs.YtfiginahjofdnaaGreat
open Go.GX Go.RowKit
set_option maxRecDepth 100000

theorem rwk_nil {w : World} {x : Int} (hx : I64 x) : RWk w ⟨none, 0, 0⟩ ⟨x, []⟩ := ⟨hx, (RowsD.nil (α := Int) w 0 T.t_int T.t_sl_int).rep (by simp)⟩
theorem wgood_nil {x : Int} (hx : 1 ≤ x ∧ x ≤ 12) : WGood ⟨x, []⟩ := ⟨hx, ⟨by simp, by simp, fun i h => by simp at h⟩⟩

noncomputable def powL (E : Nat → Nat → Prop) (n m : Nat) : List (List (List Bool)) := (List.range m).map fun k => matB n (Wk E k)
theorem powL_len (E : Nat → Nat → Prop) (n m : Nat) : (powL E n m).length = m := by simp [powL]
theorem powL_get {E : Nat → Nat → Prop} {n m k : Nat} (h : k < (powL E n m).length) : (powL E n m)[k] = matB n (Wk E k) := by simp [powL]
theorem powL_snoc (E : Nat → Nat → Prop) (n m : Nat) : powL E n (m + 1) = powL E n m ++ [matB n (Wk E m)] := by
  unfold powL
  rw [List.range_succ, List.map_append, List.map_singleton]

theorem comp2_wk {E : Nat → Nat → Prop} {n k : Nat} (hE : ∀ x y, E x y → x < n ∧ y < n) : matB n (comp2 n (Wk E k) E) = matB n (Wk E (k + 1)) := matB_congr fun _ _ b _ => ⟨fun ⟨y, _, h1, h2⟩ => ⟨y, h1, h2⟩, fun ⟨y, h1, h2⟩ => ⟨y, (hE y b h2).1, h1, h2⟩⟩

theorem waMay_nil {w : World} {x : Int} (h : I64 x) (hx : 1 ≤ x ∧ x ≤ 12) :
    Calls Tryz.prog F.s_waMay #[.agg #[.int .i64 x, .slice none 0 0]] w (Ret [.at .sl] fun (r : Sl) w' => Ext w w' ∧ ∃ ss, OwnB w.heap.size w' r (matB x.toNat fun _ _ => False) ss) := by
  have e : matB x.toNat (arcE ([] : List (List Int))) = matB x.toNat fun _ _ => False := matB_congr fun a _ b _ => by simp [arcE]
  have h0 := waMay_ok (w := w) (s := ⟨none, 0, 0⟩) (p := ⟨x, []⟩) (rwk_nil h) (wgood_nil hx)
  rw [e] at h0
  exact h0

theorem waPowers_ok {w : World} {s : Sl} {p : WPr} {m : Nat} (h : RWk w s p) (hg : WGood p) (hm : m ≤ 1000) :
    Calls Tryz.prog F.s_waPowers #[.agg #[.int .i64 p.labels, s.v], .int .i64 m] w (Ret [.at .sl] fun (r : Sl) w' => Ext w w' ∧ SlR (fun b => w.heap.size ≤ b) w' r (powL (arcE p.arcs) p.labels.toNat (m + 1))) := by
  refine C_s_waPowers ?_
  unfold V_s_waPowers
  refine NEW_intro fun pp w1 hp1 hs1 hE1 hb1 => LD_bi0 hb1 ?_
  have hl := hg.lab
  have hz1 := hE1.size_le
  refine call (waMay_nil h.lab hl) ?_
  rintro r w2 ⟨hE2, ss, hM2⟩
  have hrel : ∀ x y, arcE p.arcs x y → x < p.labels.toNat ∧ y < p.labels.toNat := fun x y hxy => hg.rel hxy
  have hmay := fun {w : World} (h : RWk w s p) => waMay_ok h hg
  generalize arcE p.arcs = E at *
  generalize hnn : p.labels.toNat = n at *
  have hn12 : n ≤ 12 := by omega
  have hM2' : OwnB w1.heap.size w2 r (matB n fun x y => x = y ∧ x < 0) ss := by
    have e : (matB n fun _ _ => False) = matB n fun x y => x = y ∧ x < 0 := matB_congr fun a _ b _ => ⟨fun hh => hh.elim, fun hh => by omega⟩
    rw [e] at hM2
    exact hM2
  have hz2 := hE2.size_le
  have hrl : r.len = n := by have := hM2'.own.1; rw [hM2'.len, matB_len] at this; exact this
  rw [hrl]
  refine ⟨IN n fun i w' => Ext w1 w' ∧ OwnB w1.heap.size w' r (matB n fun x y => x = y ∧ x < i) ss, MN n, IN_zero ⟨hE2, hM2'⟩, ?_⟩
  rintro _ w3 ⟨i, rfl, hi, hE3, hM3⟩
  intros
  refine cond_dec (fun hlt => ?_) (fun hge => ?_)
  · have hi' : i < n := by omega
    have hil : i < (matB n fun x y => x = y ∧ x < i).length := by rw [matB_len]; exact hi'
    refine hM3.ix hil fun q r1 hr1 hO1 hc1 _ => LD_sl hc1 ?_
    rw [matB_get hil] at hO1
    refine IX_own hO1 (i := i) (by rw [rowB_len]; exact hi') rfl fun q3 hq3 => ?_
    refine ST_mat (Q := fun x y => x = y ∧ x < i + 1) (v := true) hM3 hi' hi' hr1 hq3 ⟨fun _ => ⟨rfl, by omega⟩, fun _ => rfl⟩ (fun x hx y hy hne => ⟨fun hh => ⟨hh.1, by omega⟩, fun hh => ⟨hh.1, by
      by_cases he : x = i
      · exact absurd ⟨he, hh.1 ▸ he⟩ hne
      · omega⟩⟩) fun w4 hM4 hs4 => ?_
    exact IN_next (by omega) hi' ⟨hs4.ext0 hE3 fun k hk => (hO1.blk k hk).1, hM4⟩
  · have : i = n := by omega
    subst this
    have hM3' : OwnB w1.heap.size w3 r (matB i (Wk E 0)) ss := by
      have e : (matB i fun x y => x = y ∧ x < i) = matB i (Wk E 0) := matB_congr fun a ha b _ => ⟨fun hh => hh.1, fun hh => ⟨hh, ha⟩⟩
      rw [e] at hM3; exact hM3
    refine RUN_lit1 (α := Sl) slt_matsB r rfl (by decide) fun y w5 hE5 hO5 => ?_
    have hE15 := hE3.trans hE5
    have hz3 := hE3.size_le
    refine LD_is (hb1.ext hE15) ?_
    refine call (hmay (h.ext (hE1.trans hE15))) ?_
    rintro t w6 ⟨hE6, ss6, hM6⟩
    have hE16 := hE15.trans hE6
    have hz5 := hE5.size_le
    have hz6 := hE6.size_le
    have hX6 : RowsX (fun b => b < w1.heap.size) w1.heap.size T.t_sl_sl_bool w6 y (powL E i 1) := by
      refine ⟨[r], (hO5.ext hE6).low hz3, rfl, fun j h1 h2 => ?_⟩
      have hj : j = 0 := by simp at h1; omega
      subst hj
      have e : (powL E i 1)[0] = matB i (Wk E 0) := powL_get h2
      rw [e]
      exact ((hM3'.repD.weak (fun b hb hlt => ⟨fun he => by have := (hO5.blk b he).1; omega, fun hh => by have h3 : w1.heap.size ≤ b := hb; have h4 : b < w1.heap.size := hh; omega⟩) RepP.pos).ext hE5).ext hE6
    have hY : ∀ b, oB y b → w3.heap.size ≤ b ∧ b < w5.heap.size := fun b hb => hO5.blk b hb
    refine ⟨fun (out : Sl) w' => ∃ k : Nat, k ≤ m ∧ Chg w6 w' (fun b => oB y b ∨ w6.heap.size ≤ b) ∧ (∀ b, oB out b → oB y b ∨ w6.heap.size ≤ b) ∧ RowsX (fun b => b < w1.heap.size) w1.heap.size T.t_sl_sl_bool w' out (powL E i (k + 1)), fun out _ => m + 1 - out.len, ⟨0, by omega, Chg.refl _ _, fun b hb => .inl hb, hX6⟩, ?_⟩
    rintro out w7 ⟨k, hk, hC7, hob7, hX7⟩
    intros
    have hlen : out.len = k + 1 := by have := hX7.rep.len; rw [powL_len] at this; exact this
    have hE17 : Ext w1 w7 := hC7.ext0 hE16 fun b hb => by
      rcases hb with hb | hb
      · have := (hY b hb).1; omega
      · omega
    have hz7 := hC7.size
    refine cond_dec (fun hlt => ?_) (fun hge2 => ?_)
    · have hk' : k < m := by rw [hlen] at hlt; omega
      have e1 : IntKind.i64.wrap ((out.len : Int) - 1) = (k : Int) := by rw [hlen, wrap_of (by omega) (by omega)]; omega
      rw [e1]
      have hRt : R w7 t (matB i E) := (hM6.repD.chg hC7 fun b hb hlt hD => by
        have h1 : w5.heap.size ≤ b := hb
        rcases hD with hD | hD
        · have := (hY b hD).2; omega
        · omega).any
      have hkl : k < (powL E i (k + 1)).length := by rw [powL_len]; omega
      refine hX7.rep.ixL hkl fun q mrow hmrow hc => LD_sl hc ?_
      rw [powL_get hkl] at hmrow
      refine call (waTimes_ok hmrow.any hRt hn12) ?_
      rintro u w8 ⟨hE8, hR8⟩
      rw [comp2_wk hrel] at hR8
      refine RUN_lit1 (α := Sl) slt_matsB u rfl (by decide) fun y9 w9 hE9 hO9 => ?_
      have hz8 := hE8.size_le
      have hz9 := hE9.size_le
      have hE79 := hE8.trans hE9
      refine RUN_append_X slt_matsB hX7 (by omega) hE79 ((hR8.weak (fun b hb _ => ⟨fun he => by have h1 := (hX7.blk he).2; have h2 : w7.heap.size ≤ b := hb; omega, fun hh => by have h2 : w7.heap.size ≤ b := hb; have h3 : b < w1.heap.size := hh; omega⟩) RepP.pos).ext hE9) hO9 (by rw [powL_len]; omega) (by rw [powL_len]; unfold maxLen; omega) fun s' w10 hX10 hs10 hN10 => ?_
      rw [← powL_snoc] at hX10
      have hlen' : s'.len = k + 1 + 1 := by have := hX10.rep.len; rw [powL_len] at this; exact this
      refine ⟨⟨k + 1, by omega, (hC7.trans (.of_ext hE79)).trans (.of_step hs10 hob7), fun b hb => ?_, hX10⟩, by simp only [hlen, hlen']; omega⟩
      rcases hN10 with hN | hN
      · exact hob7 b (show out.v.ownBlock = some b from hN ▸ hb)
      · have := hN b hb; exact .inr (by omega)
    · have : k = m := by rw [hlen] at hge2; omega
      subst this
      obtain ⟨ss7, hO7, hl7, hr7⟩ := hX7.ex
      refine ⟨hE1.trans hE17, ?_⟩
      exact OwnL.rows (D := fun b => w.heap.size ≤ b) hO7 hl7 (fun j h1 h2 => (hr7 j h1 h2).weak (fun b hb _ => by have := hb.2; omega) RepP.pos) (fun b hb => by omega)

/-- What is known of walks when some places are done. -/
def rchS (E : Nat → Nat → Prop) (k a b : Nat) (x y : Nat) : Prop := ∃ j, 0 < j ∧ Wk E j x y ∧ (j < k ∨ (j = k ∧ (x < a ∨ (x = a ∧ y < b))))
theorem rchS_row (E : Nat → Nat → Prop) (k a n : Nat) : matB n (rchS E k a n) = matB n (rchS E k (a + 1) 0) := matB_congr fun x hx y hy => by
  unfold rchS
  exact ⟨fun ⟨j, h1, h2, h3⟩ => ⟨j, h1, h2, by omega⟩, fun ⟨j, h1, h2, h3⟩ => ⟨j, h1, h2, by omega⟩⟩
theorem rchS_mat (E : Nat → Nat → Prop) (k n : Nat) : matB n (rchS E k n 0) = matB n (rchS E (k + 1) 0 0) := matB_congr fun x hx y hy => by
  unfold rchS
  exact ⟨fun ⟨j, h1, h2, h3⟩ => ⟨j, h1, h2, by omega⟩, fun ⟨j, h1, h2, h3⟩ => ⟨j, h1, h2, by omega⟩⟩

def reachE (E : Nat → Nat → Prop) (x y : Nat) : Prop := ∃ j, 0 < j ∧ Wk E j x y

theorem waReach_ok {w : World} {s : Sl} {p : WPr} (h : RWk w s p) (hg : WGood p) :
    Calls Tryz.prog F.s_waReach #[.agg #[.int .i64 p.labels, s.v]] w (Ret [.at .sl] fun (r : Sl) w' => Ext w w' ∧ R w' r (matB p.labels.toNat (reachE (arcE p.arcs)))) := by
  refine C_s_waReach ?_
  unfold V_s_waReach
  refine NEW_intro fun pp w1 hp1 hs1 hE1 hb1 => LD_bi0 hb1 ?_
  have hl := hg.lab
  have hz1 := hE1.size_le
  refine call (waMay_nil h.lab hl) ?_
  rintro r w2 ⟨hE2, ss, hM2⟩
  have hE12 := hE1.trans hE2
  have hb2 := hb1.ext hE2
  refine LD_is hb2 (LD_bi0 hb2 ?_)
  have hlabn : p.labels = ((p.labels.toNat : Nat) : Int) := by omega
  have hpow := waPowers_ok (m := p.labels.toNat) (h.ext hE12) hg (by omega)
  rw [← hlabn] at hpow
  refine call hpow ?_
  rintro t w3 ⟨hE3, hR3⟩
  have hrel : ∀ x y, arcE p.arcs x y → y < p.labels.toNat := fun x y hxy => (hg.rel hxy).2
  clear hpow hlabn
  generalize arcE p.arcs = E at *
  generalize hnn : p.labels.toNat = n at *
  have hn12 : n ≤ 12 := by omega
  have hz2 := hE2.size_le
  have hz3 := hE3.size_le
  have hrowb : ∀ (a : Nat) (q : Sl), ss[a]? = some q → ∀ k, q.v.ownBlock = some k → w1.heap.size ≤ k ∧ k < w2.heap.size := fun a q hq k hk => by
    have hal : a < (matB n fun _ _ => False).length := by rw [← hM2.len]; exact (List.getElem?_eq_some_iff.1 hq).1
    exact (hM2.row a q (matB n fun _ _ => False)[a] hq (by simp [hal])).blk k hk
  have hE03 := hE12.trans hE3
  rw [hR3.len, powL_len]
  have e0 : (matB n fun _ _ => False) = matB n (rchS E 0 0 0) := matB_congr fun x _ y _ => ⟨fun hh => hh.elim, fun ⟨j, _, _, h3⟩ => by omega⟩
  rw [e0] at hM2
  refine ⟨IN (n + 1) fun k w' => Chg w3 w' (fun b => w1.heap.size ≤ b ∧ b < w2.heap.size) ∧ OwnB w1.heap.size w' r (matB n (rchS E k 0 0)) ss, MN (n + 1), IN_zero ⟨Chg.refl _ _, hM2.ext hE3⟩, ?_⟩
  rintro _ w4 ⟨k, rfl, hk, hC4, hM4⟩
  intros
  refine cond_dec (fun hlt => ?_) (fun hge => ?_)
  · have hk' : k < n + 1 := by omega
    have hkl : k < (powL E n (n + 1)).length := by rw [powL_len]; exact hk'
    have keepD : ∀ {α : Type} [RepP α] {u : Sl} {l : List α} {wa wb : World}, SlR (fun b => w2.heap.size ≤ b) wa u l → Chg wa wb (fun b => w1.heap.size ≤ b ∧ b < w2.heap.size) → SlR (fun b => w2.heap.size ≤ b) wb u l := fun hR hC => hR.chg hC fun b hb _ hD => by have h1 : w2.heap.size ≤ b := hb; omega
    refine (keepD hR3 hC4).ixL hkl fun q mrow hmrow hc => LD_sl hc ?_
    rw [powL_get hkl] at hmrow
    rw [hmrow.len, matB_len]
    refine ⟨IN n fun a w' => Chg w4 w' (fun b => w1.heap.size ≤ b ∧ b < w2.heap.size) ∧ OwnB w1.heap.size w' r (matB n (rchS E k a 0)) ss, MN n, IN_zero ⟨Chg.refl _ _, hM4⟩, ?_⟩
    rintro _ w5 ⟨a, rfl, ha, hC5, hM5⟩
    intros
    refine cond_dec (fun hlt2 => ?_) (fun hge2 => ?_)
    · have ha' : a < n := by omega
      have hal : a < (matB n (Wk E k)).length := by rw [matB_len]; exact ha'
      refine (keepD hmrow hC5).ixL hal fun q2 row hrow hc2 => LD_sl hc2 ?_
      rw [matB_get hal] at hrow
      rw [hrow.len, rowB_len]
      refine ⟨IN n fun b w' => Chg w5 w' (fun b => w1.heap.size ≤ b ∧ b < w2.heap.size) ∧ OwnB w1.heap.size w' r (matB n (rchS E k a b)) ss, MN n, IN_zero ⟨Chg.refl _ _, hM5⟩, ?_⟩
      rintro _ w6 ⟨b, rfl, hb, hC6, hM6⟩
      intros
      refine cond_dec (fun hlt3 => ?_) (fun hge3 => ?_)
      · have hb' : b < n := by omega
        have hbl : b < (rowB n (Wk E k a)).length := by rw [rowB_len]; exact hb'
        refine (keepD hrow hC6).ixB hbl fun q3 hc3 => LD_bool hc3 ?_
        have hx37 := rowB_get hbl
        generalize (rowB n (Wk E k a))[b] = x37 at hx37
        intro w7 hE7 _
        have hM7 := hM6.ext hE7
        have hal2 : a < (matB n (rchS E k a b)).length := by rw [matB_len]; exact ha'
        have hnD : ∀ {q : Addr}, r.v.ownBlock = some q.block → ¬ ∃ (i : Nat) (u : Sl), ss[i]? = some u ∧ u.v.ownBlock = some q.block := fun hq ⟨i, u, h1, h2⟩ => hM7.block_ne (by decide) h1 h2 hq
        refine ⟨fun c => ∃ (i : Nat) (u : Sl), ss[i]? = some u ∧ u.v.ownBlock = some c, ?_⟩
        refine hM7.ix hal2 fun q4 r1 hr1 hO1 hc4 hq4 => ⟨hnD hq4, LD_sl hc4 ?_⟩
        refine hM7.ix hal2 fun q5 r2 hr2 hO2 hc5 hq5 => ⟨hnD hq5, LD_sl hc5 ⟨Chg.refl _ _, ?_⟩⟩
        rw [hr1] at hr2; cases hr2
        rw [matB_get hal2] at hO1
        have hbl2 : b < (rowB n (rchS E k a b a)).length := by rw [rowB_len]; exact hb'
        refine (hO1.rep fun _ _ => trivial).any.ixB hbl2 fun q6 hc6 => ⟨Chg.refl _ _, LD_bool hc6 ⟨Chg.refl _ _, Chg.refl _ _, ?_⟩⟩
        have hx49 := rowB_get hbl2
        generalize (rowB n (rchS E k a b a))[b] = x49 at hx49
        have hold : rchS E k a b a b ↔ ∃ j, 0 < j ∧ Wk E j a b ∧ j < k := ⟨fun ⟨j, h1, h2, h3⟩ => ⟨j, h1, h2, by omega⟩, fun ⟨j, h1, h2, h3⟩ => ⟨j, h1, h2, .inl h3⟩⟩
        have hnew : rchS E k a (b + 1) a b ↔ ∃ j, 0 < j ∧ Wk E j a b ∧ j ≤ k := ⟨fun ⟨j, h1, h2, h3⟩ => ⟨j, h1, h2, by omega⟩, fun ⟨j, h1, h2, h3⟩ => ⟨j, h1, h2, by omega⟩⟩
        have fin : ∀ {v : Bool} {q7 : Addr}, Plc r1 b 1 q7 → (v = true ↔ rchS E k a (b + 1) a b) → GX.ST q7 0 [.bool v] w7 fun w8 => Chg w7 w8 (fun c => ∃ (i : Nat) (u : Sl), ss[i]? = some u ∧ u.v.ownBlock = some c) ∧ IN n (fun b w' => Chg w5 w' (fun b => w1.heap.size ≤ b ∧ b < w2.heap.size) ∧ OwnB w1.heap.size w' r (matB n (rchS E k a b)) ss) (IntKind.i64.wrap ((b : Int) + 1)) w8 ∧ MN n (IntKind.i64.wrap ((b : Int) + 1)) w8 < MN n (b : Int) w6 := fun {v q7} hq7 hv => by
          refine ST_mat (Q := rchS E k a (b + 1)) hM7 ha' hb' hr1 hq7 hv (fun x hx y hy hne => ?_) fun w8 hM8 hs8 => ?_
          · unfold rchS
            exact ⟨fun ⟨j, h1, h2, h3⟩ => ⟨j, h1, h2, by omega⟩, fun ⟨j, h1, h2, h3⟩ => ⟨j, h1, h2, by
              by_cases he : x = a
              · have : y ≠ b := fun hy => hne ⟨he, hy⟩
                omega
              · omega⟩⟩
          · have hC8 : Chg w7 w8 (fun b => w1.heap.size ≤ b ∧ b < w2.heap.size) := .of_step hs8 fun k hk => hrowb a r1 hr1 k hk
            exact ⟨.of_step hs8 fun k hk => ⟨a, r1, hr1, hk⟩, IN_next (by omega) hb' ⟨(hC6.trans (.of_ext hE7)).trans hC8, hM8⟩⟩
        have cr := fun D => Chg.refl w7 D
        refine cond_b (fun ht => ⟨cr _, IX_own hO1 hbl2 rfl fun q7 hq7 => ⟨cr _, fin hq7 ⟨fun _ => ?_, fun _ => rfl⟩⟩⟩) (fun hf => ⟨cr _, cr _, ?_⟩)
        · obtain ⟨j, h1, h2, h3⟩ := hold.1 (hx49.1 ht)
          exact hnew.2 ⟨j, h1, h2, by omega⟩
        · have hno : ¬ ∃ j, 0 < j ∧ Wk E j a b ∧ j < k := fun hh => by rw [hx49.2 (hold.2 hh)] at hf; cases hf
          refine cond_b (fun ht2 => ⟨cr _, cr _, cr _, cr _, IX_own hO1 hbl2 rfl fun q7 hq7 => ⟨cr _, fin hq7 ?_⟩⟩) (fun hf2 => ⟨cr _, cr _, IX_own hO1 hbl2 rfl fun q7 hq7 => ⟨cr _, fin hq7 ⟨(fun hh => by cases hh), fun hh => ?_⟩⟩⟩)
          · rw [hnew, decide_eq_true_eq]
            constructor
            · intro hk0
              exact ⟨k, by omega, hx37.1 ht2, by omega⟩
            · rintro ⟨j, h1, h2, h3⟩
              omega
          · obtain ⟨j, h1, h2, h3⟩ := hnew.1 hh
            by_cases hjk : j = k
            · subst hjk
              rw [hx37.2 h2] at hf2; cases hf2
            · exact absurd ⟨j, h1, h2, by omega⟩ hno
      · have : b = n := by omega
        subst this
        rw [rchS_row] at hM6
        exact IN_next (by omega) ha' ⟨hC5.trans hC6, hM6⟩
    · have : a = n := by omega
      subst this
      rw [rchS_mat] at hM5
      exact IN_next (by omega) hk' ⟨hC4.trans hC5, hM5⟩
  · have : k = n + 1 := by omega
    subst this
    refine ⟨hC4.ext0 hE03 fun b hb => by have := hb.1; omega, ?_⟩
    have e1 : matB n (rchS E (n + 1) 0 0) = matB n (reachE E) := matB_congr fun x _ y _ => ⟨fun ⟨j, h1, h2, _⟩ => ⟨j, h1, h2⟩, fun ⟨j, h1, h2⟩ => by
      obtain ⟨j', h3, h4, h5⟩ := h2.short hrel h1
      exact ⟨j', h3, h5, by omega⟩⟩
    rw [e1] at hM4
    exact hM4.repD.any

end Go.Proofs.YtfiginahjofdnaaGreat
end

section
/- The least number that is free, and the rounds that drop a colour: DropColour, both sides. -/
namespace Go.Proofs.YtfiginahjofdnaaGreat
open Go.GX Go.RowKit
set_option maxRecDepth 100000

/-- The least number that is not in a list. -/
def mex (l : List Int) : Nat := ((List.range (l.length + 1)).find? fun (u : Nat) => !l.contains (u : Int)).getD 0

theorem mex_le (l : List Int) : mex l ≤ l.length := by
  unfold mex
  cases h : (List.range (l.length + 1)).find? (fun (u : Nat) => !l.contains (u : Int)) with
  | none => simp
  | some c => have := List.mem_of_find?_eq_some h; simp at this; simp; omega

theorem near_len {n : Net} (hg : Good n) (l : List Int) {v : Nat} (hv : v < n.ends.length) : (nearOf n.ends l v).length ≤ 6 := by
  rw [near_adj, List.length_map, adj_len hg hv]; exact hg.deg hv


/-! ### Dropping -/

def dropAt (E : Ends) (l : List Int) (c : Int) (v : Nat) : Int := if l.getD v 0 = c then mex (nearOf E l v) else l.getD v 0
def dropOf (E : Ends) (l : List Int) (c : Int) : List Int := (List.range l.length).map (dropAt E l c)

theorem dropOf_len (E : Ends) (l : List Int) (c : Int) : (dropOf E l c).length = l.length := by simp [dropOf]

theorem dropAt_I64 {n : Net} (hg : Good n) {l : List Int} (hl : ∀ x ∈ l, I64 x) (hlen : l.length = n.ends.length) (c : Int) : ∀ v < l.length, I64 (dropAt n.ends l c v) := by
  intro v hv
  unfold dropAt
  split
  · have := mex_le (nearOf n.ends l v)
    have := near_len hg l (v := v) (by omega)
    unfold I64; omega
  · simp [hv]; exact hl _ (List.getElem_mem hv)

theorem dropOf_I64 {n : Net} (hg : Good n) {l : List Int} (hl : ∀ x ∈ l, I64 x) (hlen : l.length = n.ends.length) (c : Int) : ∀ x ∈ dropOf n.ends l c, I64 x := by
  intro x hx
  obtain ⟨v, hv, rfl⟩ := List.mem_map.1 hx
  exact dropAt_I64 hg hl hlen c v (by simpa using hv)

structure DropAsked (n : Net) (l : List Int) (c : Int) : Prop where
  good : Good n
  proper : Proper n l
  whole : inR c 0 1000000000000 = true

end Go.Proofs.YtfiginahjofdnaaGreat
end

section
/- Degrees, greatest numbers, palettes; GreedyReduce, both sides. -/
namespace Go.Proofs.YtfiginahjofdnaaGreat
open Go.GX Go.RowKit
set_option maxRecDepth 100000

/-! ### The greatest number -/

def most2 (a b : Int) : Int := if a > b then a else b
def mostOf (l : List Int) : Int := l.foldl most2 0

theorem mostOf_spec (l : List Int) : 0 ≤ mostOf l ∧ (∀ x ∈ l, x ≤ mostOf l) ∧ (mostOf l = 0 ∨ mostOf l ∈ l) := by
  unfold mostOf
  have : ∀ (l : List Int) (m : Int), 0 ≤ m → 0 ≤ l.foldl most2 m ∧ m ≤ l.foldl most2 m ∧ (∀ x ∈ l, x ≤ l.foldl most2 m) ∧ (l.foldl most2 m = m ∨ l.foldl most2 m ∈ l) := by
    intro l
    induction l with
    | nil => intro m hm; simp; exact hm
    | cons y r ih =>
      intro m hm
      have hy : m ≤ most2 m y ∧ y ≤ most2 m y ∧ (most2 m y = m ∨ most2 m y = y) := by
        unfold most2; split <;> omega
      obtain ⟨h1, h2, h3, h4⟩ := ih (most2 m y) (by omega)
      rw [List.foldl_cons]
      refine ⟨h1, by omega, fun x hx => ?_, ?_⟩
      · rcases List.mem_cons.1 hx with rfl | hx
        · omega
        · exact h3 x hx
      · rcases h4 with h4 | h4
        · rcases hy.2.2 with h5 | h5
          · left; rw [h4, h5]
          · right; rw [h4, h5]; simp
        · right; exact List.mem_cons_of_mem _ h4
  obtain ⟨h1, _, h3, h4⟩ := this l 0 (by omega)
  exact ⟨h1, h3, h4⟩

theorem l1Most_ok (a b : Int) (w : World) : Calls Tryz.prog F.s_l1Most #[.int .i64 a, .int .i64 b] w (Ret [.at (.int .i64)] fun (r : Int) w' => r = most2 a b ∧ w = w') := by
  refine C_s_l1Most ?_
  unfold V_s_l1Most most2
  exact cond_dec (fun h => ⟨by rw [if_pos h], rfl⟩) (fun h => ⟨by rw [if_neg h], rfl⟩)

/-! ### Degrees -/

def degsOf (E : Ends) : List Int := E.map fun r => (r.length : Int)

/-! ### What is asked -/

structure PalAsked (n : Net) (l : List Int) (k a : Int) : Prop where
  good : Good n
  pal : 1 ≤ k ∧ k ≤ 1000000000000
  bound : 0 ≤ a ∧ a ≤ 6
  proper : Proper n l
  all : AllIn l 0 (k - 1)
  degs : mostOf (degsOf n.ends) ≤ a

theorem PalAsked.deg {n : Net} {l : List Int} {k a : Int} (h : PalAsked n l k a) {v : Nat} (hv : v < n.ends.length) : (n.ends[v].length : Int) ≤ a := by
  have := (mostOf_spec (degsOf n.ends)).2.1 (n.ends[v].length : Int) (List.mem_map.2 ⟨_, List.getElem_mem hv, rfl⟩)
  have := h.degs
  omega

/-! ### Dropping the greatest colours -/

/-- What a list of colours must be for the rounds. -/
structure ColsOk (n : Net) (a : Int) (l : List Int) : Prop where
  good : Good n
  len : l.length = n.ends.length
  nn : ∀ x ∈ l, 0 ≤ x
  i64 : ∀ x ∈ l, I64 x
  deg : ∀ v, (hv : v < n.ends.length) → (n.ends[v].length : Int) ≤ a

theorem dropOf_mem {n : Net} {a : Int} {l : List Int} (h : ColsOk n a l) {c : Int} : ∀ x ∈ dropOf n.ends l c, (0 ≤ x ∧ x ≤ a) ∨ (x ∈ l ∧ x ≠ c) := fun x hx => by
  obtain ⟨v, hv, rfl⟩ := List.mem_map.1 hx
  have hv' : v < l.length := by simpa using hv
  have hve : v < n.ends.length := by rw [← h.len]; exact hv'
  unfold dropAt
  split
  · left
    have h1 := mex_le (nearOf n.ends l v)
    have h2 : (nearOf n.ends l v).length = n.ends[v].length := by rw [near_adj, List.length_map, adj_len h.good hve]
    have := h.deg v hve
    omega
  · rename_i hne
    right
    simp [hv'] at hne ⊢
    exact hne

theorem ColsOk.drop {n : Net} {a : Int} {l : List Int} (h : ColsOk n a l) (c : Int) : ColsOk n a (dropOf n.ends l c) :=
  ⟨h.good, by rw [dropOf_len]; exact h.len, fun x hx => by
    rcases dropOf_mem h x hx with h1 | h1
    · exact h1.1
    · exact h.nn x h1.1, dropOf_I64 h.good h.i64 h.len c, h.deg⟩

theorem PalAsked.cols {n : Net} {l : List Int} {k a : Int} (h : PalAsked n l k a) (hi : ∀ x ∈ l, I64 x) : ColsOk n a l :=
  ⟨h.good, h.proper.1, fun x hx => (h.all x hx).1, hi, fun v hv => h.deg hv⟩

end Go.Proofs.YtfiginahjofdnaaGreat
end

section
/- Walk problems, the reference: depths within a component. -/
namespace Go.Proofs.YtfiginahjofdnaaGreat
open Go.GX Go.RowKit
set_option maxRecDepth 100000

theorem waGcd_ok {a b : Nat} (w : World) :
    Calls Tryz.prog F.s_waGcd #[.int .i64 a, .int .i64 b] w (Ret [.at (.int .i64)] fun (x : Int) w' => Ext w w' ∧ x = (Nat.gcd a b : Nat)) := by
  refine C_s_waGcd ?_
  unfold V_s_waGcd
  refine ⟨fun (d n : Int) w' => Ext w w' ∧ ∃ u v : Nat, d = u ∧ n = v ∧ Nat.gcd u v = Nat.gcd a b, fun _ n _ => n.toNat, ⟨Ext.refl _, a, b, rfl, rfl, rfl⟩, ?_⟩
  rintro _ _ w2 ⟨hE2, u, v, rfl, rfl, hG⟩
  intros
  refine cond_dec (fun hpos => ⟨by omega, fun w3 hE3 => ?_⟩) (fun hz => ?_)
  · have hv : 0 < v := by omega
    have e : Int.tmod (u : Int) (v : Int) = ((u % v : Nat) : Int) := by rw [Int.tmod_eq_emod_of_nonneg (by omega)]; rfl
    rw [e]
    have hm := Nat.mod_lt u hv
    refine ⟨⟨hE2.trans hE3, v, u % v, rfl, rfl, ?_⟩, by simp only [Int.toNat_natCast]; exact hm⟩
    rw [← hG, Nat.gcd_comm u v, Nat.gcd_rec v u, Nat.gcd_comm]
  · have hv : v = 0 := by omega
    subst hv
    rw [Nat.gcd_zero_right] at hG
    exact ⟨hE2, by rw [hG]⟩

theorem l1Abs_ok {x : Int} (hx : -1000 ≤ x ∧ x ≤ 1000) (w : World) :
    Calls Tryz.prog F.s_l1Abs #[.int .i64 x] w (Ret [.at (.int .i64)] fun (r : Int) w' => w = w' ∧ r = (x.natAbs : Int)) := by
  refine C_s_l1Abs ?_
  unfold V_s_l1Abs
  rw [wrap_of (by omega) (by omega)]
  refine call (l1Most_ok _ _ _) ?_
  rintro _ _ ⟨rfl, rfl⟩
  refine ⟨rfl, ?_⟩
  unfold most2
  split <;> omega

/-! ### Depths -/

structure DepOk (E : Nat → Nat → Prop) (n a : Nat) (D : List Int) : Prop where
  len : D.length = n
  val : ∀ b (h : b < D.length), D[b] = -1 ∨ ∃ k : Nat, k ≤ n ∧ D[b] = k ∧ Wk E k a b
  all : ∀ b (h : b < D.length), Comp E a b → 0 ≤ D[b]
  zero : ∀ h : a < D.length, D[a] = 0

theorem DepOk.I64 {E : Nat → Nat → Prop} {n a : Nat} {D : List Int} (h : DepOk E n a D) : ∀ x ∈ D, -1 ≤ x ∧ x ≤ n := fun x hx => by
  obtain ⟨b, hb, rfl⟩ := List.mem_iff_getElem.1 hx
  rcases h.val b hb with he | ⟨j, hj, he, _⟩
  · rw [he]; omega
  · rw [he]; omega
theorem DepOk.pot {E : Nat → Nat → Prop} {n a : Nat} {D : List Int} (h : DepOk E n a D) (ha : a < n) (hE : ∀ x y, E x y → y < n) : D.getD a 0 = 0 ∧ ∀ b, Comp E a b → ∃ k : Nat, D.getD b 0 = k ∧ Wk E k a b := by
  have hal : a < D.length := by rw [h.len]; exact ha
  refine ⟨by rw [List.getD_eq_getElem?_getD, List.getElem?_eq_getElem hal, Option.getD_some]; exact h.zero hal, fun b hb => ?_⟩
  have hbn : b < n := by
    obtain ⟨k, hw⟩ := hb.1
    rcases Nat.eq_zero_or_pos k with rfl | hk
    · cases hw; exact ha
    · exact hw.lt hE hk
  have hbl : b < D.length := by rw [h.len]; exact hbn
  rw [List.getD_eq_getElem?_getD, List.getElem?_eq_getElem hbl, Option.getD_some]
  rcases h.val b hbl with he | ⟨k, _, he, hw⟩
  · have := h.all b hbl hb; omega
  · exact ⟨k, he, hw⟩

/-- How many labels have a depth. -/
def cntN (D : List Int) : Nat := (D.filter fun x => decide (0 ≤ x)).length
theorem cntN_le (D : List Int) : cntN D ≤ D.length := List.length_filter_le _ _
theorem cntN_set : ∀ {D : List Int} {v : Nat} {k : Int} (hv : v < D.length), D[v] < 0 → 0 ≤ k → cntN (D.set v k) = cntN D + 1
  | x :: D, 0, k, _, h1, h2 => by
    have h1' : ¬ 0 ≤ x := by have : x < 0 := h1; omega
    simp [cntN, h1', h2]
  | x :: D, v + 1, k, hv, h1, h2 => by
    have ih := cntN_set (D := D) (v := v) (k := k) (by simpa using hv) (by simpa using h1) h2
    unfold cntN at ih ⊢
    rw [List.set_cons_succ, List.filter_cons, List.filter_cons]
    split
    · rw [List.length_cons, List.length_cons, ih]
    · exact ih

structure DepV (E : Nat → Nat → Prop) (n a : Nat) (D : List Int) : Prop where
  len : D.length = n
  val : ∀ b (h : b < D.length), D[b] = -1 ∨ ∃ k : Nat, k < cntN D ∧ D[b] = k ∧ Wk E k a b
  zero : ∀ h : a < D.length, D[a] = 0
theorem DepV.I64 {E : Nat → Nat → Prop} {n a : Nat} {D : List Int} (h : DepV E n a D) (hn : n ≤ 1000) : ∀ x ∈ D, I64 x := fun x hx => by
  obtain ⟨b, hb, rfl⟩ := List.mem_iff_getElem.1 hx
  have hc := cntN_le D
  have hl := h.len
  rcases h.val b hb with he | ⟨j, hj, he, _⟩
  · rw [he]; unfold GX.I64; omega
  · rw [he]; unfold GX.I64; omega
/-- The arcs of a list lead from depths to depths. -/
def DepCl (A : List (List Int)) (C D : List Int) : Prop := ∀ u v : Nat, arcE A u v → (v : Int) ∈ C → ∀ (hu : u < D.length) (hv : v < D.length), 0 ≤ D[u] → 0 ≤ D[v]

theorem DepV.step {E : Nat → Nat → Prop} {n a u v : Nat} {D : List Int} (h : DepV E n a D) (hu : u < D.length) (hv : v < D.length) (h0 : 0 ≤ D[u]) (hneg : D[v] < 0) (he : E u v) : DepV E n a (D.set v (D[u] + 1)) ∧ cntN (D.set v (D[u] + 1)) = cntN D + 1 := by
  have hc := cntN_set hv hneg (k := D[u] + 1) (by omega)
  refine ⟨⟨by rw [List.length_set]; exact h.len, fun b hb => ?_, fun hh => ?_⟩, hc⟩
  · rw [List.getElem_set, hc]
    by_cases hbv : v = b
    · subst hbv
      rw [if_pos rfl]
      rcases h.val u hu with h1 | ⟨k, hk, h1, hw⟩
      · omega
      · exact .inr ⟨k + 1, by omega, by rw [h1]; push_cast; rfl, u, hw, he⟩
    · rw [if_neg hbv]
      rcases h.val b (by rw [List.length_set] at hb; exact hb) with h1 | ⟨k, hk, h1, hw⟩
      · exact .inl h1
      · exact .inr ⟨k, by omega, h1, hw⟩
  · rw [List.getElem_set]
    by_cases hav : v = a
    · subst hav
      have := h.zero hv
      omega
    · rw [if_neg hav]; exact h.zero (by rw [List.length_set] at hh; exact hh)

theorem leastD_of {p : Nat → Prop} : ∀ n, p n → ∃ m, p m ∧ ∀ k, p k → m ≤ k := by
  intro n
  induction n using Nat.strongRecOn with
  | ind n ih =>
    intro hn
    by_cases h : ∃ k, k < n ∧ p k
    · obtain ⟨k, hk, hp⟩ := h
      exact ih k hk hp
    · refine ⟨n, hn, fun k hk => ?_⟩
      by_cases hlt : k < n
      · exact absurd ⟨k, hlt, hk⟩ h
      · omega
/-- A measure of what a loop keeps besides its variables. -/
theorem ghostD {σ α : Type} (J : σ → α → World → Prop) (t : σ → Nat) : ∃ m : α → World → Nat, (∀ x w, (∃ s, J s x w) → ∃ s, J s x w ∧ t s = m x w) ∧ ∀ s x w, J s x w → m x w ≤ t s := by
  have key : ∀ x w, ∃ m : Nat, ((∃ s, J s x w) → ∃ s, J s x w ∧ t s = m) ∧ ∀ s, J s x w → m ≤ t s := by
    intro x w
    by_cases h : ∃ s, J s x w
    · obtain ⟨s, hs⟩ := h
      obtain ⟨m, ⟨s', h1, h2⟩, h3⟩ := leastD_of (p := fun n => ∃ s, J s x w ∧ t s = n) (t s) ⟨s, hs, rfl⟩
      exact ⟨m, fun _ => ⟨s', h1, h2⟩, fun s hs => h3 _ ⟨s, hs, rfl⟩⟩
    · exact ⟨0, fun h' => absurd h' h, fun s hs => absurd ⟨s, hs⟩ h⟩
  refine ⟨fun x w => Classical.choose (key x w), fun x w h => (Classical.choose_spec (key x w)).1 h, fun s x w h => (Classical.choose_spec (key x w)).2 s h⟩

theorem DepCl.all {p : WPr} {n r : Nat} {C D : List Int} (hg : WGood p) (hn : p.labels.toNat = n) (hm : ∀ b : Nat, (b : Int) ∈ C ↔ b < n ∧ Comp (arcE p.arcs) r b) (hl : D.length = n) (h0 : ∀ h : r < D.length, D[r] = 0) (hcl : DepCl p.arcs C D) : ∀ b (h : b < D.length), Comp (arcE p.arcs) r b → 0 ≤ D[b] := by
  have go : ∀ k b, Wk (arcE p.arcs) k r b → Comp (arcE p.arcs) r b → ∀ h : b < D.length, 0 ≤ D[b] := by
    intro k
    induction k with
    | zero => intro b hw _ h; cases hw; rw [h0 h]; omega
    | succ k ih =>
      rintro b ⟨c, hw, he⟩ hc h
      have hcc : Comp (arcE p.arcs) r c := by
        obtain ⟨_, j, q⟩ := hc
        exact ⟨⟨k, hw⟩, _, (Wk.one he).cat q⟩
      have hr2 := hg.rel he
      have hcl2 : c < D.length := by omega
      exact hcl c b he ((hm b).2 ⟨by omega, hc⟩) hcl2 h (ih c hw hcc hcl2)
  intro b h hc
  obtain ⟨⟨k, hw⟩, _⟩ := id hc
  exact go k b hw hc h

theorem waDepths_ok {w : World} {s t : Sl} {p : WPr} {r : Nat} {C : List Int} (h : RWk w s p) (hg : WGood p) (hC : R w t C) (h0 : 0 < C.length) (hr : C[0] = (r : Int)) (hrn : r < p.labels.toNat) (hm : ∀ b : Nat, (b : Int) ∈ C ↔ b < p.labels.toNat ∧ Comp (arcE p.arcs) r b) :
    Calls Tryz.prog F.s_waDepths #[.agg #[.int .i64 p.labels, s.v], t.v] w (Ret [.at .sl] fun (u : Sl) w' => Ext w w' ∧ ∃ D, OwnL w' w.heap.size T.t_int u D ∧ DepOk (arcE p.arcs) p.labels.toNat r D) := by
  refine C_s_waDepths ?_
  unfold V_s_waDepths
  refine NEW_intro fun pp w1 hp1 hs1 hE1 hb1 => LD_bi0 hb1 ?_
  have hl := hg.lab
  have hz1 := hE1.size_le
  obtain ⟨n, hn⟩ : ∃ n : Nat, p.labels = n := ⟨p.labels.toNat, by omega⟩
  have hnt : p.labels.toNat = n := by omega
  have hn12 : n ≤ 12 := by omega
  rw [hnt] at hrn hm ⊢
  have hrun : ∀ {K : Sl → World → Prop}, RUN Tryz.prog (.at .sl) (Instr.makeSlice T.t_sl_int (.int .i64 (n : Int)) (.int .i64 (n : Int))) w1 K → RUN Tryz.prog (.at .sl) (Instr.makeSlice T.t_sl_int (.int .i64 p.labels) (.int .i64 p.labels)) w1 K := fun hk => by rw [hn]; exact hk
  refine hrun ?_
  refine RUN_make (α := Int) slt_int (d := 0) rfl (by omega) (by unfold maxLen; omega) fun u w2 hE2 hO2 => ?_
  have hz2 := hE2.size_le
  have hE12 := hE1.trans hE2
  have hul : u.len = n := by have := hO2.1; rw [List.length_replicate] at this; exact this
  have hub : ∀ k, oB u k → w1.heap.size ≤ k ∧ k < w2.heap.size := fun k hk => hO2.blk k hk
  have hext : ∀ {w' : World}, Chg w2 w' (oB u) → Ext w w' := fun hC => hC.ext0 hE12 fun k hk => by have := (hub k hk).1; omega
  have hbox : ∀ {w' : World}, Chg w2 w' (oB u) → Box w' pp T.t_i_WalkProblem [.int .i64 p.labels, s.v] := fun hC => (hb1.ext hE2).chg hC fun hh => by have := (hub _ hh).1; have := hb1.lt; omega
  rw [hul]
  refine ⟨IN n fun i w' => Chg w2 w' (oB u) ∧ OwnL w' w1.heap.size T.t_int u (List.replicate i (-1) ++ List.replicate (n - i) 0), MN n, IN_zero ⟨Chg.refl _ _, by simpa using hO2⟩, ?_⟩
  rintro _ w3 ⟨i, rfl, hi, hC3, hO3⟩
  intros
  refine cond_dec (fun hlt => ?_) (fun hge => ?_)
  · have hi' : i < n := by omega
    have hil : i < (List.replicate i (-1 : Int) ++ List.replicate (n - i) 0).length := by simp; omega
    refine IX_own hO3 hil rfl fun q hq => ?_
    refine ST_own hO3 hil hq (-1) rfl fun w4 hO4 hs4 => ?_
    refine IN_next (by omega) hi' ⟨hC3.trans (.of_step hs4 fun k hk => hk), ?_⟩
    have e : (List.replicate i (-1 : Int) ++ List.replicate (n - i) 0).set i (-1) = List.replicate (i + 1) (-1) ++ List.replicate (n - (i + 1)) 0 := by
      rw [List.set_append_right _ _ (by simp)]
      obtain ⟨d, hd⟩ : ∃ d, n - i = d + 1 := ⟨n - i - 1, by omega⟩
      have hd2 : n - (i + 1) = d := by omega
      rw [hd, hd2, List.length_replicate, Nat.sub_self, List.replicate_succ, List.set_cons_zero, List.replicate_succ' (n := i), List.append_assoc]
      rfl
    rw [e] at hO4
    exact hO4
  · have : i = n := by omega
    subst this
    have hO3' : OwnL w3 w1.heap.size T.t_int u (List.replicate i (-1)) := by simpa using hO3
    refine (hC.ext (hext hC3)).ixI (i := 0) h0 fun q _ hc => LD_int hc ?_
    rw [hr]
    have hrl : r < (List.replicate i (-1 : Int)).length := by simpa using hrn
    refine IX_own hO3' hrl rfl fun q2 hq2 => ?_
    refine ST_own hO3' hrl hq2 (0 : Int) rfl fun w5 hO5 hs5 => ?_
    have hC5 : Chg w2 w5 (oB u) := hC3.trans (.of_step hs5 fun k hk => hk)
    have hV0 : DepV (arcE p.arcs) i r ((List.replicate i (-1 : Int)).set r 0) := by
      refine ⟨by simp, fun b hb => ?_, fun hh => by simp⟩
      rw [List.getElem_set]
      by_cases he : r = b
      · subst he
        rw [if_pos rfl, cntN_set hrl (by simp) (by omega)]
        exact .inr ⟨0, by omega, rfl, rfl⟩
      · rw [if_neg he]; exact .inl (by simp)
    obtain ⟨m9, hm1, hm2⟩ := ghostD (fun (db : List Int × Bool) (x : Bool) (w' : World) => x = db.2 ∧ Chg w2 w' (oB u) ∧ OwnL w' w1.heap.size T.t_int u db.1 ∧ DepV (arcE p.arcs) i r db.1 ∧ (db.2 = false → DepCl p.arcs C db.1)) (fun db => if db.2 then 1 + (i - cntN db.1) else 0)
    refine ⟨fun x w' => ∃ db : List Int × Bool, x = db.2 ∧ Chg w2 w' (oB u) ∧ OwnL w' w1.heap.size T.t_int u db.1 ∧ DepV (arcE p.arcs) i r db.1 ∧ (db.2 = false → DepCl p.arcs C db.1), m9, ⟨(_, true), rfl, hC5, hO5, hV0, fun h => by cases h⟩, ?_⟩
    rintro ag w6 hJ
    intros
    obtain ⟨⟨D, b⟩, ⟨hb, hC6, hO6, hV6, hcl6⟩, ht⟩ := hm1 _ _ hJ
    simp only at hb hO6 hV6 hcl6 ht
    subst hb
    cases ag with
    | false =>
      refine cond_f rfl ?_
      have hcn := cntN_le D
      refine ⟨hext hC6, D, hO6.low hz1, hV6.len, fun b hb => ?_, DepCl.all hg hnt hm hV6.len hV6.zero (hcl6 rfl), hV6.zero⟩
      rcases hV6.val b hb with h1 | ⟨k, hk, h1, hw⟩
      · exact .inl h1
      · exact .inr ⟨k, by have := hV6.len; omega, h1, hw⟩
    | true =>
      refine cond_t rfl ?_
      refine LD_bs1 (hbox hC6) ?_
      rw [h.arcs.len]
      refine ⟨IN2 p.arcs.length fun j (x : Bool) w' => Chg w2 w' (oB u) ∧ ∃ D2, OwnL w' w1.heap.size T.t_int u D2 ∧ DepV (arcE p.arcs) i r D2 ∧ cntN D ≤ cntN D2 ∧ (x = true → cntN D < cntN D2) ∧ (x = false → DepCl (p.arcs.take j) C D2), MN2 p.arcs.length, IN2_zero ⟨hC6, D, hO6, hV6, Nat.le_refl _, (fun h => by cases h), fun _ u v he => by simp [arcE] at he⟩, ?_⟩
      rintro x7 _ w7 ⟨j, rfl, hj, hC7, D2, hO7, hV7, hc7, ht7, hf7⟩
      intros
      have hD64 := hV7.I64 (by omega)
      refine cond_dec (fun hlt2 => ?_) (fun hge2 => ?_)
      · have hj' : j < p.arcs.length := by omega
        have hR7 := (hO7.rep hD64).any
        have hdl := hV7.len
        refine (h.arcs.ext (hext hC7)).ixL hj' fun q3 row hrow hc3 => LD_sl hc3 ?_
        obtain ⟨x, y, he, hx, hy⟩ := hg.arc (List.getElem_mem hj')
        rw [hnt] at hx hy
        rw [he] at hrow
        have hstep : ∀ c d, arcE (p.arcs.take (j + 1)) c d ↔ arcE (p.arcs.take j) c d ∨ (c = x ∧ d = y) := fun c d => by
          unfold arcE
          rw [List.take_succ_eq_append_getElem hj', he, List.mem_append, List.mem_singleton]
          simp only [List.cons.injEq, and_true, Int.natCast_inj]
        have hxl : x < D2.length := by omega
        have hyl : y < D2.length := by omega
        have skip : (0 ≤ D2[x] → (y : Int) ∈ C → 0 ≤ D2[y]) → ∀ {w' : World}, w' = w7 → IN2 p.arcs.length (fun j (x : Bool) w' => Chg w2 w' (oB u) ∧ ∃ D2, OwnL w' w1.heap.size T.t_int u D2 ∧ DepV (arcE p.arcs) i r D2 ∧ cntN D ≤ cntN D2 ∧ (x = true → cntN D < cntN D2) ∧ (x = false → DepCl (p.arcs.take j) C D2)) x7 (IntKind.i64.wrap ((j : Int) + 1)) w' ∧ MN2 p.arcs.length x7 (IntKind.i64.wrap ((j : Int) + 1)) w' < MN2 p.arcs.length x7 (j : Int) w7 := fun hs {w'} hw => by
          subst hw
          refine IN2_next h.arcs.le hj' ⟨hC7, D2, hO7, hV7, hc7, ht7, fun hx7 c d hcd hd hcl hdl h0c => ?_⟩
          rcases (hstep c d).1 hcd with h1 | ⟨rfl, rfl⟩
          · exact hf7 hx7 c d h1 hd hcl hdl h0c
          · exact hs h0c hd
        refine hrow.any.ixI (i := 0) (by simp) fun q4 _ hc4 => LD_int hc4 ?_
        refine hR7.ixI (i := x) hxl fun q5 _ hc5 => LD_int hc5 ?_
        unfold V_s_waDepths_k7
        refine cond_dec (fun hge0 => ?_) (fun hneg => skip (fun h1 => absurd h1 hneg) rfl)
        refine hrow.any.ixI (i := 1) (by simp) fun q6 _ hc6 => LD_int hc6 ?_
        refine hR7.ixI (i := y) hyl fun q7 _ hc7' => LD_int hc7' ?_
        refine cond_dec (fun hylt => ?_) (fun hyge => skip (fun _ _ => by omega) rfl)
        refine hrow.any.ixI (i := 1) (by simp) fun q8 _ hc8 => LD_int hc8 ?_
        refine call (l1Has_ok (hC.ext (hext hC7)) _) ?_
        rintro _ _ ⟨rfl, rfl⟩
        refine cond_b (fun hmem => ?_) (fun hnm => skip (fun _ hh => by have := List.contains_iff_mem.2 hh; rw [show C.contains (y : Int) = false from hnm] at this; cases this) rfl)
        intro w9 hE9 _
        have hO9 := hO7.ext hE9
        have hR9 := hR7.ext hE9
        have hrow9 := hrow.any.ext hE9
        refine ⟨fun _ => False, ?_⟩
        refine hrow9.ixI (i := 1) (by simp) fun q9 _ hc9 => ⟨not_false, LD_int hc9 ⟨Chg.refl _ _, ?_⟩⟩
        refine hrow9.ixI (i := 0) (by simp) fun q10 _ hc10 => ⟨Chg.refl _ _, LD_int hc10 ⟨Chg.refl _ _, ?_⟩⟩
        refine hR9.ixI (i := x) hxl fun q11 _ hc11 => ⟨Chg.refl _ _, LD_int hc11 ⟨Chg.refl _ _, Chg.refl _ _, ?_⟩⟩
        have hcn := cntN_le D2
        have hbnd : D2[x] ≤ 1000 := by
          rcases hV7.val x hxl with h1 | ⟨k, hk, h1, _⟩
          · omega
          · omega
        have hge1 : (0 : Int) ≤ D2[x] := hge0
        rw [wrap_of (n := D2[x] + 1) (by omega) (by omega)]
        refine IX_own hO9 hyl rfl fun q12 hq12 => ?_
        refine ST_own hO9 hyl hq12 (D2[x] + 1) rfl fun w10 hO10 hs10 => ?_
        obtain ⟨hV10, hc10'⟩ := hV7.step hxl hyl hge1 hylt (show arcE p.arcs x y from by unfold arcE; rw [← he]; exact List.getElem_mem hj')
        exact IN2_next h.arcs.le hj' ⟨(hC7.trans (.of_ext hE9)).trans (.of_step hs10 fun k hk => hk), _, hO10, hV10, by omega, fun _ => by omega, fun hh => by cases hh⟩
      · have : j = p.arcs.length := by omega
        subst this
        rw [List.take_length] at hf7
        refine ⟨⟨(D2, x7), rfl, hC7, hO7, hV7, hf7⟩, ?_⟩
        have hle := hm2 (D2, x7) x7 w7 ⟨rfl, hC7, hO7, hV7, hf7⟩
        rw [if_pos rfl] at ht
        have hcn := cntN_le D2
        have hdl := hV7.len
        cases x7 with
        | false =>
          have : m9 false w7 ≤ 0 := hle
          omega
        | true =>
          have h1 : m9 true w7 ≤ 1 + (i - cntN D2) := hle
          have h2 := ht7 rfl
          omega

end Go.Proofs.YtfiginahjofdnaaGreat
end

section
/- Walk problems, the reference: components, flexible labels. -/
namespace Go.Proofs.YtfiginahjofdnaaGreat
open Go.GX Go.RowKit
set_option maxRecDepth 100000

structure WRec where
  a : Sl
  p : Int
  b : Sl

instance : Rep WRec where
  sz := 3
  rep _ _ cs r := cs = [r.a.v, .int .i64 r.p, r.b.v]
  len h := by rw [h]; rfl
  agr _ h := h
  weak _ h := h
instance : RepP WRec := ⟨by decide⟩
theorem one3w (x : Sl) (y : Int) (z : Sl) : ∀ v ∈ [x.v, Value.int .i64 y, z.v], v.oneCell' = true := by intro v hv; simp at hv; rcases hv with rfl | rfl | rfl <;> rfl
instance : Flat WRec where
  cells r := [r.a.v, .int .i64 r.p, r.b.v]
  ok _ := True
  size _ := rfl
  one r v hv := one3w r.a r.p r.b v hv
  repOk _ := rfl
  ofRep h := ⟨h, trivial⟩

theorem slt_part : SlT Tryz.prog T.t_sl_s_waPart T.t_s_waPart 3 56 (.agg #[.slice none 0 0, .int .i64 0, .slice none 0 0]) := ⟨by kernel_rfl, by kernel_rfl, rfl, by decide⟩

theorem LD_sis {w : World} {p : Addr} {t : TypeId} {x : Sl} {y : Int} {z : Sl} {r : List Value} {K : Sl → Int → Sl → Prop} (hb : Box w p t (x.v :: .int .i64 y :: z.v :: r)) (hk : K x y z) : LD [.sl, .int .i64, .sl] p w K := by
  refine ⟨[x.v, .int .i64 y, z.v], rfl, fun i v hv => ?_, hk⟩
  match i, hv with
  | 0, hv => exact hb.cell (i := 0) hv
  | 1, hv => exact hb.cell (i := 1) hv
  | 2, hv => exact hb.cell (i := 2) hv
  | i + 3, hv => simp at hv

theorem _root_.Go.GX.Chg.then' {a b c : World} {D D' : Nat → Prop} (h : Chg a b D) (k : Chg b c D') (hD : ∀ x, x < a.heap.size → D' x → D x) : Chg a c D :=
  ⟨k.os.trans h.os, k.tape.trans h.tape, k.output.trans h.output, Nat.le_trans h.size k.size, fun x hx hn => (k.block x (Nat.lt_of_lt_of_le hx h.size) fun hd => hn (hD x hx hd)).trans (h.block x hx hn)⟩

/-- What is known of the parts. -/
structure PartIs (E : Nat → Nat → Prop) (r : Nat) (P : Int) : Prop where
  ex : ∃ q : Nat, P = q ∧ q ≤ 100 ∧ (q = 1 ↔ Flex E r)
structure PartsO (base : Nat) (w : World) (s : Sl) (E : Nat → Nat → Prop) (n : Nat) (rs : List Nat) : Prop where
  ex : ∃ recs : List WRec, OwnL w base T.t_s_waPart s recs ∧ recs.length = rs.length ∧ ∀ j (h1 : j < recs.length) (h2 : j < rs.length), SlR (fun b => base ≤ b ∧ s.v.ownBlock ≠ some b) w recs[j].a (compL E n rs[j]) ∧ PartIs E rs[j] recs[j].p

theorem PartsO.nil (base : Nat) (w : World) (E : Nat → Nat → Prop) (n : Nat) : PartsO base w ⟨none, 0, 0⟩ E n [] := ⟨[], OwnL.nil _ _ _, rfl, fun j h1 => by simp at h1⟩
theorem PartsO.keep {base : Nat} {w w' : World} {s : Sl} {E : Nat → Nat → Prop} {n : Nat} {rs : List Nat} (h : PartsO base w s E n rs) {D : Nat → Prop} (hC : Chg w w' D) (hD : ∀ b, base ≤ b → ¬ D b) : PartsO base w' s E n rs := by
  obtain ⟨recs, hO, hl, hr⟩ := h.ex
  exact ⟨recs, hO.keep fun b hb => hC.block b (hO.blk b hb).2 (hD b (hO.blk b hb).1), hl, fun j h1 h2 => ⟨(hr j h1 h2).1.chg hC fun b hb _ => hD b hb.1, (hr j h1 h2).2⟩⟩

theorem RUN_append_part {base b1 : Nat} {w w1 : World} {s y la lb : Sl} {E : Nat → Nat → Prop} {n r : Nat} {rs : List Nat} {P : Int} (h : PartsO base w s E n rs) (hbase : base ≤ w.heap.size) (hE : Ext w w1) (hla : SlR (fun b => base ≤ b ∧ s.v.ownBlock ≠ some b) w1 la (compL E n r)) (hP : PartIs E r P) (hl : rs.length ≤ 100)
    (hy : OwnL w1 b1 T.t_s_waPart y [(⟨la, P, lb⟩ : WRec)]) {K : Sl → World → Prop} (hk : ∀ s' w2, PartsO base w2 s' E n (rs ++ [r]) → Step w1 w2 s.v.ownBlock → K s' w2) : RUN Tryz.prog (.at .sl) (bsem .append #[T.t_sl_s_waPart, T.t_sl_s_waPart] T.t_sl_s_waPart #[s.v, y.v]) w1 K := by
  obtain ⟨recs, hO, hrl, hr⟩ := h.ex
  have hO1 := hO.ext hE
  have hsz := hE.size_le
  refine RUN_appendF (α := WRec) slt_part hO1 (by omega) (hy.rep fun _ _ => trivial) (by simp; omega) (by simp; unfold maxLen; omega) fun s' w2 hO2 hs2 hN => hk s' w2 ⟨_, hO2, by simp [hrl], fun j h1 h2 => ?_⟩ hs2
  have hw : ∀ b, s.v.ownBlock ≠ some b → b < w1.heap.size → s'.v.ownBlock ≠ some b := fun b hb hlt he => by
    rcases hN with hN | hN
    · exact hb (hN ▸ he)
    · have := hN b he; omega
  have main : ∀ {t : Sl} {l : List Int}, SlR (fun b => base ≤ b ∧ s.v.ownBlock ≠ some b) w1 t l → SlR (fun b => base ≤ b ∧ s'.v.ownBlock ≠ some b) w2 t l := fun {t l} hR =>
    (SlR.stepD (hR.weak (D' := fun b => s.v.ownBlock ≠ some b ∧ base ≤ b ∧ s'.v.ownBlock ≠ some b) (fun b h3 h4 => ⟨h3.2, h3.1, hw b h3.2 h4⟩) RepP.pos) hs2 (fun b hb => hb.1)).weak (fun b hb _ => hb.2) RepP.pos
  by_cases hj : j < recs.length
  · have hjl : j < rs.length := by omega
    rw [List.getElem_append_left hj, List.getElem_append_left hjl]
    exact ⟨main ((hr j hj hjl).1.ext hE), (hr j hj hjl).2⟩
  · have hjl : j = rs.length := by simp at h2; omega
    subst hjl
    have e1 : (recs ++ [(⟨la, P, lb⟩ : WRec)])[rs.length]'h1 = ⟨la, P, lb⟩ := by
      rw [List.getElem_append_right (by omega)]; simp [hrl]
    have e2 : (rs ++ [r])[rs.length]'h2 = r := by
      rw [List.getElem_append_right (by omega)]; simp
    rw [e1, e2]
    exact ⟨main hla, hP⟩

theorem slr_ixW {D : Nat → Prop} {w : World} {s : Sl} {l : List Int} (h : SlR D w s l) {i : Nat} (hi : i < l.length) {K : Addr → Prop} (hk : ∀ p, D p.block → w.cell? p = some (.int .i64 l[i]) → K p) : IX s i 1 K := by
  obtain ⟨a, cs, ha, hD, ⟨rfl, _⟩, hc⟩ := h.2.2 i l[i] (by simp [hi])
  have hl := h.1
  exact ⟨a, ha, by omega, by omega, hk _ (by rw [add_block]; exact hD) (hc 0 _ rfl)⟩

/-- A store of one cell into a box, told as a change. -/
theorem ST_boxC {w w0 : World} {p : Addr} {t : TypeId} {cs : List Value} {i : Nat} {v : Value} {K : World → Prop} (h : Box w p t cs) (hi : i < cs.length) (h1 : v.oneCell' = true) (hE : Ext w0 w) (hp : w0.heap.size ≤ p.block)
    (hk : ∀ w', Chg w w' (fun c => c = p.block) → Ext w0 w' → Box w' p t (cs.set i v) → K w') : GX.ST (p.add i) 0 [v] w K :=
  ST_box1 h hi h1 fun w' hz hb hX hB => by
    have hE' := hX w0 hE hp
    exact hk w' ⟨hE'.os.trans hE.os.symm, hE'.tape.trans hE.tape.symm, hE'.output.trans hE.output.symm, by omega, fun k _ hn => hb k hn⟩ hE' hB
theorem compL_succ (E : Nat → Nat → Prop) (b r : Nat) [Decidable (Comp E r b)] : compL E (b + 1) r = compL E b r ++ (if Comp E r b then [(b : Int)] else []) := by
  classical
  unfold compL
  rw [List.range_succ, List.filter_append, List.map_append]
  by_cases h : Comp E r b
  · simp [h]
  · simp [h]

theorem comp_reach {E : Nat → Nat → Prop} {a b : Nat} (ha : ∃ k, 0 < k ∧ Wk E k a a) : (reachE E a b ∧ reachE E b a) ↔ Comp E a b := by
  constructor
  · rintro ⟨⟨j, _, p⟩, i, _, q⟩
    exact ⟨⟨j, p⟩, i, q⟩
  · rintro ⟨⟨j, p⟩, i, q⟩
    obtain ⟨k, hk, hw⟩ := ha
    exact ⟨⟨k + j, by omega, hw.cat p⟩, i + k, by omega, q.cat hw⟩

/-- One part, from its label on. -/
theorem waParts_k4 {w2 w3 w4 : World} {s15 s18 x4 s : Sl} {p : WPr} {px1 : Addr} {a n : Nat} {rs : List Nat} (h2 : RWk w2 s p) (hg : WGood p) (hnn : p.labels.toNat = n) (hb1 : Box w2 px1 T.t_i_WalkProblem [.int .i64 p.labels, s.v])
    (hE24 : Ext w2 w4) (hR15 : R w2 s15 (matB n (reachE (arcE p.arcs)))) (hz23 : w2.heap.size ≤ w3.heap.size) (hz34 : w3.heap.size ≤ w4.heap.size) (h18b : ∀ k, oB s18 k → w2.heap.size ≤ k ∧ k < w3.heap.size)
    (hO18 : OwnL w4 w2.heap.size T.t_bool s18 (rowB n fun b => ∃ r ∈ rs, Comp (arcE p.arcs) r b)) (hX4 : PartsO w3.heap.size w4 x4 (arcE p.arcs) n rs) (han : a < n) (hrs : Roots (arcE p.arcs) a rs) (hca : ∃ k, 0 < k ∧ Wk (arcE p.arcs) k a a) (hnc : ∀ r ∈ rs, ¬ Comp (arcE p.arcs) r a)
    {I5 : Sl → Int → World → Prop} {m5 : Sl → Int → World → Nat} {wm : World}
    (hk : ∀ x4' w', Ext w2 w' → w3.heap.size ≤ w'.heap.size → OwnL w' w2.heap.size T.t_bool s18 (rowB n fun b => ∃ r ∈ rs ++ [a], Comp (arcE p.arcs) r b) → PartsO w3.heap.size w' x4' (arcE p.arcs) n (rs ++ [a]) → I5 x4' (IntKind.i64.wrap ((a : Int) + 1)) w' ∧ m5 x4' (IntKind.i64.wrap ((a : Int) + 1)) w' < m5 x4 (a : Int) wm) : V_s_waParts_k4 I5 m5 wm px1 s15 s18 x4 (a : Int) w4 := by
  have hl := hg.lab
  have hn12 : n ≤ 12 := by omega
  have hlab : p.labels = (n : Int) := by omega
  have hrel : ∀ x y, arcE p.arcs x y → y < n := fun x y hxy => by have := (hg.rel hxy).2; omega
  have hdep := fun {w : World} {t : Sl} {r : Nat} {C : List Int} (h' : RWk w s p) (hC : R w t C) => waDepths_ok (r := r) h' hg hC
  simp only [hnn] at hdep
  unfold V_s_waParts_k4
  refine NEW_intro fun px7 w6 hp7 hs6 hE6 hb6 => ?_
  refine ST_all hb6 (one3w ⟨none, 0, 0⟩ 0 ⟨none, 0, 0⟩) rfl fun w7 hs7 hz7 hb7 => ?_
  have hE47 : Ext w4 w7 := hs7.ext0 hE6 fun k hk => by cases hk; omega
  have hz47 := hE47.size_le
  have hlt7 := hb7.lt
  have hp7b : w4.heap.size ≤ px7.block := by omega
  generalize hEe : arcE p.arcs = E at *
  have h18ne : ∀ k, oB s18 k → k ≠ px7.block := fun k hk he => by have := (h18b k hk).2; omega
  have rd2 : ∀ {w' : World}, Chg w7 w' (fun c => oB s18 c ∨ w4.heap.size ≤ c) → Ext w2 w' := fun hC => hC.ext0 (hE24.trans hE47) fun k hk => by
    rcases hk with hk | hk
    · exact (h18b k hk).1
    · omega
  -- the labels
  refine ⟨fun (x : Int) w' => ∃ (b : Nat) (lab : Sl), x = b ∧ b ≤ n ∧ Chg w7 w' (fun c => oB s18 c ∨ c = px7.block) ∧ Box w' px7 T.t_s_waPart [lab.v, .int .i64 0, (⟨none, 0, 0⟩ : Sl).v] ∧ OwnL w' w7.heap.size T.t_int lab (compL E b a) ∧ OwnL w' w2.heap.size T.t_bool s18 (rowB n fun c => (∃ r ∈ rs, Comp E r c) ∨ (c < b ∧ Comp E a c)), fun x _ => n - x.toNat, ⟨0, ⟨none, 0, 0⟩, rfl, by omega, Chg.refl _ _, hb7, ?_, ?_⟩, ?_⟩
  · have e : compL E 0 a = [] := by simp [compL]
    rw [e]; exact OwnL.nil _ _ _
  · have e : (rowB n fun c => (∃ r ∈ rs, Comp E r c) ∨ (c < 0 ∧ Comp E a c)) = rowB n fun c => ∃ r ∈ rs, Comp E r c := rowB_congr fun c _ => ⟨fun hh => hh.resolve_right fun hx => by omega, .inl⟩
    rw [e]; exact hO18.ext hE47
  rintro _ w8 ⟨b, lab, rfl, hbn, hC8, hb8, hOl, hO8⟩
  intros
  have hE28 : Ext w2 w8 := rd2 (hC8.mono fun c hc => hc.imp id fun he => by omega)
  have hb18 := hb1.ext hE28
  have hz8 := hC8.size
  refine LD_bi0 hb18 (cond_dec (fun hlt => ?_) (fun hge => ?_))
  · have hb' : b < n := by omega
    have hm15 : (matB n (reachE E)).length = n := matB_len _ _
    have next : ∀ {lab' : Sl} {w' : World}, Chg w7 w' (fun c => oB s18 c ∨ c = px7.block) → Box w' px7 T.t_s_waPart [lab'.v, .int .i64 0, (⟨none, 0, 0⟩ : Sl).v] → OwnL w' w7.heap.size T.t_int lab' (compL E (b + 1) a) → OwnL w' w2.heap.size T.t_bool s18 (rowB n fun c => (∃ r ∈ rs, Comp E r c) ∨ (c < b + 1 ∧ Comp E a c)) → (∃ (b' : Nat) (lab : Sl), IntKind.i64.wrap ((b : Int) + 1) = b' ∧ b' ≤ n ∧ Chg w7 w' (fun c => oB s18 c ∨ c = px7.block) ∧ Box w' px7 T.t_s_waPart [lab.v, .int .i64 0, (⟨none, 0, 0⟩ : Sl).v] ∧ OwnL w' w7.heap.size T.t_int lab (compL E b' a) ∧ OwnL w' w2.heap.size T.t_bool s18 (rowB n fun c => (∃ r ∈ rs, Comp E r c) ∨ (c < b' ∧ Comp E a c))) ∧ n - (IntKind.i64.wrap ((b : Int) + 1)).toNat < n - ((b : Int)).toNat := fun k1 k2 k3 k4 => by
      rw [wrap_of (by omega) (by omega)]
      exact ⟨⟨b + 1, _, by omega, by omega, k1, k2, k3, k4⟩, by omega⟩
    classical
    have no : ¬ Comp E a b → (∃ (b' : Nat) (lab : Sl), IntKind.i64.wrap ((b : Int) + 1) = b' ∧ b' ≤ n ∧ Chg w7 w8 (fun c => oB s18 c ∨ c = px7.block) ∧ Box w8 px7 T.t_s_waPart [lab.v, .int .i64 0, (⟨none, 0, 0⟩ : Sl).v] ∧ OwnL w8 w7.heap.size T.t_int lab (compL E b' a) ∧ OwnL w8 w2.heap.size T.t_bool s18 (rowB n fun c => (∃ r ∈ rs, Comp E r c) ∨ (c < b' ∧ Comp E a c))) ∧ n - (IntKind.i64.wrap ((b : Int) + 1)).toNat < n - ((b : Int)).toNat := fun hno => by
      refine next hC8 hb8 (by rw [compL_succ, if_neg hno, List.append_nil]; exact hOl) ?_
      have e : (rowB n fun c => (∃ r ∈ rs, Comp E r c) ∨ (c < b + 1 ∧ Comp E a c)) = rowB n fun c => (∃ r ∈ rs, Comp E r c) ∨ (c < b ∧ Comp E a c) := rowB_congr fun c _ => ⟨fun hh => hh.imp id fun ⟨h1, h2⟩ => ⟨by
        by_cases he : c = b
        · subst he; exact absurd h2 hno
        · omega, h2⟩, fun hh => hh.imp id fun ⟨h1, h2⟩ => ⟨by omega, h2⟩⟩
      rw [e]; exact hO8
    refine (hR15.ext hE28).ixL (i := a) (by omega) fun q row hrow hc => LD_sl hc ?_
    rw [matB_get (by omega)] at hrow
    have hbl : b < (rowB n (reachE E a)).length := by rw [rowB_len]; exact hb'
    refine hrow.any.ixB hbl fun q2 hc2 => LD_bool hc2 ?_
    have h1 := rowB_get hbl
    generalize (rowB n (reachE E a))[b] = v1 at h1
    refine cond_b (fun ht1 => ?_) (fun hf1 => no fun hc => by rw [h1.2 ((comp_reach hca).2 hc).1] at hf1; cases hf1)
    refine (hR15.ext hE28).ixL (i := b) (by omega) fun q3 row2 hrow2 hc3 => LD_sl hc3 ?_
    rw [matB_get (by omega)] at hrow2
    have hal : a < (rowB n (reachE E b)).length := by rw [rowB_len]; exact han
    refine hrow2.any.ixB hal fun q4 hc4 => LD_bool hc4 ?_
    have h3 := rowB_get hal
    generalize (rowB n (reachE E b))[a] = v2 at h3
    refine cond_b (fun ht2 => ?_) (fun hf2 => no fun hc => by rw [h3.2 ((comp_reach hca).2 hc).2] at hf2; cases hf2)
    have hcb : Comp E a b := (comp_reach hca).1 ⟨h1.1 ht1, h3.1 ht2⟩
    refine LD_bs0 hb8 ?_
    refine RUN_lit1 (α := Int) slt_int (b : Int) rfl (by decide) fun y w9 hE9 hO9 => ?_
    have hcl := compL_len E b a
    have hz9 := hE9.size_le
    refine RUN_append (α := Int) slt_int (hOl.ext hE9) (by omega) (hO9.rep (by intro x hx; rw [List.mem_singleton.1 hx]; show I64 _; unfold GX.I64; omega)).any (by simp; omega) (by simp [maxLen]; omega) fun lab' w10 hO10 hs10 => ?_
    have hz10 := hs10.size
    have hlabne : ∀ k, lab.v.ownBlock = some k → k ≠ px7.block := fun k hk he => by have := (hOl.blk k hk).1; omega
    have hlab18 : ∀ k, lab.v.ownBlock = some k → ¬ oB s18 k := fun k hk hh => by have := (hOl.blk k hk).1; have := (h18b k hh).2; omega
    have hb10 : Box w10 px7 T.t_s_waPart [lab.v, .int .i64 0, (⟨none, 0, 0⟩ : Sl).v] := (hb8.ext hE9).chg (D := oB lab) (.of_step hs10 fun k hk => hk) fun hh => hlabne _ hh rfl
    have hC9_10 : Chg w9 w10 (oB lab) := .of_step hs10 fun k hk => hk
    have hC7_10 : Chg w7 w10 (fun c => oB s18 c ∨ c = px7.block) := (hC8.trans (.of_ext hE9)).then' hC9_10 fun k hk hd => by have := (hOl.blk k hd).1; omega
    have hE2_10 : Ext w2 w10 := rd2 (hC7_10.mono fun c hc => hc.imp id fun he => by omega)
    have hz24 := hE24.size_le
    refine ST_boxC hb10 (by simp) rfl hE2_10 (by omega) fun w11 hC11 _ hb11 => ?_
    have hO18_11 : OwnL w11 w2.heap.size T.t_bool s18 (rowB n fun c => (∃ r ∈ rs, Comp E r c) ∨ (c < b ∧ Comp E a c)) := ((hO8.ext hE9).keep fun k hk => hs10.block k ((hO8.ext hE9).blk k hk).2 fun he => hlab18 k he.symm hk).keep fun k hk => hC11.block k (by have := (h18b k hk).2; omega) (h18ne k hk)
    have hOl11 : OwnL w11 w7.heap.size T.t_int lab' (compL E b a ++ [(b : Int)]) := hO10.keep fun k hk => hC11.block k (hO10.blk k hk).2 fun he => by have := (hO10.blk k hk).1; omega
    have hbl2 : b < (rowB n fun c => (∃ r ∈ rs, Comp E r c) ∨ (c < b ∧ Comp E a c)).length := by rw [rowB_len]; exact hb'
    refine IX_own hO18_11 hbl2 rfl fun q5 hq5 => ?_
    refine ST_own hO18_11 hbl2 hq5 true rfl fun w12 hO12 hs12 => ?_
    rw [rowB_set (Q := fun c => (∃ r ∈ rs, Comp E r c) ∨ (c < b + 1 ∧ Comp E a c)) ⟨fun _ => .inr ⟨by omega, hcb⟩, fun _ => rfl⟩ (fun c hc hne => ⟨fun hh => hh.imp id fun ⟨h1, h2⟩ => ⟨by omega, h2⟩, fun hh => hh.imp id fun ⟨h1, h2⟩ => ⟨by omega, h2⟩⟩)] at hO12
    have hC7_12 := (hC7_10.trans (hC11.mono fun c hc => .inr hc)).trans (.of_step hs12 fun k hk => .inl hk)
    refine next hC7_12 (hb11.chg (D := oB s18) (.of_step hs12 fun k hk => hk) fun hh => h18ne _ hh rfl) ?_ hO12
    rw [compL_succ, if_pos hcb]
    exact hOl11.keep fun k hk => hs12.block k (hOl11.blk k hk).2 fun he => by have h1 := (hOl11.blk k hk).1; have h2 := (h18b k he.symm).2; omega
  · have : b = n := by omega
    subst this
    have hO8' : OwnL w8 w2.heap.size T.t_bool s18 (rowB b fun c => ∃ r ∈ rs ++ [a], Comp E r c) := by
      have e : (rowB b fun c => (∃ r ∈ rs, Comp E r c) ∨ (c < b ∧ Comp E a c)) = rowB b fun c => ∃ r ∈ rs ++ [a], Comp E r c := rowB_congr fun c hc => ⟨fun hh => by
        rcases hh with ⟨r, h1, h2⟩ | ⟨_, h2⟩
        · exact ⟨r, List.mem_append_left _ h1, h2⟩
        · exact ⟨a, by simp, h2⟩, fun ⟨r, h1, h2⟩ => by
        rcases List.mem_append.1 h1 with h1 | h1
        · exact .inl ⟨r, h1, h2⟩
        · rw [List.mem_singleton.1 h1] at h2; exact .inr ⟨hc, h2⟩⟩
      rw [e] at hO8; exact hO8
    refine LD_is hb18 (LD_bs0 hb8 ?_)
    have hC64 : ∀ x ∈ compL E b a, I64 x := fun x hx => by
      obtain ⟨c, rfl, hc, _⟩ := compL_mem.1 hx
      unfold GX.I64; omega
    have hRl8 : R w8 lab (compL E b a) := (hOl.rep hC64).any
    have hcl := compL_len E b a
    have h0C : 0 < (compL E b a).length := List.length_pos_of_mem (compL_mem'.2 ⟨han, Comp.refl⟩)
    have hC0 : (compL E b a)[0] = (a : Int) := by
      obtain ⟨c, hb, hbn, hbc⟩ := compL_mem.1 (List.getElem_mem h0C)
      obtain ⟨i, hi, he⟩ := List.mem_iff_getElem.1 (compL_mem'.2 (show a < b ∧ Comp E a a from ⟨han, Comp.refl⟩))
      have hle : c ≤ a := by
        rcases Nat.eq_zero_or_pos i with rfl | hi0
        · rw [he] at hb; omega
        · have := List.pairwise_iff_getElem.1 (compL_sorted E b a) 0 i h0C hi hi0
          rw [he, hb] at this; omega
      by_cases hba : c = a
      · rw [hb, hba]
      · obtain ⟨r, hr, hx⟩ := hrs.cover c (by omega) (cyc_comp hbc hca)
        exact absurd (hx.trans hbc.symm) (hnc r hr)
    refine call (hdep (h2.ext hE28) hRl8 h0C hC0 han fun c => compL_mem') ?_
    rintro u w13 ⟨hE13, D, hOu, hD⟩
    have hz13 := hE13.size_le
    obtain ⟨hzr, hpot⟩ := hD.pot han hrel
    have hD64 := hD.I64
    have hdl := hD.len
    let d : Nat → Int := fun c => D.getD c 0
    have hdb : ∀ c, c < D.length → -1 ≤ d c ∧ d c ≤ b ∧ D[c]? = some (d c) := fun c hc => by
      have e : d c = D[c] := by show D.getD c 0 = _; rw [List.getD_eq_getElem?_getD, List.getElem?_eq_getElem hc]; rfl
      rw [e]
      have := hD64 _ (List.getElem_mem hc)
      exact ⟨this.1, this.2, List.getElem?_eq_getElem hc⟩
    have hRu13 : SlR (fun c => w8.heap.size ≤ c) w13 u D := hOu.rep fun x hx => by have := hD64 x hx; show I64 x; unfold GX.I64; omega
    have hE213 := hE28.trans hE13
    have hb113 := hb1.ext hE213
    refine LD_bs1 hb113 ?_
    rw [h2.arcs.len]
    have rdP : ∀ {w' : World}, Chg w13 w' (fun c => c = px7.block) → Ext w2 w' ∧ R w' lab (compL E b a) ∧ SlR (fun c => w8.heap.size ≤ c) w' u D := fun hC => ⟨hC.ext0 hE213 fun k hk => by have hz24 := hE24.size_le; omega, ((hOl.ext hE13).keep fun k hk => hC.block k ((hOl.ext hE13).blk k hk).2 fun he => by have := (hOl.blk k hk).1; omega).rep hC64 |>.any, hRu13.chg hC fun c hc _ he => by have h3 : w8.heap.size ≤ c := hc; have h4 : c = px7.block := he; omega⟩
    refine ⟨IN p.arcs.length fun j w' => Chg w13 w' (fun c => c = px7.block) ∧ ∃ P : Nat, Box w' px7 T.t_s_waPart [lab.v, .int .i64 (P : Int), (⟨none, 0, 0⟩ : Sl).v] ∧ P ≤ 100 ∧ ∀ g : Nat, g ∣ P ↔ ∀ x y, (arcE (p.arcs.take j) x y ∧ Comp E a x ∧ Comp E a y) → (g : Int) ∣ d x + 1 - d y, MN p.arcs.length, IN_zero ⟨Chg.refl _ _, 0, hb8.ext hE13, by omega, fun g => by simp [arcE]⟩, ?_⟩
    rintro _ w14 ⟨j, rfl, hj, hC14, P, hb14, hP100, hP⟩
    intros
    obtain ⟨hE214, hRl14, hRu14⟩ := rdP hC14
    refine cond_dec (fun hlt => ?_) (fun hge2 => ?_)
    · have hj' : j < p.arcs.length := by omega
      refine (h2.arcs.ext hE214).ixL hj' fun q row hrow hcr => LD_sl hcr (LD_bs0 hb14 ?_)
      obtain ⟨x, y, he, hx, hy⟩ := hg.arc (List.getElem_mem hj')
      rw [hnn] at hx hy
      rw [he] at hrow
      have hstep : ∀ c e, arcE (p.arcs.take (j + 1)) c e ↔ arcE (p.arcs.take j) c e ∨ (c = x ∧ e = y) := fun c e => by
        unfold arcE
        rw [List.take_succ_eq_append_getElem hj', he, List.mem_append, List.mem_singleton]
        simp only [List.cons.injEq, and_true, Int.natCast_inj]
      have skip : ¬ (Comp E a x ∧ Comp E a y) → ∀ {w' : World}, Ext w14 w' → IN p.arcs.length (fun j w' => Chg w13 w' (fun c => c = px7.block) ∧ ∃ P : Nat, Box w' px7 T.t_s_waPart [lab.v, .int .i64 (P : Int), (⟨none, 0, 0⟩ : Sl).v] ∧ P ≤ 100 ∧ ∀ g : Nat, g ∣ P ↔ ∀ x y, (arcE (p.arcs.take j) x y ∧ Comp E a x ∧ Comp E a y) → (g : Int) ∣ d x + 1 - d y) (IntKind.i64.wrap ((j : Int) + 1)) w' ∧ MN p.arcs.length (IntKind.i64.wrap ((j : Int) + 1)) w' < MN p.arcs.length (j : Int) w14 := fun hno {w'} hE' =>
        IN_next h2.arcs.le hj' ⟨hC14.trans (.of_ext hE'), P, hb14.ext hE', hP100, fun g => (hP g).trans ⟨fun hh c e ⟨h1, h3, h4⟩ => by
          rcases (hstep c e).1 h1 with h5 | ⟨rfl, rfl⟩
          · exact hh c e ⟨h5, h3, h4⟩
          · exact absurd ⟨h3, h4⟩ hno, fun hh c e ⟨h1, h3⟩ => hh c e ⟨(hstep c e).2 (.inl h1), h3⟩⟩⟩
      have hmem : ∀ c : Nat, c < b → ((compL E b a).contains (c : Int) = true ↔ Comp E a c) := fun c hcn => by
        rw [List.contains_iff_mem, compL_mem']
        exact ⟨fun hh => hh.2, fun hh => ⟨hcn, hh⟩⟩
      have has : ∀ {w' : World} (z : Int), Ext w14 w' → Calls Tryz.prog F.s_l1Has #[lab.v, .int .i64 z] w' (Ret [.at .bool] fun (c : Bool) w'' => c = (compL E b a).contains z ∧ Ext w' w'') := fun z hE' => by
        refine call (l1Has_ok (hRl14.ext hE') z) ?_
        rintro _ _ ⟨rfl, rfl⟩
        exact ⟨rfl, Ext.refl _⟩
      refine hrow.any.ixI (i := 0) (by simp) fun q3 _ hc3 => LD_int hc3 ?_
      refine QCALL_bool ((compL E b a).contains (x : Int)) (fun w' hE' => has _ hE') ?_
      refine cond_b (fun ht => LD_bs0 hb14 ?_) (fun hf w16 hE16 => skip (fun hh => by rw [(hmem x hx).2 hh.1] at hf; cases hf) hE16)
      refine hrow.any.ixI (i := 1) (by simp) fun q4 _ hc4 => LD_int hc4 ?_
      refine QCALL_bool ((compL E b a).contains (y : Int)) (fun w' hE' => has _ hE') ?_
      intro w15 hE15
      refine cond_b (fun ht2 => ?_) (fun hf2 => skip (fun hh => by rw [(hmem y hy).2 hh.2] at hf2; cases hf2) hE15)
      have hcx := (hmem x hx).1 ht
      have hcy := (hmem y hy).1 ht2
      intro w17 hE17 _
      have hE1417 := hE15.trans hE17
      have hrow17 := hrow.any.ext hE1417
      have hRu17 := hRu14.any.ext hE1417
      have hb17 := hb14.ext hE1417
      have hxl : x < D.length := by omega
      have hyl : y < D.length := by omega
      have cr := Chg.refl w17 (fun _ => False)
      refine ⟨fun _ => False, not_false, LD_bi1 hb17 ?_⟩
      refine hrow17.ixI (i := 0) (by simp) fun q5 _ hc5 => ⟨not_false, LD_int hc5 ?_⟩
      refine hRu17.ixI (i := x) hxl fun q6 _ hc6 => ⟨not_false, LD_int hc6 ⟨cr, ?_⟩⟩
      refine hrow17.ixI (i := 1) (by simp) fun q7 _ hc7 => ⟨cr, LD_int hc7 ⟨cr, ?_⟩⟩
      refine hRu17.ixI (i := y) hyl fun q8 _ hc8 => ⟨cr, LD_int hc8 ⟨cr, cr, ?_⟩⟩
      obtain ⟨a1, a2, a3⟩ := hdb x hxl
      obtain ⟨b1, b2, b3⟩ := hdb y hyl
      have ea : D[x] = d x := by rw [List.getElem?_eq_getElem hxl] at a3; exact Option.some.inj a3
      have eb : D[y] = d y := by rw [List.getElem?_eq_getElem hyl] at b3; exact Option.some.inj b3
      rw [ea, eb, wrap_of (n := d x + 1) (by omega) (by omega), wrap_of (n := d x + 1 - d y) (by omega) (by omega)]
      refine call (l1Abs_ok (x := d x + 1 - d y) (by omega) w17) ?_
      rintro _ _ ⟨rfl, rfl⟩
      refine ⟨cr, call (waGcd_ok (a := P) (b := (d x + 1 - d y).natAbs) w17) ?_⟩
      rintro _ w19 ⟨hE19, rfl⟩
      refine ⟨.of_ext hE19, ?_⟩
      have hE219 := hE214.trans (hE1417.trans hE19)
      have hz24 := hE24.size_le
      refine ST_boxC (hb17.ext hE19) (by simp) rfl hE219 (by omega) fun w20 hC20 _ hb20 => ?_
      refine IN_next h2.arcs.le hj' ⟨(hC14.trans (.of_ext (hE1417.trans hE19))).trans hC20, _, hb20, gcd_bound hP100 (by omega), fun g => ?_⟩
      rw [div_step hP g]
      constructor
      · intro hh c e ⟨h1, h3, h4⟩
        rcases (hstep c e).1 h1 with h5 | ⟨rfl, rfl⟩
        · exact hh c e (.inl ⟨h5, h3, h4⟩)
        · exact hh c e (.inr ⟨rfl, rfl⟩)
      · rintro hh c e (⟨h1, h3⟩ | ⟨rfl, rfl⟩)
        · exact hh c e ⟨(hstep c e).2 (.inl h1), h3⟩
        · exact hh c e ⟨(hstep c e).2 (.inr ⟨rfl, rfl⟩), hcx, hcy⟩
    · have : j = p.arcs.length := by omega
      subst this
      have hPd : ∀ g : Nat, g ∣ P ↔ PerDiv E a g := fun g => by
        rw [hP g, List.take_length, hEe, ← pot_div (d := d) hzr hpot g]
        exact ⟨fun hh x y h2 h3 h1 => hh x y ⟨h1, h2, h3⟩, fun hh x y ⟨h1, h2, h3⟩ => hh x y h2 h3 h1⟩
      obtain ⟨hPf, hP0⟩ := flex_of hPd hca
      refine LD_bs0 hb14 ?_
      rw [hRl14.len]
      have hz14 := hC14.size
      -- the residues
      refine ⟨IN (compL E b a).length fun i w' => Chg w14 w' (fun c => c = px7.block) ∧ ∃ (res : Sl) (X : List Int), Box w' px7 T.t_s_waPart [lab.v, .int .i64 (P : Int), res.v] ∧ OwnL w' w14.heap.size T.t_int res X ∧ X.length = i, MN (compL E b a).length, IN_zero ⟨Chg.refl _ _, ⟨none, 0, 0⟩, [], hb14, OwnL.nil _ _ _, rfl⟩, ?_⟩
      rintro _ w21 ⟨i, rfl, hi, hC21, res, X, hb21, hOr, hXl⟩
      intros
      have hC1321 := hC14.trans hC21
      obtain ⟨hE221, hRl21, hRu21⟩ := rdP hC1321
      have hz21 := hC21.size
      have hz24 := hE24.size_le
      refine cond_dec (fun hlt => ?_) (fun hge3 => ?_)
      · have hi' : i < (compL E b a).length := by omega
        refine hRl21.ixI hi' fun q _ hcq => LD_int hcq ?_
        obtain ⟨c, hc, hcb, hcc⟩ := compL_mem.1 (List.getElem_mem hi')
        rw [hc]
        intro w22 hE22 _
        have hz22 := hE22.size_le
        have hOr22 := hOr.ext hE22
        have hb22 := hb21.ext hE22
        have hcl2 : c < D.length := by omega
        have hresne : ¬ oB res px7.block := fun hh => by have := (hOr.blk _ hh).1; omega
        refine ⟨oB res, hresne, LD_bs2 hb22 ?_⟩
        have hRu22 : SlR (fun c => w8.heap.size ≤ c ∧ c < w14.heap.size) w22 u D := ((hRu13.below.weak (D' := fun c => w8.heap.size ≤ c ∧ c < w14.heap.size) (fun c hc _ => ⟨hc.1, by have := hc.2; omega⟩) RepP.pos).chg hC1321 (fun c hc _ he => by have h3 := hc.1; have h4 : c = px7.block := he; omega)).ext hE22
        refine slr_ixW hRu22 (i := c) hcl2 fun q2 hq2 hc2 => ⟨fun hh => by have h3 := (hOr.blk _ hh).1; have h4 := hq2.2; omega, LD_int hc2 ⟨Chg.refl _ _, ?_⟩⟩
        obtain ⟨a1, a2, a3⟩ := hdb c hcl2
        have ea : D[c] = d c := by rw [List.getElem?_eq_getElem hcl2] at a3; exact Option.some.inj a3
        have hnn : 0 ≤ d c := by
          obtain ⟨k, hk, _⟩ := hpot c hcc
          show (0 : Int) ≤ D.getD c 0
          omega
        rw [ea]
        refine LD_bi1 hb22 ⟨Chg.refl _ _, (by omega), Chg.refl _ _, ?_⟩
        have ht64 : I64 (Int.tmod (d c) (P : Int)) := by
          rw [Int.tmod_eq_emod_of_nonneg hnn]
          have h1 := Int.emod_nonneg (d c) (show (P : Int) ≠ 0 by omega)
          have h2 := Int.emod_lt_of_pos (d c) (show (0 : Int) < P by omega)
          unfold GX.I64; omega
        refine RUN_lit1 (α := Int) slt_int (Int.tmod (d c) (P : Int)) rfl (by decide) fun y w23 hE23 hO23 => ⟨.of_ext hE23, ?_⟩
        have hz23 := hE23.size_le
        refine RUN_append (α := Int) slt_int (hOr22.ext hE23) (by omega) (hO23.rep (by intro x hx; rw [List.mem_singleton.1 hx]; exact ht64)).any (by simp; omega) (by simp [maxLen]; omega) fun res' w24 hO24 hs24 => ?_
        have hC24 : Chg w22 w24 (oB res) := (Chg.of_ext hE23).trans (.of_step hs24 fun k hk => hk)
        refine ⟨hC24, ?_⟩
        have hz24' := hs24.size
        have hE224 : Ext w2 w24 := hs24.ext0 (hE221.trans (hE22.trans hE23)) fun k hk => by have := (hOr.blk k hk).1; omega
        refine ST_boxC (hb22.chg hC24 hresne) (by simp) rfl hE224 (by omega) fun w25 hC25 _ hb25 => ?_
        refine IN_next (by omega) hi' ⟨((hC21.trans (.of_ext hE22)).then' hC24 fun k hk hd => by have := (hOr.blk k hd).1; omega).trans hC25, res', X ++ [Int.tmod (d c) (P : Int)], hb25, hO24.keep fun k hk => hC25.block k (hO24.blk k hk).2 fun he => by have := (hO24.blk k hk).1; omega, by simp [hXl]⟩
      · have : i = (compL E b a).length := by omega
        subst this
        refine LD_sis hb21 ?_
        refine RUN_lit1 (α := WRec) slt_part ⟨lab, (P : Int), res⟩ rfl (by decide) fun y w26 hE26 hO26 => ?_
        have hz26 := hE26.size_le
        -- everything since w4
        have hC4_8 : Chg w4 w8 (oB s18) := (Chg.of_ext hE47).then' hC8 fun k hk hd => hd.resolve_right fun he => by omega
        have hC4_21 : Chg w4 w21 (oB s18) := (hC4_8.trans (.of_ext hE13)).then' hC1321 fun k hk hd => by omega
        have hX21 : PartsO w3.heap.size w21 x4 E b rs := hX4.keep hC4_21 fun c hc hd => by have := (h18b c hd).2; omega
        have hz13' := hC1321.size
        have hlabR : SlR (fun c => w4.heap.size ≤ c) w21 lab (compL E b a) := (((hOl.ext hE13).keep fun k hk => hC1321.block k ((hOl.ext hE13).blk k hk).2 fun he => by have := (hOl.blk k hk).1; omega).rep hC64).weak (fun c hc _ => by have h3 : w7.heap.size ≤ c := hc; omega) RepP.pos
        obtain ⟨recs, hOx4, hrl4, _⟩ := id hX4.ex
        have hrl := roots_len hrs
        have hla : SlR (fun c => w3.heap.size ≤ c ∧ x4.v.ownBlock ≠ some c) w26 lab (compL E b a) := (hlabR.weak (fun c hc _ => ⟨by have h3 : w4.heap.size ≤ c := hc; omega, fun he => by have h3 : w4.heap.size ≤ c := hc; have := (hOx4.blk c he).2; omega⟩) RepP.pos).ext hE26
        refine RUN_append_part hX21 (by omega) hE26 hla ⟨P, rfl, hP100, hPf⟩ (by omega) hO26 fun x4' w27 hX27 hs27 => ?_
        have hz27 := hs27.size
        have hE226 := hE221.trans hE26
        refine hk x4' w27 (hs27.ext0 hE226 fun k hk => by have := (hOx4.blk k hk).1; omega) (by omega) ?_ hX27
        have hO26' : OwnL w26 w2.heap.size T.t_bool s18 (rowB b fun c => ∃ r ∈ rs ++ [a], Comp E r c) := ((hO8'.ext hE13).keep fun k hk => hC1321.block k ((hO8'.ext hE13).blk k hk).2 (h18ne k hk)).ext hE26
        exact hO26'.keep fun k hk => hs27.block k (hO26'.blk k hk).2 fun he => by have h1 := (hOx4.blk k he.symm).1; have h3 := (h18b k hk).2; omega

theorem waParts_ok {w : World} {s : Sl} {p : WPr} (h : RWk w s p) (hg : WGood p) :
    Calls Tryz.prog F.s_waParts #[.agg #[.int .i64 p.labels, s.v]] w (Ret [.at .sl] fun (r : Sl) w' => Ext w w' ∧ ∃ rs, Roots (arcE p.arcs) p.labels.toNat rs ∧ PartsO 0 w' r (arcE p.arcs) p.labels.toNat rs) := by
  refine C_s_waParts ?_
  unfold V_s_waParts
  refine NEW_intro fun px1 w1 hp1 hs1 hE1 hb1 => LD_is hb1 ?_
  refine call (waReach_ok (h.ext hE1) hg) ?_
  rintro s15 w2 ⟨hE2, hR15⟩
  have hl := hg.lab
  have hb2 := hb1.ext hE2
  have hE12 := hE1.trans hE2
  refine LD_bi0 hb2 ?_
  obtain ⟨n, hn⟩ : ∃ n : Nat, p.labels = n := ⟨p.labels.toNat, by omega⟩
  have hnt : p.labels.toNat = n := by omega
  have hn12 : n ≤ 12 := by omega
  rw [hnt] at hR15 ⊢
  have hrun : ∀ {K : Sl → World → Prop}, RUN Tryz.prog (.at .sl) (Instr.makeSlice T.t_sl_bool (.int .i64 (n : Int)) (.int .i64 (n : Int))) w2 K → RUN Tryz.prog (.at .sl) (Instr.makeSlice T.t_sl_bool (.int .i64 p.labels) (.int .i64 p.labels)) w2 K := fun hk => by rw [hn]; exact hk
  refine hrun ?_
  refine RUN_make (α := Bool) slt_bool (d := false) rfl (by omega) (by unfold maxLen; omega) fun s18 w3 hE3 hO3 => ?_
  rw [← rowB_false n (P := fun b => ∃ r ∈ ([] : List Nat), Comp (arcE p.arcs) r b) (fun _ _ ⟨r, hr, _⟩ => by simp at hr)] at hO3
  have hz3 := hE3.size_le
  have h18b : ∀ k, oB s18 k → w2.heap.size ≤ k ∧ k < w3.heap.size := fun k hk => hO3.blk k hk
  have h2 := h.ext hE12
  refine ⟨fun (x4 : Sl) (x : Int) w' => ∃ a : Nat, x = a ∧ a ≤ n ∧ Ext w2 w' ∧ w3.heap.size ≤ w'.heap.size ∧ ∃ rs, Roots (arcE p.arcs) a rs ∧ OwnL w' w2.heap.size T.t_bool s18 (rowB n fun b => ∃ r ∈ rs, Comp (arcE p.arcs) r b) ∧ PartsO w3.heap.size w' x4 (arcE p.arcs) n rs, fun _ x _ => n - x.toNat, ⟨0, rfl, by omega, hE3, Nat.le_refl _, [], Roots.nil _, hO3, PartsO.nil _ _ _ _⟩, ?_⟩
  rintro x4 _ w4 ⟨a, rfl, ha, hE4, hz4, rs, hrs, hO18, hX4⟩
  intros
  have next : ∀ {x4' : Sl} {w' : World} {rs' : List Nat}, a < n → Ext w2 w' → w3.heap.size ≤ w'.heap.size → Roots (arcE p.arcs) (a + 1) rs' → OwnL w' w2.heap.size T.t_bool s18 (rowB n fun b => ∃ r ∈ rs', Comp (arcE p.arcs) r b) → PartsO w3.heap.size w' x4' (arcE p.arcs) n rs' → (∃ a' : Nat, IntKind.i64.wrap ((a : Int) + 1) = a' ∧ a' ≤ n ∧ Ext w2 w' ∧ w3.heap.size ≤ w'.heap.size ∧ ∃ rs, Roots (arcE p.arcs) a' rs ∧ OwnL w' w2.heap.size T.t_bool s18 (rowB n fun b => ∃ r ∈ rs, Comp (arcE p.arcs) r b) ∧ PartsO w3.heap.size w' x4' (arcE p.arcs) n rs) ∧ n - (IntKind.i64.wrap ((a : Int) + 1)).toNat < n - ((a : Int)).toNat := fun han k1 k2 k3 k4 k5 => by
    rw [wrap_of (by omega) (by omega)]
    exact ⟨⟨a + 1, by omega, by omega, k1, k2, _, k3, k4, k5⟩, by omega⟩
  refine LD_bi0 (hb2.ext hE4) (cond_dec (fun hlt => ?_) (fun hge => ?_))
  · have han : a < n := by omega
    have hal : a < (rowB n fun b => ∃ r ∈ rs, Comp (arcE p.arcs) r b).length := by rw [rowB_len]; exact han
    refine (hO18.rep fun _ _ => trivial).any.ixB hal fun q hc => LD_bool hc ?_
    have hd := rowB_get hal
    generalize (rowB n fun b => ∃ r ∈ rs, Comp (arcE p.arcs) r b)[a] = v at hd
    refine cond_b (fun ht => next han hE4 hz4 (hrs.skip fun _ => hd.1 ht) hO18 hX4) (fun hf => ?_)
    have hnc : ∀ r ∈ rs, ¬ Comp (arcE p.arcs) r a := fun r hr hc => by rw [hd.2 ⟨r, hr, hc⟩] at hf; cases hf
    have hm15 : (matB n (reachE (arcE p.arcs))).length = n := matB_len _ _
    refine (hR15.ext hE4).ixL (i := a) (by omega) fun q2 row hrow hc2 => LD_sl hc2 ?_
    rw [matB_get (by omega)] at hrow
    have hal2 : a < (rowB n (reachE (arcE p.arcs) a)).length := by rw [rowB_len]; exact han
    refine hrow.any.ixB hal2 fun q3 hc3 => LD_bool hc3 ?_
    have hr := rowB_get hal2
    generalize (rowB n (reachE (arcE p.arcs) a))[a] = v2 at hr
    refine cond_not (fun hf2 => next han hE4 hz4 (hrs.skip fun hc => (by rw [hr.2 hc] at hf2; cases hf2)) hO18 hX4) (fun ht2 => ?_)
    have hca : ∃ k, 0 < k ∧ Wk (arcE p.arcs) k a a := hr.1 ht2
    exact waParts_k4 (w3 := w3) h2 hg hnt hb2 hE4 hR15 hz3 hz4 h18b hO18 hX4 han hrs hca hnc fun x4' w' k1 k2 k3 k4 => next han k1 k2 (hrs.add hca hnc) k3 k4
  · have : a = n := by omega
    subst this
    refine ⟨hE12.trans hE4, rs, hrs, ?_⟩
    obtain ⟨recs, hO, hl2, hr2⟩ := hX4.ex
    exact ⟨recs, hO.low (by omega), hl2, fun j h1 h2 => ⟨(hr2 j h1 h2).1.weak (fun c hc _ => ⟨by omega, hc.2⟩) RepP.pos, (hr2 j h1 h2).2⟩⟩

end Go.Proofs.YtfiginahjofdnaaGreat
end

section
/- Walk problems, the reference: flexible labels. -/
namespace Go.Proofs.YtfiginahjofdnaaGreat
open Go.GX Go.RowKit
set_option maxRecDepth 100000

theorem slr_nil {α : Type} [RepP α] (D : Nat → Prop) (w : World) : SlR D w ⟨none, 0, 0⟩ ([] : List α) := ⟨rfl, ⟨Nat.le_refl _, by simp⟩, fun i x hx => by simp at hx⟩

theorem slr_ixW3 {D : Nat → Prop} {w : World} {s : Sl} {l : List WRec} (h : SlR D w s l) {i : Nat} (hi : i < l.length) {K : Addr → Prop} (hk : ∀ p, (∀ j v, [l[i].a.v, .int .i64 l[i].p, l[i].b.v][j]? = some v → w.cell? (p.add j) = some v) → K p) : IX s i 3 K :=
  h.ix rfl (by omega) (by omega) fun p cs hr hc => hk p fun j v hv => hc j v (by
    have hr' : cs = [l[i].a.v, .int .i64 l[i].p, l[i].b.v] := hr
    rw [hr']; exact hv)

theorem LD_wpart {w : World} {p : Addr} {x : WRec} {K : Sl → Int → Sl → Prop} (hc : ∀ (j : Nat) (v : Value), [x.a.v, .int .i64 x.p, x.b.v][j]? = some v → w.cell? (p.add j) = some v) (hk : K x.a x.p x.b) : LD [.sl, .int .i64, .sl] p w K := ⟨[x.a.v, .int .i64 x.p, x.b.v], rfl, fun j v hv => hc j v hv, hk⟩

theorem waFlexible_ok {w : World} {s : Sl} {p : WPr} (h : RWk w s p) (hg : WGood p) :
    Calls Tryz.prog F.s_waFlexible #[.agg #[.int .i64 p.labels, s.v]] w (Ret [.at .sl] fun (r : Sl) w' => Ext w w' ∧ SlR (fun b => w.heap.size ≤ b) w' r (flexL (arcE p.arcs) p.labels.toNat)) := by
  refine C_s_waFlexible ?_
  unfold V_s_waFlexible
  refine NEW_intro fun pp w1 hp1 hs1 hE1 hb1 => LD_is hb1 ?_
  refine call (waParts_ok (h.ext hE1) hg) ?_
  rintro t w2 ⟨hE2, rs, hrs, hPO⟩
  have hl := hg.lab
  generalize arcE p.arcs = E at *
  generalize hnn : p.labels.toNat = n at *
  have hn12 : n ≤ 12 := by omega
  obtain ⟨recs, hO, hrl, hr⟩ := hPO.ex
  have hRt : R w2 t recs := (hO.rep fun _ _ => trivial).any
  have hrln := roots_len hrs
  have hz1 := hE1.size_le
  have hz2 := hE2.size_le
  rw [hRt.len, hrl]
  have small : ∀ {m : List Int}, m.Pairwise (· < ·) → (∀ x ∈ m, ∃ r, x ∈ compL E n r) → m.length ≤ 12 := fun hs hm => by
    have := (lt_sub_sublist hs (show (allL n).Pairwise (· < ·) by unfold allL; rw [List.pairwise_map]; exact List.pairwise_lt_range.imp fun h => by omega) fun x hx => by
      obtain ⟨r, hx⟩ := hm x hx
      obtain ⟨a, rfl, ha, _⟩ := compL_mem.1 hx
      exact allL_mem.2 ⟨a, rfl, ha⟩).length_le
    simp [allL] at this
    omega
  refine ⟨IN2 rs.length fun i (out : Sl) w' => Ext w2 w' ∧ ∃ m, SlR (fun b => w2.heap.size ≤ b) w' out m ∧ m.Pairwise (· < ·) ∧ ∀ x, x ∈ m ↔ ∃ r ∈ rs.take i, Flex E r ∧ x ∈ compL E n r, MN2 rs.length, IN2_zero ⟨Ext.refl _, [], slr_nil _ _, List.Pairwise.nil, fun x => by simp⟩, ?_⟩
  rintro out _ w3 ⟨i, rfl, hi, hE3, m, hm, hms, hmx⟩
  intros
  refine cond_dec (fun hlt => ?_) (fun hge => ?_)
  · have hi' : i < rs.length := by omega
    have hir : i < recs.length := by omega
    obtain ⟨hlab, q0, hq0, _, hqf⟩ := hr i hir hi'
    have htk : rs.take (i + 1) = rs.take i ++ [rs[i]] := List.take_succ_eq_append_getElem hi'
    refine slr_ixW3 (hRt.ext hE3) hir fun q hc => ?_
    refine LD_wpart hc ?_
    refine NEW_ST (one3w _ _ _) rfl fun px w5 hpx hE5 hb5 => LD_bs0 hb5 ?_
    have hE35 := hE3.trans hE5
    have hz3 := hE3.size_le
    have hz5 := hE5.size_le
    have hRlab : R w5 recs[i].a (compL E n rs[i]) := (hlab.any).ext hE35
    rw [hRlab.len]
    refine ⟨IN2 (compL E n rs[i]).length fun j (o : Sl) w' => Ext w5 w' ∧ ∃ m, SlR (fun b => w2.heap.size ≤ b) w' o m ∧ m.Pairwise (· < ·) ∧ ∀ x, x ∈ m ↔ (∃ r ∈ rs.take i, Flex E r ∧ x ∈ compL E n r) ∨ (Flex E rs[i] ∧ x ∈ (compL E n rs[i]).take j), MN2 (compL E n rs[i]).length, IN2_zero ⟨Ext.refl _, m, hm.ext hE5, hms, fun x => (hmx x).trans (by simp)⟩, ?_⟩
    rintro o _ w6 ⟨j, rfl, hj, hE6, m6, hm6, hms6, hmx6⟩
    intros
    refine cond_dec (fun hlt2 => ?_) (fun hge2 => ?_)
    · have hj' : j < (compL E n rs[i]).length := by omega
      refine (hRlab.ext hE6).ixI hj' fun q2 h64 hc2 => LD_int hc2 (LD_bi1 (hb5.ext hE6) ?_)
      have htk2 : (compL E n rs[i]).take (j + 1) = (compL E n rs[i]).take j ++ [(compL E n rs[i])[j]] := List.take_succ_eq_append_getElem hj'
      have hcl := compL_len E n rs[i]
      have hz6 := hE6.size_le
      refine cond_eq (fun h1 => ?_) (fun hne => ?_)
      · have hF : Flex E rs[i] := hqf.1 (by rw [hq0] at h1; omega)
        have hml : m6.length ≤ 12 := small hms6 fun x hx => by
          rcases (hmx6 x).1 hx with ⟨r, _, _, h3⟩ | ⟨_, h3⟩
          · exact ⟨r, h3⟩
          · exact ⟨_, List.mem_of_mem_take h3⟩
        refine call (l1Put_D hm6 (by omega) hms6 h64) ?_
        rintro o' w7 ⟨hE7, m7, hm7, hms7, hmx7, _⟩
        refine IN2_next (by omega) hj' ⟨hE6.trans hE7, m7, hm7.weak (fun b hb _ => hb.elim id fun hb => by omega) RepP.pos, hms7, fun x => ?_⟩
        rw [hmx7, hmx6, htk2, List.mem_append, List.mem_singleton]
        constructor
        · rintro ((h2 | ⟨h2, h3⟩) | h2)
          · exact .inl h2
          · exact .inr ⟨h2, .inl h3⟩
          · exact .inr ⟨hF, .inr h2⟩
        · rintro (h2 | ⟨h2, h3 | h3⟩)
          · exact .inl (.inl h2)
          · exact .inl (.inr ⟨h2, h3⟩)
          · exact .inr h3
      · have hF : ¬ Flex E rs[i] := fun hf => hne (by rw [hq0, hqf.2 hf]; rfl)
        refine IN2_next (by omega) hj' ⟨hE6, m6, hm6, hms6, fun x => ?_⟩
        rw [hmx6]
        exact ⟨fun hh => hh.imp id fun ⟨h2, _⟩ => absurd h2 hF, fun hh => hh.imp id fun ⟨h2, _⟩ => absurd h2 hF⟩
    · have : j = (compL E n rs[i]).length := by omega
      subst this
      refine IN2_next (by omega) hi' ⟨hE35.trans hE6, m6, hm6, hms6, fun x => ?_⟩
      rw [hmx6, List.take_length]
      constructor
      · rintro (⟨r, h2, h3⟩ | h2)
        · exact ⟨r, by rw [htk]; exact List.mem_append_left _ h2, h3⟩
        · exact ⟨rs[i], by rw [htk]; exact List.mem_append_right _ (List.mem_singleton.2 rfl), h2⟩
      · rintro ⟨r, h2, h3⟩
        rw [htk] at h2
        rcases List.mem_append.1 h2 with h2 | h2
        · exact .inl ⟨r, h2, h3⟩
        · rw [List.mem_singleton.1 h2] at h3; exact .inr h3
  · have : i = rs.length := by omega
    subst this
    rw [List.take_length] at hmx
    have e : m = flexL E n := sorted_ext hms (flexL_sorted E n) fun x => by
      classical
      rw [hmx, ← flex_roots hrs (fs := rs.filter fun r => decide (Flex E r)) (fun r => by simp [List.mem_filter]) x, List.mem_flatMap]
      constructor
      · rintro ⟨r, h1, h2, h3⟩
        exact ⟨r, List.mem_filter.2 ⟨h1, by simpa using h2⟩, h3⟩
      · rintro ⟨r, h1, h3⟩
        rw [List.mem_filter] at h1
        exact ⟨r, h1.1, by simpa using h1.2, h3⟩
    rw [e] at hm
    exact ⟨(hE1.trans hE2).trans hE3, hm.weak (fun b hb _ => by omega) RepP.pos⟩

end Go.Proofs.YtfiginahjofdnaaGreat
end

section
/- Problems: their configurations looked up, what is asked of them, both sides. -/
namespace Go.Proofs.YtfiginahjofdnaaGreat
open Go.GX Go.RowKit
set_option maxRecDepth 100000

/-! ### Looking up -/

/-! ### The reference's looking up -/

theorem l1Same_ok {w : World} {s t : Sl} {a b : List Int} (ha : R w s a) (hb : R w t b) :
    Calls Tryz.prog F.s_l1Same #[s.v, t.v] w (Ret [.at .bool] fun (r : Bool) w' => r = decide (a = b) ∧ Ext w w') := by
  refine C_s_l1Same ?_
  unfold V_s_l1Same
  rw [ha.len, hb.len]
  refine cond_ne (fun hne => ⟨?_, Ext.refl _⟩) (fun heq => ?_)
  · have : a ≠ b := fun he => hne (by rw [he])
    simp [this]
  have hl : a.length = b.length := by have heq' : ((a.length : Nat) : Int) = (b.length : Nat) := heq; omega
  refine ⟨IN a.length fun i w' => Ext w w' ∧ ∀ u < i, a[u]? = b[u]?, MN a.length, IN_zero ⟨Ext.refl _, fun u hu => absurd hu (by omega)⟩, ?_⟩
  rintro _ w1 ⟨i, rfl, hi, hE, hI⟩
  intros
  refine cond_dec (fun hlt => ?_) (fun hge => ?_)
  · have hi' : i < a.length := by omega
    have hi2 : i < b.length := by omega
    refine (ha.ext hE).ixI hi' fun q _ hc => LD_int hc ?_
    refine (hb.ext hE).ixI hi2 fun q _ hc => LD_int hc ?_
    intro w2 hE2
    refine cond_ne (fun hne => ⟨?_, hE.trans hE2⟩) (fun heq => IN_next ha.le hi' ⟨hE.trans hE2, all_succ hI ?_⟩)
    · have : a ≠ b := fun he => by subst he; exact hne rfl
      simp [this]
    · have heq' : a[i] = b[i] := heq
      simp [hi', hi2, heq']
  · have : i = a.length := by omega
    subst this
    have : a = b := by
      apply List.ext_getElem?
      intro u
      by_cases hu : u < a.length
      · exact hI u hu
      · rw [List.getElem?_eq_none (by omega), List.getElem?_eq_none (by omega)]
    exact ⟨by simp [this], hE⟩

/-- Sorting by inserting. -/
theorem swap_perm {l : List Int} {k : Nat} (hk : k + 1 < l.length) : ((l.set (k + 1) l[k]).set k l[k + 1]).Perm l := by
  have hl : l = l.take k ++ l[k] :: l[k + 1] :: l.drop (k + 2) := by
    rw [← List.drop_eq_getElem_cons hk, ← List.drop_eq_getElem_cons (show k < l.length by omega), List.take_append_drop]
  have hlen : (l.take k).length = k := by simp; omega
  generalize l[k] = x at *
  generalize l[k + 1] = y at *
  generalize hA : l.take k = A at *
  generalize hB : l.drop (k + 2) = B at *
  rw [hl, List.set_append_right _ _ (by omega), hlen, show k + 1 - k = 1 by omega, List.set_cons_succ, List.set_cons_zero, List.set_append_right _ _ (by omega), hlen, Nat.sub_self, List.set_cons_zero]
  exact List.Perm.append_left _ (List.Perm.swap _ _ _)

def InsInv (M : List Int) (i k : Nat) : Prop := ∀ u v (_ : u < v) (hv : v < M.length), v ≤ i → v ≠ k → M[u]'(by omega) ≤ M[v]

theorem ins_swap {M : List Int} {i k : Nat} (hk : k + 1 < M.length) (hi : i < M.length) (hki : k + 1 ≤ i) (h : InsInv M i (k + 1)) (hgt : M[k] > M[k + 1]) : InsInv ((M.set (k + 1) M[k]).set k M[k + 1]) i k := by
  intro u v huv hv hvi hvk
  have hvM : v < M.length := by simpa using hv
  rw [List.getElem_set, List.getElem_set, List.getElem_set, List.getElem_set]
  by_cases h1 : k = u
  · subst h1
    rw [if_pos rfl, if_neg (by omega)]
    by_cases h2 : k + 1 = v
    · subst h2; rw [if_pos rfl]; omega
    · rw [if_neg h2]
      exact h (k + 1) v (by omega) hvM hvi (by omega)
  · rw [if_neg h1, if_neg (by omega : ¬ k = v)]
    by_cases h3 : k + 1 = u
    · subst h3
      rw [if_pos rfl, if_neg (by omega)]
      exact h k v (by omega) hvM hvi (by omega)
    · rw [if_neg h3]
      by_cases h2 : k + 1 = v
      · subst h2; rw [if_pos rfl]
        exact h u k (by omega) (by omega) (by omega) (by omega)
      · rw [if_neg h2]
        exact h u v huv hvM hvi (by omega)

theorem ins_done {M : List Int} {i k : Nat} (hi : i < M.length) (hki : k ≤ i) (h : InsInv M i k) (hle : k = 0 ∨ ∃ j, ∃ hj : j + 1 < M.length, k = j + 1 ∧ M[j] ≤ M[j + 1]) : InsInv M i (i + 1) := by
  intro u v huv hv hvi _
  by_cases hvk : v = k
  · subst hvk
    rcases hle with h0 | ⟨j, hj, rfl, hjl⟩
    · omega
    · rcases Nat.lt_or_eq_of_le (Nat.le_of_lt_succ huv) with h1 | h1
      · exact Int.le_trans (h u j h1 (by omega) (by omega) (by omega)) hjl
      · subst h1; exact hjl
  · exact h u v huv hv hvi hvk

theorem prSorted_ok {w : World} {s : Sl} {l : List Int} (h : R w s l) (hl : l.length ≤ 1048576) :
    Calls Tryz.prog F.s_prSorted #[s.v] w (Ret [.at .sl] fun (r : Sl) w' => Ext w w' ∧ OwnL w' w.heap.size T.t_int r (sortI l)) := by
  refine C_s_prSorted ?_
  unfold V_s_prSorted
  refine call (l1Own_ok h hl) ?_
  rintro r w1 ⟨hE1, hO1⟩
  have hok := flat_ok h
  rw [hO1.1]
  refine ⟨IN l.length fun i w' => Ext w w' ∧ ∃ M : List Int, OwnL w' w.heap.size T.t_int r M ∧ M.Perm l ∧ InsInv M i i, MN l.length, IN_zero ⟨hE1, l, hO1, List.Perm.refl _, fun u v huv hv hvi hne => absurd hvi (by omega)⟩, ?_⟩
  rintro _ w2 ⟨i, rfl, hi, hE2, M, hO2, hp2, hI2⟩
  intros
  refine cond_dec (fun hlt => ?_) (fun hge => ?_)
  rotate_left
  · have hil : i = l.length := by omega
    subst hil
    have hsort : M.Pairwise (· ≤ ·) := List.pairwise_iff_getElem.2 fun u v hu hv huv => hI2 u v huv hv (by have := hp2.length_eq; omega) (by have := hp2.length_eq; omega)
    have he : M = sortI l := (hp2.trans (sortI_perm l).symm).eq_of_pairwise (fun a b _ _ h1 h2 => Int.le_antisymm h1 h2) hsort (sortI_sorted l)
    rw [he] at hO2
    exact ⟨hE2, hO2⟩
  have hi' : i < l.length := by omega
  refine ⟨fun (k : Int) w' => ∃ j : Nat, k = j ∧ j ≤ i ∧ Ext w w' ∧ ∃ M : List Int, OwnL w' w.heap.size T.t_int r M ∧ M.Perm l ∧ InsInv M i j, fun k _ => k.toNat, ⟨i, rfl, Nat.le_refl _, hE2, M, hO2, hp2, hI2⟩, ?_⟩
  rintro _ w3 ⟨j, rfl, hj, hE3, M3, hO3, hp3, hI3⟩
  intros
  have hlen3 := hp3.length_eq
  have hnext : ∀ w', Ext w3 w' → InsInv M3 i (i + 1) → IN l.length (fun i w' => Ext w w' ∧ ∃ M : List Int, OwnL w' w.heap.size T.t_int r M ∧ M.Perm l ∧ InsInv M i i) (IntKind.i64.wrap ((i : Int) + 1)) w' ∧ MN l.length (IntKind.i64.wrap ((i : Int) + 1)) w' < MN l.length (i : Int) w2 := fun w' hE' hI' => by
    refine IN_next (by omega) hi' ⟨hE3.trans hE', M3, hO3.ext hE', hp3, fun u v huv hv hvi hne => hI' u v huv hv (by omega) (by omega)⟩
  refine cond_dec (fun hpos => ?_) (fun hnp => fun w5 hE5 => ?_)
  rotate_left
  · have : j = 0 := by omega
    subst this
    exact hnext w5 hE5 (ins_done (by omega) (by omega) hI3 (.inl rfl))
  obtain ⟨m, rfl⟩ : ∃ m, j = m + 1 := ⟨j - 1, by omega⟩
  have hm1 : m + 1 < M3.length := by omega
  have hok3 : ∀ x ∈ M3, I64 x := fun x hx => hok x (hp3.mem_iff.1 hx)
  rw [show ((m + 1 : Nat) : Int) - 1 = (m : Int) by omega, wrap_of (n := (m : Int)) (by omega) (by omega)]
  have hR3 := (hO3.rep hok3).any
  refine hR3.ixI (i := m) (by omega) fun q _ hc => LD_int hc ?_
  refine hR3.ixI hm1 fun q _ hc => LD_int hc ?_
  intro w4 hE4
  refine cond_dec (fun hgt => ?_) (fun hng => ?_)
  · have hO4 := hO3.ext hE4
    have hR4 := hR3.ext hE4
    refine hR4.ixI hm1 fun q _ hc => LD_int hc ?_
    refine hR4.ixI (i := m) (by omega) fun q _ hc => LD_int hc ?_
    refine IX_own hO4 hm1 rfl fun q hq => ?_
    refine ST_own hO4 hm1 hq M3[m] rfl fun w8 hO8 hs8 => ?_
    refine IX_own hO8 (i := m) (by simp; omega) rfl fun q2 hq2 => ?_
    refine ST_own hO8 (by simp; omega) hq2 M3[m + 1] rfl fun w9 hO9 hs9 => ?_
    have hEw := hE3.trans hE4
    have hE8 := hs8.ext0 hEw (fun k hk => (hO4.blk k hk).1)
    have hE9 := hs9.ext0 hE8 (fun k hk => (hO8.blk k hk).1)
    exact ⟨⟨m, rfl, by omega, hE9, _, hO9, (swap_perm hm1).trans hp3, ins_swap hm1 (by omega) (by omega) hI3 hgt⟩, by simp only; omega⟩
  · exact hnext w4 hE4 (ins_done (by omega) hj hI3 (.inr ⟨m, hm1, rfl, by omega⟩))

end Go.Proofs.YtfiginahjofdnaaGreat
end

section
/- Rooted problems: valid ones, both sides; lines with labels of a set. -/
namespace Go.Proofs.YtfiginahjofdnaaGreat
open Go.GX Go.RowKit
set_option maxRecDepth 100000

structure RRo (w : World) (s : Sl) (p : RPr) : Prop where
  lab : I64 p.labels
  chi : I64 p.children
  lines : R w s p.lines
theorem RRo.ext {w w' : World} {s : Sl} {p : RPr} (h : RRo w s p) (hE : Ext w w') : RRo w' s p := ⟨h.lab, h.chi, h.lines.ext hE⟩

theorem LD_iis {w : World} {p : Addr} {t : TypeId} {x y : Int} {z : Sl} {r : List Value} {K : Int → Int → Sl → Prop} (hb : Box w p t (.int .i64 x :: .int .i64 y :: z.v :: r)) (hk : K x y z) : LD [.int .i64, .int .i64, .sl] p w K := by
  refine ⟨[.int .i64 x, .int .i64 y, z.v], rfl, fun i v hv => ?_, hk⟩
  match i, hv with
  | 0, hv => exact hb.cell (i := 0) hv
  | 1, hv => exact hb.cell (i := 1) hv
  | 2, hv => exact hb.cell (i := 2) hv
  | i + 3, hv => simp at hv
theorem one3r (x y : Int) (z : Sl) : ∀ v ∈ [Value.int .i64 x, .int .i64 y, z.v], v.oneCell' = true := by intro v hv; simp at hv; rcases hv with rfl | rfl | rfl <;> rfl

theorem roHasLabels_ok {w : World} {s t : Sl} {p : RPr} {l : List Int} (hp : 1 ≤ p.labels ∧ p.labels ≤ 8) (hl : R w t l) :
    Calls Tryz.prog F.i_RootedProblem_hasLabels #[.agg #[.int .i64 p.labels, .int .i64 p.children, s.v], t.v] w (Ret [.at .bool] fun (b : Bool) w' => (b = true ↔ AllIn l 0 (p.labels - 1)) ∧ Ext w w') := by
  refine C_i_RootedProblem_hasLabels ?_
  unfold V_i_RootedProblem_hasLabels
  refine NEW_intro fun pp w1 hp1 hs1 hE1 hb1 => LD_bi0 hb1 ?_
  rw [wrap_of (n := p.labels - 1) (by omega) (by omega)]
  refine call (allWithin_ok (hl.ext hE1) _ _) ?_
  rintro b w2 ⟨h1, hE2⟩
  exact ⟨h1, hE1.trans hE2⟩

/-- A line as it is asked. -/
def RowGood (p : RPr) (x : List Int) : Prop := (x.length : Int) = p.children + 1 ∧ AllIn x 0 (p.labels - 1) ∧ x.tail.Pairwise (· ≤ ·)
theorem RoGood.of {p : RPr} (h1 : 1 ≤ p.labels ∧ p.labels ≤ 8) (h2 : 1 ≤ p.children ∧ p.children ≤ 3) (h3 : ∀ u (hu : u < p.lines.length), RowGood p p.lines[u]) (h4 : ∀ u (hu : u + 1 < p.lines.length), cmpL p.lines[u] p.lines[u + 1] < 0) : RoGood p :=
  have key : ∀ x ∈ p.lines, RowGood p x := fun x hx => by
    obtain ⟨u, hu, rfl⟩ := List.mem_iff_getElem.1 hx
    exact h3 u hu
  ⟨h1, h2, ⟨fun x hx => (key x hx).1, fun x hx => (key x hx).2.1, h4⟩, fun x hx => (key x hx).2.2⟩
theorem RoGood.row {p : RPr} (h : RoGood p) {u : Nat} (hu : u < p.lines.length) : RowGood p p.lines[u] := ⟨h.up.len _ (List.getElem_mem hu), h.up.lab _ (List.getElem_mem hu), h.sort _ (List.getElem_mem hu)⟩

theorem sortI_self {l : List Int} (h : l.Pairwise (· ≤ ·)) : sortI l = l := (sortI_perm l).eq_of_pairwise (fun a b _ _ h1 h2 => by omega) (sortI_sorted l) h

theorem IsRootedProblem_ok {w : World} {s : Sl} {p : RPr} (h : RRo w s p) :
    Calls Tryz.prog F.i_IsRootedProblem #[.agg #[.int .i64 p.labels, .int .i64 p.children, s.v]] w (Ret [.at .bool] fun (b : Bool) w' => (b = true ↔ RoGood p) ∧ Ext w w') := by
  refine C_i_IsRootedProblem ?_
  unfold V_i_IsRootedProblem
  refine NEW_intro fun pp w1 hp1 hs1 hE1 hb1 => LD_bi0 hb1 ?_
  have no : ∀ {w' : World}, Ext w w' → ¬ RoGood p → ((false = true ↔ RoGood p) ∧ Ext w w') := fun hE hn => ⟨⟨(fun h => by cases h), (fun h => absurd h hn)⟩, hE⟩
  refine call (within_ok _ _ _ _) ?_
  rintro _ _ ⟨rfl, rfl⟩
  refine cond_not (fun hf => no hE1 fun hg => ?_) (fun ht => LD_bi1 hb1 ?_)
  · have := hg.lab
    simp only [inR, Bool.and_eq_false_iff, decide_eq_false_iff_not] at hf
    omega
  have hl : 1 ≤ p.labels ∧ p.labels ≤ 8 := by simpa [inR] using ht
  refine call (within_ok _ _ _ _) ?_
  rintro _ _ ⟨rfl, rfl⟩
  refine cond_not (fun hf => no hE1 fun hg => ?_) (fun ht2 => ?_)
  · have := hg.chi
    simp only [inR, Bool.and_eq_false_iff, decide_eq_false_iff_not] at hf
    omega
  have hc : 1 ≤ p.children ∧ p.children ≤ 3 := by simpa [inR] using ht2
  unfold V_i_IsRootedProblem_k1
  refine LD_bs2 hb1 ?_
  have hle := h.lines.le
  rw [h.lines.len]
  refine ⟨IN p.lines.length fun i w' => Ext w1 w' ∧ (∀ u < i, ∀ (hu : u < p.lines.length), RowGood p p.lines[u]) ∧ ∀ u, u + 1 < i → ∀ (hu : u + 1 < p.lines.length), cmpL p.lines[u] p.lines[u + 1] < 0, MN p.lines.length, IN_zero ⟨Ext.refl _, fun u hu => absurd hu (by omega), fun u hu => absurd hu (by omega)⟩, ?_⟩
  rintro _ w5 ⟨i, rfl, hi, hE5, h1, h2⟩
  intros
  have hE05 := hE1.trans hE5
  have hb5 := hb1.ext hE5
  refine cond_dec (fun hlt => ?_) (fun hge => ?_)
  rotate_left
  · have : i = p.lines.length := by omega
    subst this
    exact ⟨by simp only [true_iff]; exact RoGood.of hl hc (fun u hu => h1 u hu hu) fun u hu => h2 u hu hu, hE05⟩
  have hi' : i < p.lines.length := by omega
  refine (h.lines.ext hE05).ixL hi' fun q s1 hR1 hcq => LD_sl hcq (LD_bi1 hb5 ?_)
  rw [hR1.len, wrap_of (n := p.children + 1) (by omega) (by omega)]
  refine cond_ne (fun hne => no hE05 fun hg => hne (hg.row hi').1) (fun heq => LD_iis hb5 ?_)
  have hlen : (p.lines[i].length : Int) = p.children + 1 := heq
  refine call (roHasLabels_ok hl hR1.any) ?_
  rintro y w6 ⟨hy, hE6⟩
  have hE06 := hE05.trans hE6
  refine cond_not (fun hf => no hE06 fun hg => by rw [hy.2 (hg.row hi').2.1] at hf; cases hf) (fun ht3 => ?_)
  refine slr_drop (i := 1) (hR1.any.ext hE6) (by omega) rfl fun d hd => ?_
  refine call (isSorted_ok hd) ?_
  rintro z w7 ⟨hz, hE7⟩
  have hE07 := hE06.trans hE7
  rw [List.drop_one] at hz
  refine cond_not (fun hf => no hE07 fun hg => by rw [hz.2 (hg.row hi').2.2] at hf; cases hf) (fun ht4 => ?_)
  have hrow : RowGood p p.lines[i] := ⟨hlen, hy.1 ht3, hz.1 ht4⟩
  have hE57 := hE5.trans (hE6.trans hE7)
  refine cond_dec (fun hpos => ?_) (fun hnp => IN_next hle hi' ⟨hE57, all_succ h1 fun _ => hrow, fun u hu => absurd hu (by omega)⟩)
  refine LD_bs2 ((hb5.ext hE6).ext hE7) ?_
  obtain ⟨j, rfl⟩ : ∃ j, i = j + 1 := ⟨i - 1, by omega⟩
  rw [show ((j + 1 : Nat) : Int) - 1 = (j : Int) by omega, wrap_of (n := (j : Int)) (by omega) (by omega)]
  refine (h.lines.ext hE07).ixL (i := j) (by omega) fun q s2 hR2 hc2 => LD_sl hc2 ?_
  refine call (compare_ok hR2.any (hR1.any.ext (hE6.trans hE7))) ?_
  rintro _ _ ⟨rfl, rfl⟩
  refine cond_dec (fun hge => no hE07 fun hg => by have := hg.up.up j hi'; omega) (fun hlt2 => ?_)
  refine IN_next hle hi' ⟨hE57, all_succ h1 fun _ => hrow, fun u hu hu2 => ?_⟩
  by_cases he : u = j
  · subst he; omega
  · exact h2 u (by omega) hu2

theorem roGood_ok {w : World} {s : Sl} {p : RPr} (h : RRo w s p) :
    Calls Tryz.prog F.s_roGood #[.agg #[.int .i64 p.labels, .int .i64 p.children, s.v]] w (Ret [.at .bool] fun (b : Bool) w' => (b = true ↔ RoGood p) ∧ Ext w w') := by
  refine C_s_roGood ?_
  unfold V_s_roGood
  refine NEW_intro fun pp w1 hp1 hs1 hE1 hb1 => LD_bi0 hb1 ?_
  have no : ∀ {w' : World}, Ext w w' → ¬ RoGood p → ((false = true ↔ RoGood p) ∧ Ext w w') := fun hE hn => ⟨⟨(fun h => by cases h), (fun h => absurd h hn)⟩, hE⟩
  refine call (l1In_ok _ _ _ _) ?_
  rintro _ _ ⟨rfl, rfl⟩
  refine cond_not (fun hf => no hE1 fun hg => ?_) (fun ht => LD_bi1 hb1 ?_)
  · have := hg.lab
    simp only [inR, Bool.and_eq_false_iff, decide_eq_false_iff_not] at hf
    omega
  have hl : 1 ≤ p.labels ∧ p.labels ≤ 8 := by simpa [inR] using ht
  refine call (l1In_ok _ _ _ _) ?_
  rintro _ _ ⟨rfl, rfl⟩
  refine cond_not (fun hf => no hE1 fun hg => ?_) (fun ht2 => ?_)
  · have := hg.chi
    simp only [inR, Bool.and_eq_false_iff, decide_eq_false_iff_not] at hf
    omega
  have hc : 1 ≤ p.children ∧ p.children ≤ 3 := by simpa [inR] using ht2
  unfold V_s_roGood_k1
  refine LD_bs2 hb1 ?_
  have hle := h.lines.le
  rw [h.lines.len]
  refine ⟨IN p.lines.length fun i w' => Ext w1 w' ∧ (∀ u < i, ∀ (hu : u < p.lines.length), RowGood p p.lines[u]) ∧ ∀ u, u + 1 < i → ∀ (hu : u + 1 < p.lines.length), cmpL p.lines[u] p.lines[u + 1] < 0, MN p.lines.length, IN_zero ⟨Ext.refl _, fun u hu => absurd hu (by omega), fun u hu => absurd hu (by omega)⟩, ?_⟩
  rintro _ w5 ⟨i, rfl, hi, hE5, h1, h2⟩
  intros
  refine cond_dec (fun hlt => ?_) (fun hge => ?_)
  rotate_left
  · have : i = p.lines.length := by omega
    subst this
    exact ⟨by simp only [true_iff]; exact RoGood.of hl hc (fun u hu => h1 u hu hu) fun u hu => h2 u hu hu, hE1.trans hE5⟩
  have hi' : i < p.lines.length := by omega
  refine (h.lines.ext (hE1.trans hE5)).ixL hi' fun q s1 hR1 hcq => LD_sl hcq ?_
  intro w6 hE6 _
  have hE16 := hE5.trans hE6
  have hE06 := hE1.trans hE16
  have hb6 := hb1.ext hE16
  have hR6 := hR1.any.ext hE6
  have er := Ext.refl w6
  refine ⟨er, LD_bi1 hb6 ⟨er, er, er, er, ?_⟩⟩
  rw [hR1.len, wrap_of (n := p.children + 1) (by omega) (by omega)]
  refine cond_ne (fun hne => ⟨er, er, er, er, er, no hE06 fun hg => hne (hg.row hi').1⟩) (fun heq => ⟨er, LD_bi0 hb6 ⟨er, er, ?_⟩⟩)
  have hlen : (p.lines[i].length : Int) = p.children + 1 := heq
  rw [wrap_of (n := p.labels - 1) (by omega) (by omega)]
  refine call (l1All_ok hR6 0 (p.labels - 1)) ?_
  rintro y _ ⟨hy, rfl⟩
  refine ⟨er, er, er, er, ?_⟩
  refine cond_not (fun hf => ⟨er, er, er, no hE06 fun hg => by rw [hy.2 (hg.row hi').2.1] at hf; cases hf⟩) (fun ht3 => ?_)
  refine slr_drop (i := 1) hR6 (by omega) rfl fun d hd => ⟨er, ?_⟩
  refine slr_drop (i := 1) hR6 (by omega) rfl fun d2 hd2 => ⟨er, ?_⟩
  have hdl : (p.lines[i].drop 1).length ≤ 1048576 := by rw [List.length_drop]; omega
  refine call (prSorted_ok hd2 hdl) ?_
  rintro u8 w8 ⟨hE8, hO8⟩
  refine ⟨hE8, ?_⟩
  have hd64 : ∀ x ∈ p.lines[i].drop 1, I64 x := fun x hx => by
    have := hy.1 ht3 x (List.mem_of_mem_drop hx)
    unfold GX.I64; omega
  refine call (l1Same_ok (hd.ext hE8) (hO8.rep (sortI_I64 hd64)).any) ?_
  rintro z w9 ⟨rfl, hE9⟩
  have er9 := Ext.refl w9
  have hE69 := hE8.trans hE9
  have hE09 := hE06.trans hE69
  rw [List.drop_one]
  refine ⟨hE9, er9, er9, er9, cond_not (fun hf => ⟨er9, no hE09 fun hg => ?_⟩) (fun ht4 => ⟨er9, er9, er9, ?_⟩)⟩
  · have := sortI_self (hg.row hi').2.2
    simp [this] at hf
  have hst : p.lines[i].tail.Pairwise (· ≤ ·) := by
    have e : p.lines[i].tail = sortI p.lines[i].tail := by simpa using ht4
    rw [e]; exact sortI_sorted _
  have hrow : RowGood p p.lines[i] := ⟨hlen, hy.1 ht3, hst⟩
  have hE19 := hE16.trans hE69
  refine cond_dec (fun hpos => ?_) (fun hnp => ⟨er9, er9, IN_next hle hi' ⟨hE19, all_succ h1 fun _ => hrow, fun u hu => absurd hu (by omega)⟩⟩)
  refine LD_bs2 (hb6.ext hE69) ?_
  obtain ⟨j, rfl⟩ : ∃ j, i = j + 1 := ⟨i - 1, by omega⟩
  rw [show ((j + 1 : Nat) : Int) - 1 = (j : Int) by omega, wrap_of (n := (j : Int)) (by omega) (by omega)]
  have hjr := h1 j (by omega) (by omega)
  refine (h.lines.ext hE09).ixL (i := j) (by omega) fun q s2 hR2 hc2 => LD_sl hc2 ⟨er9, ?_⟩
  refine call (prOrder_ok (c := p.labels - 1) hR2.any (hR6.ext hE69) (by have := hjr.1; omega) (by omega) hjr.2.1 hrow.2.1) ?_
  rintro _ _ ⟨rfl, rfl⟩
  refine ⟨er9, er9, er9, er9, ?_⟩
  refine cond_dec (fun hge => no hE09 fun hg => by have := hg.up.up j hi'; omega) (fun hlt2 => ?_)
  refine IN_next hle hi' ⟨hE19, all_succ h1 fun _ => hrow, fun u hu hu2 => ?_⟩
  by_cases he : u = j
  · subst he; omega
  · exact h2 u (by omega) hu2

end Go.Proofs.YtfiginahjofdnaaGreat
end

section
/- slices.DeleteFunc at []int. -/
namespace Go.Proofs.YtfiginahjofdnaaGreat
open Go.GX Go.RowKit
set_option maxRecDepth 100000

end Go.Proofs.YtfiginahjofdnaaGreat
end

section
/- slices.Compact at []int; the number of different elements of a list. -/
namespace Go.Proofs.YtfiginahjofdnaaGreat
open Go.GX Go.RowKit
set_option maxRecDepth 100000

theorem slr_sub {α : Type} [RepP α] {D : Nat → Prop} {w : World} {s d : Sl} {l : List α} (h : SlR D w s l) {i : Nat} (hi : i ≤ l.length) (hd : d.len = s.len - i) (hc : d.cap = s.cap - i) (ha : i < s.len → d.a = s.a.map (·.add (i * Rep.sz α))) : SlR D w d (l.drop i) := by
  have h1 := h.1
  have h2 := h.2.1
  refine ⟨by simp; omega, by omega, fun j x hx => ?_⟩
  rw [List.getElem?_drop] at hx
  have hlt := (List.getElem?_eq_some_iff.1 hx).1
  obtain ⟨a, cs, e1, e2, e3, e4⟩ := h.2.2 (i + j) x hx
  refine ⟨a.add (i * Rep.sz α), cs, by rw [ha (by omega), e1]; rfl, by rw [add_block]; exact e2, e3, fun t v ht => ?_⟩
  rw [add_add, show i * Rep.sz α + (j * Rep.sz α + t) = (i + j) * Rep.sz α + t by rw [Nat.add_mul]; omega]
  exact e4 t v ht

end Go.Proofs.YtfiginahjofdnaaGreat
end

section
/- slices.IndexFunc, slices.DeleteFunc and slices.CompactFunc at [][]int. -/
namespace Go.GX
open Go.RowKit

theorem OwnL.repB {α : Type} [Flat α] {w : World} {base : Nat} {e : TypeId} {s : Sl} {l : List α} (h : OwnL w base e s l) (hok : ∀ x ∈ l, Flat.ok x) : SlR (fun b => s.v.ownBlock = some b) w s l := by
  obtain ⟨h1, h2⟩ := h
  refine ⟨h1, ?_, fun i x hx => ?_⟩
  · rcases h2.2 with ⟨hv, h0⟩ | ⟨g, cap, cur, hv, _, _, hle, hmx, _⟩
    · simp [Sl.v] at hv; omega
    · simp [Sl.v] at hv; obtain ⟨_, rfl⟩ := hv; exact ⟨hle, hmx⟩
  · rcases h2.2 with ⟨hv, h0⟩ | ⟨g, cap, cur, hv, hb, hg, hle, _, hsz, htake⟩
    · rw [h0] at h1; have : l = [] := by cases l; rfl; simp at h1
      subst this; cases hx
    · simp [Sl.v] at hv
      obtain ⟨ha, rfl⟩ := hv
      refine ⟨⟨g, 0, none⟩, Flat.cells x, ha, by simp [Sl.v, ha, Value.ownBlock], Flat.repOk (hok x (List.mem_of_getElem? hx)), fun j v hj => ?_⟩
      have hown : w.ownsRow base e (Rep.sz α) s.v s.len (l.flatMap Flat.cells) := h2
      exact World.ownsRow.cells hown (g := g) (by simp [Sl.v, ha, Value.ownBlock]) _ v (flat_get l hx hj)

/-- What is owned is told by the slice. -/
theorem own_fun {w : World} {base base' : Nat} {e e' : TypeId} {s : Sl} {l l' : List Int} (h : OwnL w base e s l) (h' : OwnL w base' e' s l') : l = l' := by
  have hf : ∀ q : List Int, q.flatMap Flat.cells = q.map (Value.int .i64) := by
    intro q
    induction q with
    | nil => rfl
    | cons x r ih => rw [List.flatMap_cons, ih]; rfl
  have hl : l.length = l'.length := h.1.symm.trans h'.1
  rcases h.2.2 with ⟨hv, h0⟩ | ⟨g, cap, cur, hv, _, hg, _, _, _, htake⟩
  · rw [h.1] at h0
    have h1 : l = [] := List.length_eq_zero_iff.1 h0
    have h2 : l' = [] := List.length_eq_zero_iff.1 (hl.symm.trans h0)
    rw [h1, h2]
  · rcases h'.2.2 with ⟨hv', h0⟩ | ⟨g', cap', cur', hv', _, hg', _, _, _, htake'⟩
    · rw [h'.1] at h0
      have h1 : l' = [] := List.length_eq_zero_iff.1 h0
      have h2 : l = [] := List.length_eq_zero_iff.1 (hl.trans h0)
      rw [h1, h2]
    · rw [hv] at hv'
      cases hv'
      rw [hg] at hg'
      cases hg'
      rw [htake, hf, hf] at htake'
      exact (List.map_inj_right (f := Value.int .i64) fun x y hxy => by cases hxy; rfl).1 htake'

/-- Clearing the last part of a slice of slices of the call's own. -/
theorem RUN_clearS {P : Program} {t ti e : TypeId} {bytes : Nat} (hT : SlT P t e 1 bytes (.slice none 0 0)) {w : World} {base : Nat} {s d : Sl} {l : List Sl} (h : OwnL w base e s l) {i : Nat} (hi : i < l.length) (hd : d.a = s.a.map (·.add i)) (hdl : d.len = l.length - i) {K : Value → World → Prop}
    (hk : ∀ w', OwnL w' base e s (l.take i ++ List.replicate (l.length - i) ⟨none, 0, 0⟩) → Step w w' s.v.ownBlock → K (.tuple #[]) w') : RUN P (.at .val) (bsem .clear #[t] ti #[d.v]) w K := by
  rcases h.2.2 with ⟨hv, h0⟩ | ⟨g, cap, cur, hv, hb, hg, hle, hmx, hsz, htake⟩
  · have := h.1; omega
  · have hv' := hv
    simp [Sl.v] at hv
    obtain ⟨hsa, rfl⟩ := hv
    have hf : ∀ q : List Sl, q.flatMap Flat.cells = q.map Sl.v := by
      intro q
      induction q with
      | nil => rfl
      | cons x r ih => rw [List.flatMap_cons, ih]; rfl
    have hda : d.a = some ((⟨g, 0, none⟩ : Addr).add i) := by rw [hd, hsa]; rfl
    have hown : w.ownsRow base e 1 (.slice (some ⟨g, 0, none⟩) s.len s.cap) s.len (l.map Sl.v) := by
      have := h.2; unfold Go.GX.Own at this; rw [hv', hf] at this; exact this
    refine RUN_clear hT rfl hda (by omega) ?_
    refine setMany_own (List.replicate d.len (.slice none 0 0)) i _ w _ hown (by intro v hv; rw [List.eq_of_mem_replicate hv]; rfl) (by simp; omega) (fun w' hw' hs => hk w' ⟨by simp; have := h.1; omega, ?_⟩ (by rw [hv']; exact hs)) _ 0 (by simp only [Addr.add]; split <;> simp_all)
    unfold Go.GX.Own
    rw [hv', hf]
    have e1 : (l.take i ++ List.replicate (l.length - i) (⟨none, 0, 0⟩ : Sl)).map Sl.v = (l.map Sl.v).take i ++ List.replicate d.len (.slice none 0 0) ++ (l.map Sl.v).drop (i + (List.replicate d.len (Value.slice none 0 0)).length) := by
      rw [List.drop_of_length_le (by simp; omega)]
      simp [hdl, Sl.v]
    rw [e1]
    exact hw'

theorem SlR.ixS {D : Nat → Prop} {w : World} {s : Sl} {l : List Sl} (h : SlR D w s l) {i : Nat} (hi : i < l.length) {K : Addr → Prop}
    (hk : ∀ p, w.cell? p = some l[i].v → K p) : IX s i 1 K := by
  obtain ⟨a, cs, ha, _, hrep, hc⟩ := h.2.2 i l[i] (by simp [hi])
  have hcs : cs = [l[i].v] := hrep
  subst hcs
  have hlen := h.1
  exact ⟨a, ha, by omega, by omega, hk _ (hc 0 _ rfl)⟩

end Go.GX
namespace Go.Proofs.YtfiginahjofdnaaGreat
open Go.GX Go.RowKit
set_option maxRecDepth 100000

/-! ### slices.CompactFunc -/

def nil0 : Sl := ⟨none, 0, 0⟩

/-- What slices.CompactFunc keeps of the first b elements. -/
def compS (c : Sl → List Int) (l : List Sl) : Nat → List Sl
  | 0 => []
  | b + 1 => compS c l b ++ (if b = 0 ∨ c (l.getD b nil0) ≠ c (l.getD (b - 1) nil0) then [l.getD b nil0] else [])

theorem getDS {l : List Sl} {i : Nat} (hi : i < l.length) : l.getD i nil0 = l[i] := by
  rw [List.getD_eq_getElem?_getD, List.getElem?_eq_getElem hi]; rfl

theorem compS_sub (c : Sl → List Int) (l : List Sl) : ∀ {b : Nat}, b ≤ l.length → (compS c l b).Sublist (l.take b)
  | 0, _ => by simp [compS]
  | b + 1, hb => by
    rw [compS, List.take_succ_eq_append_getElem (by omega), getDS (by omega)]
    refine List.Sublist.append (compS_sub c l (by omega)) ?_
    split
    · exact List.Sublist.refl _
    · exact List.nil_sublist _

theorem compS_mem {c : Sl → List Int} {l : List Sl} : ∀ {b : Nat}, b ≤ l.length → ∀ y, y ∈ (compS c l b).map c ↔ y ∈ (l.take b).map c
  | 0, _, y => by simp [compS]
  | b + 1, hb, y => by
    rw [compS, List.take_succ_eq_append_getElem (by omega), getDS (by omega), List.map_append, List.map_append, List.mem_append, List.mem_append, compS_mem (by omega)]
    split
    · simp
    · rename_i h
      simp only [not_or, Decidable.not_not] at h
      constructor
      · rintro (h1 | h1)
        · exact .inl h1
        · simp at h1
      · rintro (h1 | h1)
        · exact .inl h1
        · left
          simp only [List.map_cons, List.map_nil, List.mem_singleton] at h1
          rw [h1, h.2, getDS (by omega)]
          exact List.mem_map.2 ⟨_, List.mem_take_iff_getElem.2 ⟨b - 1, by omega, rfl⟩, rfl⟩

theorem compS_rise {c : Sl → List Int} {l : List Sl} (hs : (l.map c).Pairwise fun a b => cmpL a b ≤ 0) : ∀ {b : Nat}, b ≤ l.length → ((compS c l b).map c).Pairwise fun a b => cmpL a b < 0
  | 0, _ => by simp [compS]
  | b + 1, hb => by
    rw [compS, getDS (by omega)]
    split
    · rename_i h
      rw [List.map_append]
      refine List.pairwise_append.2 ⟨compS_rise hs (by omega), by simp, ?_⟩
      intro x hx y hy
      simp at hy
      subst hy
      obtain ⟨z, hz, rfl⟩ := List.mem_map.1 ((compS_mem (by omega) _).1 hx)
      obtain ⟨j, hj, rfl⟩ := List.mem_take_iff_getElem.1 hz
      have hb' : b < l.length := by omega
      have hj' : j < b := by omega
      rcases h with h | h
      · omega
      · rw [getDS (by omega)] at h
        have hp : ∀ i k (hik : i < k) (hk : k < l.length), cmpL (c l[i]) (c l[k]) ≤ 0 := fun i k hik hk => by
          have := List.pairwise_iff_getElem.1 hs i k (by simp; omega) (by simpa using hk) hik
          simpa using this
        have h1 := hp (b - 1) b (by omega) hb'
        have h3 : cmpL (c l[b - 1]) (c l[b]) < 0 := by
          rcases Int.lt_or_eq_of_le h1 with h2 | h2
          · exact h2
          · exact absurd (cmpL_zero.1 h2).symm h
        by_cases e : j = b - 1
        · subst e; exact h3
        · have h2 := hp j (b - 1) (by omega) (by omega)
          rcases Int.lt_or_eq_of_le h2 with h4 | h4
          · exact cmpL_trans h4 h3
          · rw [cmpL_zero.1 h4]; exact h3
    · simpa using compS_rise hs (b := b) (by omega)

theorem compactFuncS_ok {w : World} {base : Nat} {s : Sl} {l : List Sl} {c : Sl → List Int} {f : Value} (h : OwnL w base T.t_sl_int s l) (hl : l.length ≤ 1048576)
    (hf : ∀ x ∈ l, ∀ y ∈ l, ∀ w', Chg w w' (oB s) → CALLV Tryz.prog f #[x.v, y.v] w' (Ret [.at .bool] fun (b : Bool) w'' => b = decide (c x = c y) ∧ Ext w' w'')) :
    Calls Tryz.prog F.slices_CompactFunc_sl_sl_int_sl_int #[s.v, f] w (Ret [.at .sl] fun (r : Sl) w' => Chg w w' (oB s) ∧ OwnL w' base T.t_sl_int r (compS c l l.length) ∧ r.a = s.a) := by
  have hok : ∀ l : List Sl, ∀ x ∈ l, Flat.ok x := fun _ _ _ => trivial
  refine C_slices_CompactFunc_sl_sl_int_sl_int ?_
  unfold V_slices_CompactFunc_sl_sl_int_sl_int
  have hsl := h.1
  have hr := h.rep (hok _)
  have hall : ∀ b, 1 ≤ b → b ≤ l.length → (∀ j, 1 ≤ j → j < b → c (l.getD j nil0) ≠ c (l.getD (j - 1) nil0)) → compS c l b = l.take b := by
    intro b
    induction b with
    | zero => intro h; omega
    | succ b ih =>
      intro _ hb hne
      rw [List.take_succ_eq_append_getElem (by omega), compS, getDS (by omega)]
      by_cases h0 : b = 0
      · subst h0; simp [compS]
      · rw [ih (by omega) (by omega) (fun j h1 h2 => hne j h1 (by omega)), if_pos (.inr (by have := hne b (by omega) (by omega); rwa [getDS (by omega)] at this))]
  rw [hsl]
  refine cond_dec (fun hlt => ?_) (fun hge => ?_)
  · refine ⟨Chg.refl _ _, ?_, rfl⟩
    have : compS c l l.length = l := by
      by_cases h0 : l.length = 0
      · rw [List.length_eq_zero_iff.1 h0]; rfl
      · rw [hall l.length (by omega) (Nat.le_refl _) (fun j h1 h2 => by omega), List.take_length]
    rw [this]; exact h
  · refine ⟨fun i w' => ∃ k : Nat, i = k ∧ 1 ≤ k ∧ k ≤ l.length ∧ Ext w w' ∧ ∀ j, 1 ≤ j → j < k → c (l.getD j nil0) ≠ c (l.getD (j - 1) nil0), fun i _ => l.length - i.toNat, ⟨1, rfl, by omega, by omega, Ext.refl _, fun j h1 h2 => by omega⟩, ?_⟩
    rintro _ w1 ⟨k, rfl, hk1, hkl, hE1, hne⟩
    intros
    refine cond_dec (fun hlt => ?_) (fun hge2 => ?_)
    · have hk : k < l.length := by omega
      intro w2 hE2 _
      have hE12 := hE1.trans hE2
      refine (hr.ext hE12).ixS (i := k) hk fun q hc => LD_sl hc ⟨Ext.refl _, Ext.refl _, ?_⟩
      rw [wrap_of (by omega) (by omega)]
      have e1 : ((k : Int) - 1) = ((k - 1 : Nat) : Int) := by omega
      rw [e1]
      refine (hr.ext hE12).ixS (i := k - 1) (by omega) fun q hc => ⟨Ext.refl _, LD_sl hc ⟨Ext.refl _, ?_⟩⟩
      refine callv (hf _ (List.getElem_mem hk) _ (List.getElem_mem (by omega)) w2 (Chg.of_ext hE12)) ?_
      rintro x w3 ⟨rfl, hE3⟩
      have hE13 := hE12.trans hE3
      refine ⟨hE3, ?_⟩
      refine cond_dec (fun heq => ?_) (fun hneq => ?_)
      · refine SLC_from' hr.2.1.1 (by omega) fun d hdl hdc hda => ?_
        have hck : compS c l (k + 1) = l.take k := by
          rw [compS, hall k hk1 (by omega) hne, if_neg (by rw [getDS hk, getDS (by omega)]; simp only [not_or, Decidable.not_not]; exact ⟨by omega, heq⟩), List.append_nil]
        refine ⟨fun i j w' => ∃ a b : Nat, i = a ∧ j = b ∧ 1 ≤ b ∧ k + b ≤ l.length ∧ a < k + b ∧ k ≤ a ∧ Chg w w' (oB s) ∧ ∃ X : List Sl, OwnL w' base T.t_sl_int s X ∧ X.length = l.length ∧ X.take a = compS c l (k + b) ∧ (compS c l (k + b)).length = a ∧ X.drop (k + b - 1) = l.drop (k + b - 1), fun _ j _ => l.length - j.toNat,
          ⟨k, 1, rfl, rfl, by omega, by omega, by omega, by omega, .of_ext hE13, l, h.ext hE13, rfl, hck.symm, by rw [hck]; simp; omega, rfl⟩, ?_⟩
        rintro _ _ w4 ⟨a, b, rfl, rfl, hb1, hkb, hab, hka, hC, X, hO, hXl, hXa, hal, hXd⟩
        intros
        rw [hdl, hsl]
        have hXR := slr_sub (hO.rep (hok _)) (i := k) (by omega) (by rw [hdl]) hdc hda
        refine cond_dec (fun hlt2 => ?_) (fun hge3 => ?_)
        · have hb : k + b < l.length := by omega
          have hX1 : X[k + b]'(by omega) = l[k + b] := by
            have h1 : (X.drop (k + b - 1))[1]? = (l.drop (k + b - 1))[1]? := by rw [hXd]
            rw [List.getElem?_drop, List.getElem?_drop, show k + b - 1 + 1 = k + b by omega, List.getElem?_eq_getElem (by omega), List.getElem?_eq_getElem hb] at h1
            simpa using h1
          have hX0 : X[k + b - 1]'(by omega) = l[k + b - 1] := by
            have h1 : (X.drop (k + b - 1))[0]? = (l.drop (k + b - 1))[0]? := by rw [hXd]
            rw [List.getElem?_drop, List.getElem?_drop, Nat.add_zero, List.getElem?_eq_getElem (by omega), List.getElem?_eq_getElem (by omega)] at h1
            simpa using h1
          intro w5 hE5 _
          have hC5 := hC.trans (Chg.of_ext hE5)
          have hO5 := hO.ext hE5
          refine (hXR.ext hE5).ixS (i := b) (by simp; omega) fun q hc => LD_sl hc ⟨Ext.refl _, Ext.refl _, ?_⟩
          rw [wrap_of (by omega) (by omega), show ((b : Int) - 1) = ((b - 1 : Nat) : Int) by omega]
          refine (hXR.ext hE5).ixS (i := b - 1) (by simp; omega) fun q hc => ⟨Ext.refl _, LD_sl hc ⟨Ext.refl _, ?_⟩⟩
          simp only [List.getElem_drop, show k + (b - 1) = k + b - 1 by omega, hX1, hX0]
          refine callv (hf _ (List.getElem_mem hb) _ (List.getElem_mem (by omega)) w5 hC5) ?_
          rintro x w6 ⟨rfl, hE6⟩
          have hC6 := hC5.trans (Chg.of_ext hE6)
          have hO6 := hO5.ext hE6
          refine ⟨hE6, hE6, ?_⟩
          have hd2 : X.drop (k + b) = l.drop (k + b) := by
            have := congrArg (List.drop 1) hXd
            rwa [List.drop_drop, List.drop_drop, show k + b - 1 + 1 = k + b by omega] at this
          refine cond_not (fun hne2 => ?_) (fun heq2 => ?_)
          · have hne' : c l[k + b] ≠ c l[k + b - 1] := by simpa using hne2
            have hcs : compS c l (k + b + 1) = compS c l (k + b) ++ [l[k + b]] := by
              rw [compS, if_pos (.inr (by rw [getDS hb, getDS (by omega)]; exact hne')), getDS hb]
            refine ((hXR.ext hE5).ext hE6).ixS (i := b) (by simp; omega) fun q hc => LD_sl hc ?_
            simp only [List.getElem_drop, hX1]
            refine IX_own hO6 (i := a) (by omega) rfl fun q hq => ?_
            refine ST_own hO6 (i := a) (by omega) hq l[k + b] rfl fun w7 hO7 hs7 => ?_
            rw [wrap_of (by omega) (by omega), wrap_of (by omega) (by omega)]
            refine ⟨⟨a + 1, b + 1, by omega, by omega, by omega, by omega, by omega, by omega, hC6.trans (.of_step hs7 fun k hk => hk), X.set a l[k + b], hO7, by simpa using hXl, ?_, ?_, ?_⟩, by show l.length - (_ : Int).toNat < l.length - (_ : Int).toNat; omega⟩
            · rw [show k + (b + 1) = k + b + 1 by omega, hcs, ← hXa, List.take_succ_eq_append_getElem (by simp; omega), List.take_set, List.set_eq_of_length_le (by simp; omega)]
              simp
            · rw [show k + (b + 1) = k + b + 1 by omega, hcs]; simp [hal]
            · rw [show k + (b + 1) - 1 = k + b by omega, List.drop_set_of_lt (by omega)]
              exact hd2
          · have heq' : c l[k + b] = c l[k + b - 1] := by simpa using heq2
            have hcs : compS c l (k + b + 1) = compS c l (k + b) := by
              rw [compS, if_neg (by rw [getDS hb, getDS (by omega)]; simp only [not_or, Decidable.not_not]; exact ⟨by omega, heq'⟩), List.append_nil]
            rw [wrap_of (by omega) (by omega)]
            exact ⟨⟨a, b + 1, rfl, by omega, by omega, by omega, by omega, by omega, hC6, X, hO6, hXl, by rw [show k + (b + 1) = k + b + 1 by omega, hcs]; exact hXa, by rw [show k + (b + 1) = k + b + 1 by omega, hcs]; exact hal, by rw [show k + (b + 1) - 1 = k + b by omega]; exact hd2⟩, by show l.length - (_ : Int).toNat < l.length - (_ : Int).toNat; omega⟩
        · have hkb' : k + b = l.length := by omega
          rw [hkb'] at hXa hal
          have hcap : s.len ≤ s.cap := (hO.rep (hok _)).2.1.1
          refine SLC_from hcap (by omega) fun d2 hdl2 hda2 => ?_
          refine RUN_clearS slt_rows hO (i := a) (by omega) (by rw [hda2 (by omega)]; simp) (by omega) fun w5 hO5 hs5 => ?_
          refine SLC_to (by omega) fun y hyl hya hyc => ?_
          refine ⟨hC.trans (.of_step hs5 fun k hk => hk), ?_, hya⟩
          have := hO5.front (k := a) (by simp; omega)
          have hy : y = ⟨s.a, a, s.cap⟩ := by cases y; simp_all
          rw [hy]
          rw [List.take_append_of_le_length (by simp; omega), List.take_take, Nat.min_self, hXa] at this
          exact this
      · rw [wrap_of (by omega) (by omega)]
        refine ⟨⟨k + 1, by omega, by omega, by omega, hE13, fun j h1 h2 => ?_⟩, by show l.length - (_ : Int).toNat < l.length - (_ : Int).toNat; omega⟩
        by_cases e : j = k
        · subst e; rw [getDS hk, getDS (by omega)]; exact hneq
        · exact hne j h1 (by omega)
    · have : k = l.length := by omega
      subst this
      refine ⟨.of_ext hE1, ?_, rfl⟩
      rw [hall _ hk1 (Nat.le_refl _) hne, List.take_length]
      exact h.ext hE1

end Go.Proofs.YtfiginahjofdnaaGreat
end

section
/- Contracts of library functions (the kit's shelf, laid at this program by the kit's own tools, in plain words). -/
namespace Go.Proofs.YtfiginahjofdnaaGreat
open Go.Shelf
def Srt.laysSlF6_f72_ren : Go.Shelf.Ren := ⟨fun | 6 => 72 | 15 => 80 | 14 => 85 | 28 => 97 | 29 => 98 | 20 => 100 | 21 => 101 | 22 => 102 | 23 => 103 | 24 => 104 | 25 => 105 | 26 => 106 | 27 => 107 | 46 => 114 | 47 => 110 | 48 => 111 | 49 => 115 | 50 => 116 | 57 => 119 | n => n, fun | 22 => 22 | 24 => 42 | 25 => 49 | 3 => 3 | 39 => 86 | 0 => 0 | 53 => 100 | 55 => 102 | 4 => 4 | 46 => 95 | 45 => 94 | 50 => 35 | 5 => 5 | 9 => 9 | 66 => 109 | 70 => 113 | 76 => 119 | 77 => 120 | n => n, fun | n => n⟩
theorem Srt.laysSlF6_f72 : Go.Proofs.SlLaysF.n6 Tryz.prog Srt.laysSlF6_f72_ren := {
  mixed := by kernel_rfl
  f6 := ⟨Tryz.f72.name, by decide, Tryz.func72.trans (congrArg some (by kernel_rfl))⟩
  f14 := ⟨Tryz.f85.name, by decide, Tryz.func85.trans (congrArg some (by kernel_rfl))⟩
  f15 := Tryz.func80.trans (congrArg some (by kernel_rfl))
  f20 := ⟨Tryz.f100.name, by decide, Tryz.func100.trans (congrArg some (by kernel_rfl))⟩
  f21 := ⟨Tryz.f101.name, by decide, Tryz.func101.trans (congrArg some (by kernel_rfl))⟩
  f22 := ⟨Tryz.f102.name, by decide, Tryz.func102.trans (congrArg some (by kernel_rfl))⟩
  f23 := ⟨Tryz.f103.name, by decide, Tryz.func103.trans (congrArg some (by kernel_rfl))⟩
  f24 := ⟨Tryz.f104.name, by decide, Tryz.func104.trans (congrArg some (by kernel_rfl))⟩
  f25 := ⟨Tryz.f105.name, by decide, Tryz.func105.trans (congrArg some (by kernel_rfl))⟩
  f26 := ⟨Tryz.f106.name, by decide, Tryz.func106.trans (congrArg some (by kernel_rfl))⟩
  f27 := ⟨Tryz.f107.name, by decide, Tryz.func107.trans (congrArg some (by kernel_rfl))⟩
  f28 := Tryz.func97.trans (congrArg some (by kernel_rfl))
  f29 := Tryz.func98.trans (congrArg some (by kernel_rfl))
  f46 := ⟨Tryz.f114.name, by decide, Tryz.func114.trans (congrArg some (by kernel_rfl))⟩
  f47 := Tryz.func110.trans (congrArg some (by kernel_rfl))
  f48 := Tryz.func111.trans (congrArg some (by kernel_rfl))
  f49 := ⟨Tryz.f115.name, by decide, Tryz.func115.trans (congrArg some (by kernel_rfl))⟩
  f50 := ⟨Tryz.f116.name, by decide, Tryz.func116.trans (congrArg some (by kernel_rfl))⟩
  f57 := ⟨Tryz.f119.name, by decide, Tryz.func119.trans (congrArg some (by kernel_rfl))⟩
  t0 := Tryz.underlying0
  a0 := Tryz.isAgg0
  z0 := Tryz.sizeOf0
  v0 := Tryz.zeroValue0
  t3 := Tryz.underlying3
  a3 := Tryz.isAgg3
  z3 := Tryz.sizeOf3
  v3 := Tryz.zeroValue3
  t4 := Tryz.underlying4
  a4 := Tryz.isAgg4
  z4 := Tryz.sizeOf4
  v4 := Tryz.zeroValue4
  t5 := Tryz.underlying5
  a5 := Tryz.isAgg5
  z5 := Tryz.sizeOf5
  v5 := Tryz.zeroValue5
  t9 := Tryz.underlying9
  a9 := Tryz.isAgg9
  z9 := Tryz.sizeOf9
  v9 := Tryz.zeroValue9
  t22 := Tryz.underlying22
  a22 := Tryz.isAgg22
  z22 := Tryz.sizeOf22
  v22 := Tryz.zeroValue22
  a24 := Tryz.isAgg42
  z24 := Tryz.sizeOf42
  t25 := Tryz.underlying49
  a25 := Tryz.isAgg49
  z25 := Tryz.sizeOf49
  v25 := Tryz.zeroValue49
  t39 := Tryz.underlying86
  a39 := Tryz.isAgg86
  z39 := Tryz.sizeOf86
  v39 := Tryz.zeroValue86
  t45 := Tryz.underlying94
  a45 := Tryz.isAgg94
  z45 := Tryz.sizeOf94
  v45 := Tryz.zeroValue94
  t46 := Tryz.underlying95
  a46 := Tryz.isAgg95
  z46 := Tryz.sizeOf95
  v46 := Tryz.zeroValue95
  t50 := Tryz.underlying35
  a50 := Tryz.isAgg35
  z50 := Tryz.sizeOf35
  v50 := Tryz.zeroValue35
  t53 := Tryz.underlying100
  a53 := Tryz.isAgg100
  z53 := Tryz.sizeOf100
  v53 := Tryz.zeroValue100
  t55 := Tryz.underlying102
  a55 := Tryz.isAgg102
  z55 := Tryz.sizeOf102
  v55 := Tryz.zeroValue102
  t66 := Tryz.underlying109
  a66 := Tryz.isAgg109
  z66 := Tryz.sizeOf109
  v66 := Tryz.zeroValue109
  t70 := Tryz.underlying113
  a70 := Tryz.isAgg113
  z70 := Tryz.sizeOf113
  v70 := Tryz.zeroValue113
  t76 := Tryz.underlying119
  a76 := Tryz.isAgg119
  z76 := Tryz.sizeOf119
  v76 := Tryz.zeroValue119
  t77 := Tryz.underlying120
  a77 := Tryz.isAgg120
  z77 := Tryz.sizeOf120
  v77 := Tryz.zeroValue120 }
open Go.RowKit Go.Lib Go.Sort in
/-- **slices.SortFunc, IN THE DOCUMENTATION's OWN TERMS: A PERMUTATION OF WHAT THE ROW HELD, SORTED BY 'cmp(a, b) < 0'.** Which of two equals comes first is left open ("The sort is not guaranteed to be stable"). (LAID AT THE INSTANCE 'slices.SortFunc[[][]int,[]int]': no walk: one application.) -/
theorem Srt.slices_SortFunc {α : Type} [Inhabited α] (enc : α → Value) (h1 : OneCell enc) (cf : α → α → Int) (hO : SWO (ltOf cf)) (g : Nat) (cb : Array Value) (blk off cap : Nat) (d : Array α) (w : World) (eg : ∀ args w, (callFunc g args).run Tryz.prog w = .ok (.enter g args) w) (hcmp : CmpLays1 Tryz.prog g cb enc cf blk off d.size w) (hH : Holds enc w blk off d) (hblk : blk < w.heap.size) (hsz : d.size < 4611686018427387904) :
    Calls Tryz.prog 72 #[.slice (some ⟨blk, off, none⟩) d.size cap, .func (.func g) #[] cb] w fun e w' =>
      e = .returned (.tuple #[]) ∧ ∃ d' n os, PermIn 0 d.size d d' ∧ SortedIn (ltOf cf) 0 d.size d' ∧ w' = sortWorld enc w blk off n d' os := Any.slices_SortFunc Srt.laysSlF6_f72 enc h1 cf hO g cb blk off cap d w eg hcmp hH hblk hsz
def Srt.laysSlF06_f72_ren : Go.Shelf.Ren := ⟨fun | 6 => 72 | 15 => 80 | 14 => 85 | 28 => 97 | 29 => 98 | 20 => 100 | 21 => 101 | 22 => 102 | 23 => 103 | 24 => 104 | 25 => 105 | 26 => 106 | 27 => 107 | 46 => 114 | 47 => 110 | 48 => 111 | 49 => 115 | 50 => 116 | 57 => 119 | n => n, fun | 22 => 22 | 24 => 42 | 25 => 49 | 3 => 3 | 39 => 86 | 0 => 0 | 53 => 100 | 55 => 102 | 4 => 4 | 46 => 95 | 45 => 94 | 50 => 35 | 5 => 5 | 9 => 9 | 66 => 109 | 70 => 113 | 76 => 119 | 77 => 120 | n => n, fun | n => n⟩
theorem Srt.laysSlF06_f72 : Go.Proofs.SlLaysF0.n6 Tryz.prog Srt.laysSlF06_f72_ren := {
  mixed := by kernel_rfl
  f6 := ⟨Tryz.f72.name, by decide, Tryz.func72.trans (congrArg some (by kernel_rfl))⟩
  f14 := ⟨Tryz.f85.name, by decide, Tryz.func85.trans (congrArg some (by kernel_rfl))⟩
  f15 := Tryz.func80.trans (congrArg some (by kernel_rfl))
  f20 := ⟨Tryz.f100.name, by decide, Tryz.func100.trans (congrArg some (by kernel_rfl))⟩
  f21 := ⟨Tryz.f101.name, by decide, Tryz.func101.trans (congrArg some (by kernel_rfl))⟩
  f22 := ⟨Tryz.f102.name, by decide, Tryz.func102.trans (congrArg some (by kernel_rfl))⟩
  f23 := ⟨Tryz.f103.name, by decide, Tryz.func103.trans (congrArg some (by kernel_rfl))⟩
  f24 := ⟨Tryz.f104.name, by decide, Tryz.func104.trans (congrArg some (by kernel_rfl))⟩
  f25 := ⟨Tryz.f105.name, by decide, Tryz.func105.trans (congrArg some (by kernel_rfl))⟩
  f26 := ⟨Tryz.f106.name, by decide, Tryz.func106.trans (congrArg some (by kernel_rfl))⟩
  f27 := ⟨Tryz.f107.name, by decide, Tryz.func107.trans (congrArg some (by kernel_rfl))⟩
  f28 := Tryz.func97.trans (congrArg some (by kernel_rfl))
  f29 := Tryz.func98.trans (congrArg some (by kernel_rfl))
  f46 := ⟨Tryz.f114.name, by decide, Tryz.func114.trans (congrArg some (by kernel_rfl))⟩
  f47 := Tryz.func110.trans (congrArg some (by kernel_rfl))
  f48 := Tryz.func111.trans (congrArg some (by kernel_rfl))
  f49 := ⟨Tryz.f115.name, by decide, Tryz.func115.trans (congrArg some (by kernel_rfl))⟩
  f50 := ⟨Tryz.f116.name, by decide, Tryz.func116.trans (congrArg some (by kernel_rfl))⟩
  f57 := ⟨Tryz.f119.name, by decide, Tryz.func119.trans (congrArg some (by kernel_rfl))⟩
  t0 := Tryz.underlying0
  a0 := Tryz.isAgg0
  z0 := Tryz.sizeOf0
  v0 := Tryz.zeroValue0
  t3 := Tryz.underlying3
  a3 := Tryz.isAgg3
  z3 := Tryz.sizeOf3
  v3 := Tryz.zeroValue3
  t4 := Tryz.underlying4
  a4 := Tryz.isAgg4
  z4 := Tryz.sizeOf4
  v4 := Tryz.zeroValue4
  t5 := Tryz.underlying5
  a5 := Tryz.isAgg5
  z5 := Tryz.sizeOf5
  v5 := Tryz.zeroValue5
  t9 := Tryz.underlying9
  a9 := Tryz.isAgg9
  z9 := Tryz.sizeOf9
  v9 := Tryz.zeroValue9
  t22 := Tryz.underlying22
  a22 := Tryz.isAgg22
  z22 := Tryz.sizeOf22
  v22 := Tryz.zeroValue22
  t25 := Tryz.underlying49
  a25 := Tryz.isAgg49
  z25 := Tryz.sizeOf49
  v25 := Tryz.zeroValue49
  t39 := Tryz.underlying86
  a39 := Tryz.isAgg86
  z39 := Tryz.sizeOf86
  v39 := Tryz.zeroValue86
  t45 := Tryz.underlying94
  a45 := Tryz.isAgg94
  z45 := Tryz.sizeOf94
  v45 := Tryz.zeroValue94
  t46 := Tryz.underlying95
  a46 := Tryz.isAgg95
  z46 := Tryz.sizeOf95
  v46 := Tryz.zeroValue95
  t50 := Tryz.underlying35
  a50 := Tryz.isAgg35
  z50 := Tryz.sizeOf35
  v50 := Tryz.zeroValue35
  t53 := Tryz.underlying100
  a53 := Tryz.isAgg100
  z53 := Tryz.sizeOf100
  v53 := Tryz.zeroValue100
  t55 := Tryz.underlying102
  a55 := Tryz.isAgg102
  z55 := Tryz.sizeOf102
  v55 := Tryz.zeroValue102
  t66 := Tryz.underlying109
  a66 := Tryz.isAgg109
  z66 := Tryz.sizeOf109
  v66 := Tryz.zeroValue109
  t70 := Tryz.underlying113
  a70 := Tryz.isAgg113
  z70 := Tryz.sizeOf113
  v70 := Tryz.zeroValue113
  t76 := Tryz.underlying119
  a76 := Tryz.isAgg119
  z76 := Tryz.sizeOf119
  v76 := Tryz.zeroValue119
  t77 := Tryz.underlying120
  a77 := Tryz.isAgg120
  z77 := Tryz.sizeOf120
  v77 := Tryz.zeroValue120 }
open Go.RowKit Go.Lib Go.Sort in
/-- **slices.SortFunc AT NO ELEMENT, A nil SLICE TOO: nothing turns.** (LAID AT THE INSTANCE 'slices.SortFunc[[][]int,[]int]': no walk: one application.) -/
theorem Srt.slices_SortFunc_none {α : Type} [Inhabited α] (p : Option Addr) (cap : Nat) (fv : Value) (w : World) :
    Calls Tryz.prog 72 #[.slice p 0 cap, fv] w fun e w' => e = .returned (.tuple #[]) ∧ w' = w := AnyF.slices_SortFunc_none Srt.laysSlF06_f72 p cap fv w
end Go.Proofs.YtfiginahjofdnaaGreat
end

section
/- slices.SortFunc at [][]int under slices.Compare; lists in order, each once. -/
namespace Go
open Go.Sort Go.Proofs

theorem holds_of_blockE {α : Type} [Inhabited α] (enc : α → Value) {w : World} {g : Nat} {cur : Array Value} {e : TypeId} {d : Array α} (hb : w.heap[g]? = some (.cells cur e (0, 0))) (ht : cur.toList.take d.size = d.toList.map enc) : Holds enc w g 0 d := by
  intro j hj
  refine ⟨?_, by simp [World.frozen?, hb]⟩
  have h1 : (cur.toList.take d.size)[j]? = (d.toList.map enc)[j]? := by rw [ht]
  rw [List.getElem?_take_of_lt hj] at h1
  simp only [World.cell?, hb, Nat.zero_add]
  simp only [Option.isSome_none, Bool.false_eq_true, if_false]
  rw [← Array.getElem?_toList, h1]
  simp [hj]

theorem heap_sortedE {α : Type} [Inhabited α] (enc : α → Value) {w : World} {g n : Nat} {os : Array Obj} {cur : Array Value} {e : TypeId} {fr : Nat × Nat} (d : Array α) (hb : w.heap[g]? = some (.cells cur e fr)) :
    (grow (putRow enc (Sort.ahead w n) g 0 d) os).heap[g]? = some (.cells (putCells enc 0 d cur) e fr) := by
  have hg : g < w.heap.size := (Array.getElem?_eq_some_iff.1 hb).1
  rw [heap_grow_old _ _ (by simpa using hg)]
  simp [putRow, mapBlock, Sort.ahead, Array.getElem?_modify, hb, onCells]

theorem grownBy_sortedE {α : Type} [Inhabited α] (enc : α → Value) {w : World} {g n : Nat} {os : Array Obj} (d : Array α) : w.grownBy (grow (putRow enc (Sort.ahead w n) g 0 d) os) (some g) := by
  refine ⟨rfl, rfl, rfl, by simp, fun k hk hne => ?_⟩
  rw [heap_grow_old _ _ (by simpa using hk)]
  have : g ≠ k := fun e => hne (by rw [e])
  simp [putRow, mapBlock, Sort.ahead, Array.getElem?_modify, this]

theorem take_putCellsE {α : Type} [Inhabited α] (enc : α → Value) (cur : Array Value) (d : Array α) (h : d.size ≤ cur.size) : (putCells enc 0 d cur).toList.take d.size = d.toList.map enc := by
  apply List.ext_getElem?
  intro j
  by_cases hj : j < d.size
  · rw [List.getElem?_take_of_lt hj, Array.getElem?_toList]
    simp [putCells, hj, show j < cur.size by omega]
  · rw [List.getElem?_take_eq_none (by omega), List.getElem?_eq_none (by simp; omega)]

theorem ownsRow_sortedE {α : Type} [Inhabited α] (enc : α → Value) {w : World} {base g cap n k : Nat} {e : TypeId} {os : Array Obj} {cur : Array Value} {d : Array α} (hl : d.size = k) (hbase : base ≤ g) (hb : w.heap[g]? = some (.cells cur e (0, 0)))
    (h1 : k ≤ cap) (h2 : cap ≤ maxLen) (h3 : cur.size = cap * 1) :
    (grow (putRow enc (Sort.ahead w n) g 0 d) os).ownsRow base e 1 (.slice (some ⟨g, 0, none⟩) k cap) k (d.toList.map enc) :=
  ⟨by simp [hl], .inr ⟨g, cap, _, rfl, hbase, heap_sortedE enc _ hb, h1, h2, by simp [putCells, h3], by rw [Nat.mul_one, ← hl]; exact take_putCellsE enc cur d (by omega)⟩⟩

end Go
namespace Go.Proofs.YtfiginahjofdnaaGreat
open Go.GX Go.RowKit Go.Sort
set_option maxRecDepth 100000

theorem cmpL_neg : ∀ a b : List Int, cmpL b a = - cmpL a b
  | [], [] => rfl
  | [], _ :: _ => rfl
  | _ :: _, [] => rfl
  | x :: a, y :: b => by
    rw [cmpL, cmpL]
    by_cases h1 : x < y
    · rw [if_pos h1, if_neg (by omega), if_pos h1]
      rfl
    · by_cases h2 : y < x
      · rw [if_pos h2, if_neg h1, if_pos h2]
      · rw [if_neg h2, if_neg h1, if_neg h1, if_neg h2]
        exact cmpL_neg a b

theorem cmpL_le_trans {a b c : List Int} (h1 : cmpL a b ≤ 0) (h2 : cmpL b c ≤ 0) : cmpL a c ≤ 0 := by
  rcases Int.lt_or_eq_of_le h1 with h3 | h3
  · rcases Int.lt_or_eq_of_le h2 with h4 | h4
    · have := cmpL_trans h3 h4; omega
    · rw [← cmpL_zero.1 h4]; exact h1
  · rw [cmpL_zero.1 h3]; exact h2

theorem Ret_int {Q : Int → World → Prop} {e : Ending} {w : World} (h : Ret [.at (.int .i64)] Q e w) : ∃ b, e = .returned (.int .i64 b) ∧ Q b w := by
  cases e with
  | returned v =>
    simp only [Ret] at h
    cases v <;> simp [unR, Sh.cells, app, At.un, atsR, botW] at h
    rename_i k n
    cases k <;> first | exact ⟨_, rfl, h⟩ | exact h.elim
  | panicked _ => exact h.elim
  | outgrown => exact h.elim

theorem sortRows_ok {w : World} {base : Nat} {s : Sl} {ss : List Sl} {c : Sl → List Int} (h : OwnL w base T.t_sl_int s ss) (hl : ss.length ≤ 1048576) (hc : ∀ x ∈ ss, SlR (fun b => ¬ oB s b) w x (c x)) :
    Calls Tryz.prog F.slices_SortFunc_sl_sl_int_sl_int #[s.v, .func (.func F.slices_Compare_sl_int_int) #[] #[]] w (Ret [] fun w' => ∃ tt, OwnL w' base T.t_sl_int s tt ∧ tt.Perm ss ∧ (tt.map c).Pairwise (fun a b => cmpL a b ≤ 0) ∧ Step w w' s.v.ownBlock) := by
  have hf : ∀ q : List Sl, q.flatMap Flat.cells = q.map Sl.v := by
    intro q
    induction q with
    | nil => rfl
    | cons x r ih => rw [List.flatMap_cons, ih]; rfl
  have hzero : s.len = 0 → Calls Tryz.prog F.slices_SortFunc_sl_sl_int_sl_int #[s.v, .func (.func F.slices_Compare_sl_int_int) #[] #[]] w (Ret [] fun w' => ∃ tt, OwnL w' base T.t_sl_int s tt ∧ tt.Perm ss ∧ (tt.map c).Pairwise (fun a b => cmpL a b ≤ 0) ∧ Step w w' s.v.ownBlock) := fun hlen => by
    have hnil : ss = [] := List.length_eq_zero_iff.1 (by rw [← h.1]; exact hlen)
    subst hnil
    have hsv : s.v = .slice s.a 0 s.cap := by rw [← hlen]
    rw [hsv]
    refine (Srt.slices_SortFunc_none (α := Nat) s.a s.cap _ w).mono ?_
    rintro e w' ⟨rfl, rfl⟩
    exact Ret_nil ⟨[], h, List.Perm.refl _, List.Pairwise.nil, Step.refl _ _⟩
  rcases h.2.2 with ⟨hv, h0⟩ | ⟨g, cap, cur, hv, hb, hg, hle, hmx, hsz, htake⟩
  · exact hzero h0
  · by_cases h0 : s.len = 0
    · exact hzero h0
    have hpos : 0 < ss.length := by rw [← h.1]; omega
    have hsb : oB s g := by unfold oB; rw [hv]; rfl
    let α : Type := {x : Sl // x ∈ ss}
    let enc : α → Value := fun x => x.1.v
    let cf : α → α → Int := fun x y => cmpL (c x.1) (c y.1)
    have inh : Inhabited α := ⟨⟨ss[0], List.getElem_mem hpos⟩⟩
    let d : Array α := ss.attach.toArray
    have hd1 : d.toList.map enc = ss.map Sl.v := by
      show (ss.attach.toArray).toList.map (fun x => x.1.v) = _
      have e0 : ss.attach.map (fun x => x.1.v) = (ss.attach.map Subtype.val).map Sl.v := by rw [List.map_map]; rfl
      show ss.attach.map (fun x => x.1.v) = _
      rw [e0, List.attach_map_subtype_val]
    have hds : d.size = ss.length := by show (ss.attach.toArray).size = _; simp
    have hsv : s.v = .slice (some ⟨g, 0, none⟩) d.size cap := by rw [hds, ← h.1]; exact hv
    rw [hsv]
    have hSWO : SWO (ltOf cf) := by
      refine ⟨fun x => ?_, fun x y z h1 h2 => ?_, fun x y z h1 h2 => ?_⟩
      · simp only [ltOf, cf, cmpL_zero.2 rfl]; decide
      · simp only [ltOf, cf, decide_eq_true_eq] at h1 h2 ⊢
        exact cmpL_trans h1 h2
      · simp only [ltOf, cf, decide_eq_false_iff_not] at h1 h2 ⊢
        have e1 := cmpL_neg (c x.1) (c y.1)
        have e2 := cmpL_neg (c y.1) (c z.1)
        have e3 := cmpL_neg (c x.1) (c z.1)
        have := cmpL_le_trans (a := c z.1) (b := c y.1) (c := c x.1) (by omega) (by omega)
        omega
    have hst : ∀ (m : Nat) (os : Array Obj) (dk : Array α), ∀ x ∈ ss, R (sortWorld enc w g 0 m dk os) x (c x) := fun m os dk x hx => by
      have hS : Step w (sortWorld enc w g 0 m dk os) (some g) := Step.of_grown (grownBy_sortedE enc dk)
      exact ((hc x hx).stepD hS fun b hb he => hb (by cases he; exact hsb)).any
    refine (Srt.slices_SortFunc enc (fun x => rfl) cf hSWO F.slices_Compare_sl_int_int #[] g 0 cap d w (run_callFunc (by kernel_rfl)) ?_ (holds_of_blockE enc hg (by
      rw [hd1, hds, ← hf, ← htake, h.1]; simp [Rep.sz])) (Array.getElem?_eq_some_iff.1 hg).1 (by omega)).mono ?_
    · intro m os dk hdk x y
      refine (compare_ok (hst m os dk x.1 x.2) (hst m os dk y.1 y.2)).mono ?_
      intro e w' hR
      obtain ⟨r, rfl, hr, rfl⟩ := Ret_int hR
      exact ⟨by rw [hr], 0, #[], by simp [World.drewN, grow]⟩
    · rintro e w' ⟨rfl, d', n, os, hP, hS, rfl⟩
      obtain ⟨hP1, -, hP3⟩ := hP
      have hd's : d'.size = ss.length := hP1.trans hds
      have e1 : d'.extract 0 d.size = d' := by rw [← hP1]; exact Array.extract_size
      have e2 : d.extract 0 d.size = d := Array.extract_size
      rw [e1, e2] at hP3
      have hpm : (d'.toList.map Subtype.val).Perm ss := by
        have := hP3.map Subtype.val
        have e3 : d.toList.map Subtype.val = ss := by
          show (ss.attach.toArray).toList.map Subtype.val = ss
          exact List.attach_map_subtype_val ss
        rwa [e3] at this
      refine Ret_nil ⟨d'.toList.map Subtype.val, ⟨?_, ?_⟩, hpm, ?_, Step.of_grown (grownBy_sortedE enc d')⟩
      · rw [hpm.length_eq]; exact h.1
      · unfold Go.GX.Own
        rw [hf, h.1, hsv, List.map_map]
        have := ownsRow_sortedE enc (w := w) (base := base) (g := g) (cap := cap) (n := n) (k := d.size) (e := T.t_sl_int) (os := os) (cur := cur) (d := d') hP1 hb hg (by rw [hds, ← h.1]; exact hle) hmx hsz
        rw [← hds]
        exact this
      · rw [List.map_map, List.pairwise_map, List.pairwise_iff_getElem]
        intro i j hi hj hij
        have hi' : i < d'.size := by simpa using hi
        have hj' : j < d'.size := by simpa using hj
        have := hS i j (Nat.zero_le _) hij (by omega)
        rw [getElem!_pos d' i hi', getElem!_pos d' j hj'] at this
        simp only [ltOf, cf, decide_eq_false_iff_not] at this
        have e3 := cmpL_neg (c d'[j].1) (c d'[i].1)
        simp only [Function.comp_apply, Array.getElem_toList]
        omega

theorem equal_ok {w : World} {s t : Sl} {a b : List Int} (ha : R w s a) (hb : R w t b) :
    Calls Tryz.prog F.slices_Equal_sl_int_int #[s.v, t.v] w (Ret [.at .bool] fun (x : Bool) w' => x = decide (a = b) ∧ Ext w w') := by
  refine C_slices_Equal_sl_int_int ?_
  unfold V_slices_Equal_sl_int_int
  rw [ha.len, hb.len]
  refine cond_ne (fun hne => ⟨?_, Ext.refl _⟩) (fun heq => ?_)
  · have : a ≠ b := fun he => hne (by rw [he])
    simp [this]
  have hl : a.length = b.length := by have : ((a.length : Nat) : Int) = (b.length : Nat) := heq; omega
  refine ⟨IN a.length fun i w' => Ext w w' ∧ a.take i = b.take i, MN a.length, IN_zero ⟨Ext.refl _, by simp⟩, ?_⟩
  rintro _ w1 ⟨i, rfl, hi, hE1, hI⟩
  intros
  refine cond_dec (fun hlt => ?_) (fun hge => ?_)
  · have hi' : i < a.length := by omega
    have hi2 : i < b.length := by omega
    refine (ha.ext hE1).ixI hi' fun q _ hc => LD_int hc ?_
    refine (hb.ext hE1).ixI hi2 fun q _ hc => LD_int hc ?_
    intro w2 hE2
    refine cond_ne (fun hne => ⟨?_, hE1.trans hE2⟩) (fun heq2 => ?_)
    · have : a ≠ b := fun he => by subst he; exact hne rfl
      simp [this]
    · have he : a[i] = b[i] := heq2
      exact IN_next ha.le hi' ⟨hE1.trans hE2, by rw [List.take_succ_eq_append_getElem hi', List.take_succ_eq_append_getElem hi2, hI, he]⟩
  · have : i = a.length := by omega
    subst this
    rw [List.take_length, hl, List.take_length] at hI
    exact ⟨by simp [hI], hE1⟩

/-- Rows that lie apart, told by their slices. -/
def Apt (r q : Sl) : Prop := ∀ k, r.v.ownBlock = some k → q.v.ownBlock ≠ some k

theorem Apt.symm {r q : Sl} (h : Apt r q) : Apt q r := fun k hk hk' => h k hk' hk

structure RowsC (w : World) (base : Nat) (s : Sl) (ss : List Sl) (c : Sl → List Int) : Prop where
  own : OwnL w base T.t_sl_int s ss
  row : ∀ x ∈ ss, OwnL w base T.t_int x (c x)
  apart : ss.Pairwise Apt

theorem RowsC.of {w : World} {base : Nat} {s : Sl} {ss : List Sl} {L : List (List Int)} (h : RowsD w base T.t_int T.t_sl_int s L ss) : ∃ c, ss.map c = L ∧ RowsC w base s ss c := by
  have hl := h.len
  have hrow : ∀ i (h1 : i < ss.length) (h2 : i < L.length), OwnL w base T.t_int ss[i] L[i] := fun i h1 h2 => h.row i _ _ (by simp [h1]) (by simp [h2])
  have key : ∀ x : Sl, ∃ l : List Int, ∀ i (h1 : i < ss.length), ss[i] = x → l = L[i]'(by omega) := fun x => by
    by_cases hx : ∃ i, ∃ h1 : i < ss.length, ss[i] = x
    · obtain ⟨i, h1, rfl⟩ := hx
      refine ⟨L[i]'(by omega), fun j h2 he => ?_⟩
      have a1 := hrow i h1 (by omega)
      have a2 := hrow j h2 (by omega)
      rw [he] at a2
      exact own_fun a1 a2
    · exact ⟨[], fun i h1 he => absurd ⟨i, h1, he⟩ hx⟩
  obtain ⟨c, hc⟩ := Classical.axiomOfChoice key
  refine ⟨c, ?_, h.own, fun x hx => ?_, ?_⟩
  · apply List.ext_getElem (by simp [hl])
    intro i h1 h2
    rw [List.getElem_map]
    exact hc _ i (by simpa using h1) rfl
  · obtain ⟨i, hi, rfl⟩ := List.mem_iff_getElem.1 hx
    rw [hc _ i hi rfl]
    exact hrow i hi (by omega)
  · rw [List.pairwise_iff_getElem]
    intro i j hi hj hij k hk
    exact h.apart i j _ _ (by simp [hi]) (by simp [hj]) (by omega) k hk

theorem RowsC.to {w : World} {base : Nat} {s : Sl} {ss : List Sl} {c : Sl → List Int} (h : RowsC w base s ss c) : RowsD w base T.t_int T.t_sl_int s (ss.map c) ss := by
  refine ⟨h.own, by simp, fun i r l hr hl => ?_, fun i j r q hr hq hij k hk => ?_⟩
  · obtain ⟨hi, rfl⟩ := List.getElem?_eq_some_iff.1 hr
    obtain ⟨h2, rfl⟩ := List.getElem?_eq_some_iff.1 hl
    rw [List.getElem_map]
    exact h.row _ (List.getElem_mem hi)
  · obtain ⟨hi, rfl⟩ := List.getElem?_eq_some_iff.1 hr
    obtain ⟨hj, rfl⟩ := List.getElem?_eq_some_iff.1 hq
    rcases Nat.lt_or_gt_of_ne hij with h1 | h1
    · exact List.pairwise_iff_getElem.1 h.apart i j hi hj h1 k hk
    · exact (List.pairwise_iff_getElem.1 h.apart j i hj hi h1).symm k hk

theorem RowsC.off {w : World} {base : Nat} {s : Sl} {ss : List Sl} {c : Sl → List Int} (h : RowsC w base s ss c) {x : Sl} (hx : x ∈ ss) {b : Nat} (hb : oB x b) : ¬ oB s b := fun he => by
  obtain ⟨c1, e1⟩ := (h.row x hx).type hb
  obtain ⟨c2, e2⟩ := h.own.type he
  rw [e1] at e2
  exact absurd (Obj.cells.inj (Option.some.inj e2)).2.1 (by decide)

theorem RowsC.rd {w : World} {base : Nat} {s : Sl} {ss : List Sl} {c : Sl → List Int} (h : RowsC w base s ss c) (h64 : ∀ x ∈ ss, ∀ y ∈ c x, I64 y) {x : Sl} (hx : x ∈ ss) : SlR (fun b => ¬ oB s b) w x (c x) :=
  ((h.row x hx).repB (h64 x hx)).weak (fun b hb _ => h.off hx hb) RepP.pos

/-- The rows behind a change of the slice that holds them. -/
theorem RowsC.chg {w w' : World} {base : Nat} {s r : Sl} {ss tt : List Sl} {c : Sl → List Int} (h : RowsC w base s ss c) (hC : Chg w w' (oB s)) (hO : OwnL w' base T.t_sl_int r tt) (hm : ∀ x ∈ tt, x ∈ ss) (hap : tt.Pairwise Apt) : RowsC w' base r tt c :=
  ⟨hO, fun x hx => (h.row x (hm x hx)).chg hC fun b hb => h.off (hm x hx) hb, hap⟩

theorem sortedLists_ok {w : World} {base : Nat} {s : Sl} {L : List (List Int)} {ss : List Sl} (h : RowsD w base T.t_int T.t_sl_int s L ss) (h64 : ∀ r ∈ L, ∀ x ∈ r, I64 x) (hl : L.length ≤ 1048576) :
    Calls Tryz.prog F.i_sortedLists #[s.v] w (Ret [.at .sl] fun (r : Sl) w' => Chg w w' (oB s) ∧ ∃ A tt, RowsD w' base T.t_int T.t_sl_int r A tt ∧ A.Pairwise (fun a b => cmpL a b < 0) ∧ (∀ x, x ∈ A ↔ x ∈ L) ∧ A.length ≤ L.length) := by
  obtain ⟨c, hcL, hR⟩ := RowsC.of h
  have hlen := h.len
  have h64' : ∀ x ∈ ss, ∀ y ∈ c x, I64 y := fun x hx y hy => h64 (c x) (by rw [← hcL]; exact List.mem_map.2 ⟨x, hx, rfl⟩) y hy
  refine C_i_sortedLists ?_
  unfold V_i_sortedLists
  refine call (sortRows_ok h.own (by omega) fun x hx => hR.rd h64' hx) ?_
  rintro w1 ⟨tt, hO1, hp, hs, hst⟩
  have hC1 : Chg w w1 (oB s) := .of_step hst fun k hk => hk
  have hR1 : RowsC w1 base s tt c := hR.chg hC1 hO1 (fun x hx => hp.mem_iff.1 hx) (hp.symm.pairwise hR.apart fun h => h.symm)
  have htl : tt.length = ss.length := hp.length_eq
  have h641 : ∀ x ∈ tt, ∀ y ∈ c x, I64 y := fun x hx => h64' x (hp.mem_iff.1 hx)
  refine call (compactFuncS_ok (c := c) hO1 (by omega) fun x hx y hy w' hC => ?_) ?_
  · refine CALLV_mk (by kernel_rfl) ?_
    exact equal_ok ((hR1.rd h641 hx).chg hC fun b hb _ => hb).any ((hR1.rd h641 hy).chg hC fun b hb _ => hb).any
  · rintro r w2 ⟨hC2, hO2, hra⟩
    have hsub := compS_sub c tt (b := tt.length) (Nat.le_refl _)
    rw [List.take_length] at hsub
    have hR2 : RowsC w2 base r (compS c tt tt.length) c := hR1.chg hC2 hO2 (fun x hx => hsub.subset hx) (hR1.apart.sublist hsub)
    refine ⟨hC1.trans hC2, _, _, hR2.to, compS_rise hs (Nat.le_refl _), fun x => ?_, ?_⟩
    · rw [compS_mem (Nat.le_refl _), List.take_length, ← hcL]
      exact (hp.map c).mem_iff
    · rw [List.length_map]
      have := hsub.length_le
      omega

end Go.Proofs.YtfiginahjofdnaaGreat
end

section
/- Arguments that come in, read as data: from the statements' own reading of memory to the rules' reading. No program is named here. -/
namespace Go.GX
open Go.RowKit Go.WideShapes Go.ChangeShapes Go.ChangeAt Go.Deep

/-- Whatever the statements read at type t is data of α in memory. -/
def Reads (P : Program) (t : TypeId) (α : Type) [Rep α] : Prop :=
  ∀ {H : Type} {enc : TypeId × Value → H} {w : World} {base : Nat} {spare : Nat → Bool} {held : Bool} {fuel : Nat} {cs : List Value} {x : DataW H × List MemPlace},
    DataW.trod enc P w base spare held fuel t cs = some x → ∃ a : α, Rep.rep (fun _ => True) w cs a

theorem Reads.int {P : Program} {t : TypeId} (ht : P.underlying t = some (.int .i64)) : Reads P t Int := fun h => by
  obtain ⟨n, rfl, _, hn⟩ := DataW.trod_int ht h
  exact ⟨n, rfl, bounds_i64 hn⟩

theorem Reads.slice {P : Program} {t e : TypeId} {α : Type} [RepP α] (ht : P.underlying t = some (.slice e)) (hc : P.cellsOf e = Rep.sz α) (he : Reads P e α) : Reads P t (List α) := by
  intro H enc w base spare held fuel cs x h
  rcases open_slice ht h with ⟨rfl, _⟩ | ⟨a, len, cap, m, n, D, Pl, rfl, hb, hl, hm, hmm, _, hx⟩
  · exact ⟨[], ⟨none, 0, 0⟩, rfl, rfl, ⟨Nat.le_refl _, Nat.zero_le _⟩, fun i x hx => by simp at hx⟩
  · have hlm : len ≤ m := by rw [hmm]; split <;> omega
    have hall : ∀ i : Fin len, ∃ z : α, ∃ cs', Rep.rep (fun _ => True) w cs' z ∧ ∀ j v, cs'[j]? = some v → w.cell? (a.add (i.1 * Rep.sz α + j)) = some v := fun i => by
      obtain ⟨cs', h1, h2⟩ := hx i.1 (by omega)
      obtain ⟨z, hz⟩ := he h2
      refine ⟨z, cs', hz, fun j v hj => ?_⟩
      obtain ⟨_, hlen, hcell⟩ := World.cells?_some h1
      have hj' : j < cs'.length := (List.getElem?_eq_some_iff.1 hj).1
      have := hcell j (by omega)
      rw [hj, add_add, hc] at this
      exact this
    refine ⟨List.ofFn fun i => (hall i).choose, ⟨some a, len, cap⟩, rfl, by simp, ⟨hl, by simpa [maxLen] using hm⟩, fun i x hx => ?_⟩
    rw [List.getElem?_ofFn] at hx
    split at hx
    · rename_i hi
      simp at hx
      subst hx
      obtain ⟨cs', h1, h2⟩ := (hall ⟨i, hi⟩).choose_spec
      exact ⟨a, cs', rfl, trivial, h1, h2⟩
    · cases hx

/-- A struct type whose fields have these types, each one cell, one after the other. -/
def fieldsB (P : Program) (t : TypeId) (ts : List TypeId) : Bool :=
  (match P.underlying t with | some (.struct fs) => fs.toList.map (fun f => (f.type, f.offset)) == ts.zipIdx | _ => false) && ts.all (fun u => P.cellsOf u == 1) && P.cellsOf t == ts.length

theorem fieldsB_struct {P : Program} {t : TypeId} {ts : List TypeId} (h : fieldsB P t ts = true) :
    ∃ fs, P.underlying t = some (.struct fs) ∧ fs.toList.map (fun f => (f.type, f.offset)) = ts.zipIdx ∧ (∀ u ∈ ts, P.cellsOf u = 1) ∧ P.cellsOf t = ts.length := by
  simp only [fieldsB, Bool.and_eq_true, List.all_eq_true, beq_iff_eq] at h
  obtain ⟨⟨h1, h2⟩, h3⟩ := h
  cases hu : P.underlying t with
  | none => rw [hu] at h1; cases h1
  | some u =>
    rw [hu] at h1
    cases u with
    | struct fs => exact ⟨fs, rfl, by simpa using h1, h2, h3⟩
    | _ => cases h1

theorem trod_fields {P : Program} {t : TypeId} {ts : List TypeId} (h : fieldsB P t ts = true) {H : Type} {enc : TypeId × Value → H} {w : World} {base : Nat} {spare : Nat → Bool} {held : Bool} {fuel : Nat} {cs : List Value} {x : DataW H × List MemPlace}
    (hx : DataW.trod enc P w base spare held fuel t cs = some x) : cs.length = ts.length ∧ ∀ (i : Nat) (u : TypeId), ts[i]? = some u → ∃ v n y, cs[i]? = some v ∧ DataW.trod enc P w base spare held n u [v] = some y := by
  obtain ⟨fs, hu, hm, h1, hc⟩ := fieldsB_struct h
  obtain ⟨xs, n, _, _, hl, hlen, hf⟩ := DataW.trod_struct hu hx
  refine ⟨hl.trans hc, fun i u hi => ?_⟩
  have hi' : i < ts.length := (List.getElem?_eq_some_iff.1 hi).1
  have hfl : fs.size = ts.length := by have := congrArg List.length hm; simpa using this
  have hg : (fs.toList.map (fun f => (f.type, f.offset)))[i]? = some (u, i) := by rw [hm]; simp [List.getElem?_zipIdx, hi]
  have hif : i < fs.size := by omega
  have hfi : fs[i]? = some fs[i] := by simp [hif]
  rw [List.getElem?_map] at hg
  simp [hif] at hg
  have := hf i fs[i] hfi
  have hci : i < cs.length := by omega
  rw [hg.1, hg.2, h1 u (List.mem_of_getElem? hi), List.drop_eq_getElem_cons hci, List.take_succ_cons, List.take_zero] at this
  refine ⟨cs[i], n, xs[i]'(by omega), by simp [hci], ?_⟩
  rw [this]; simp

/-- Arguments read again behind a call that wrote nothing of theirs. -/
theorem trodAll_stays {P : Program} (hl : laidOutB P = true) {H : Type} {enc : TypeId × Value → H} {W W' : World} (hb : Below W.heap.size W W') : ∀ (ts : List TypeId) (vs : List Value) (ds : List (DataW H)) (p : List MemPlace),
    (ts.all fun t => P.readableRec t && decide (t < P.types.size)) = true → DataW.TrodAll enc P W 0 (fun _ => true) true ts vs ds p → DataW.TrodAll enc P W' 0 (fun b => decide (b < W.heap.size)) true ts vs ds p
  | [], vs, ds, p, _, h => by
    obtain ⟨rfl, rfl, rfl⟩ := trodAll_nil h
    exact trodAll_mk0
  | t :: ts, vs, ds, p, ha, h => by
    simp only [List.all_cons, Bool.and_eq_true, decide_eq_true_eq] at ha
    obtain ⟨v, vs', d, ds', p', q', rfl, rfl, rfl, h1, h2⟩ := trodAll_cons h
    refine trodAll_cons_mk (Below.trod hl ha.1.1 ha.1.2 h1 hb ?_) (trodAll_stays hl hb ts vs' ds' q' ha.2 h2)
    obtain ⟨m, hm⟩ := h1
    exact DataW.trod_lt m _ _ _ hm

end Go.GX
end

section
/- The laws' arguments read as data: the types of this program. -/
namespace Go.Proofs.YtfiginahjofdnaaGreat
open Go.GX Go.RowKit
set_option maxRecDepth 100000

theorem laidOut : laidOutB Tryz.prog = true := by kernel_rfl

theorem reads_int : Reads Tryz.prog T.t_int Int := Reads.int (by kernel_rfl)
theorem reads_ints : Reads Tryz.prog T.t_sl_int (List Int) := Reads.slice (e := T.t_int) (by kernel_rfl) (by kernel_rfl) reads_int

variable {H : Type} {enc : TypeId × Value → H} {w : World} {base b0 : Nat} {spare : Nat → Bool} {held : Bool} {r : Go.Reach} {v : Value} {d : DataW H} {p : List MemPlace}

theorem reads_intss : Reads Tryz.prog T.t_sl_sl_int (List (List Int)) := Reads.slice (e := T.t_sl_int) (by kernel_rfl) (by kernel_rfl) reads_ints

end Go.Proofs.YtfiginahjofdnaaGreat
end

section
/- Problems as arguments: read, counted, copied, held against each other, marked. -/
namespace Go.Proofs.YtfiginahjofdnaaGreat
open Go.GX Go.RowKit
set_option maxRecDepth 100000

structure Prob where
  labels : Int
  degree : Int
  nodes : List (List Int)
  edges : List (List Int)

/-- The slices of a problem read as its configurations. -/
structure RProb (w : World) (c d : Sl) (p : Prob) : Prop where
  labels : I64 p.labels
  degree : I64 p.degree
  nodes : R w c p.nodes
  edges : R w d p.edges

theorem RProb.ext {w w' : World} {c d : Sl} {p : Prob} (h : RProb w c d p) (hE : Ext w w') : RProb w' c d p := ⟨h.labels, h.degree, h.nodes.ext hE, h.edges.ext hE⟩

/-- A problem of the call's own: its lists of configurations lie apart. -/
structure OwnProb (w : World) (lo mid hi : Nat) (z u : Sl) (p : Prob) : Prop where
  nodes : Own2 w lo T.t_int T.t_sl_int z p.nodes
  edges : Own2 w mid T.t_int T.t_sl_int u p.edges
  mnodes : MIntSS w z lo mid
  medges : MIntSS w u mid hi
  lom : lo ≤ mid
  mhi : mid ≤ hi
  top : hi ≤ w.heap.size

theorem OwnProb.ext {w w' : World} {lo mid hi : Nat} {z u : Sl} {p : Prob} (h : OwnProb w lo mid hi z u p) (hE : Ext w w') : OwnProb w' lo mid hi z u p :=
  ⟨h.nodes.ext hE, h.edges.ext hE, h.mnodes.ext hE, h.medges.ext hE, h.lom, h.mhi, Nat.le_trans h.top hE.size_le⟩
theorem OwnProb.prob {w w0 : World} {lo mid hi : Nat} {c d z u : Sl} {p : Prob} (h : OwnProb w lo mid hi z u p) (h0 : RProb w0 c d p) : RProb w z u p :=
  ⟨h0.labels, h0.degree, h.nodes.rep (flat_okII h0.nodes), h.edges.rep (flat_okII h0.edges)⟩

variable {H : Type} {enc : TypeId × Value → H} {w : World} {base b0 : Nat} {spare : Nat → Bool} {held : Bool} {r : Go.Reach} {v : Value} {d : DataW H} {p : List MemPlace}

/-! ### What is asked of a problem -/

structure PGood (p : Prob) : Prop where
  lab : 1 ≤ p.labels ∧ p.labels ≤ 8
  deg : 1 ≤ p.degree ∧ p.degree ≤ 4
  nodes : ConfOk p.nodes p.degree p.labels
  edges : ConfOk p.edges 2 p.labels

def NodeOk (p : Prob) (l : List Int) : Prop := sortI l ∈ p.nodes
def EdgeIs (p : Prob) (a b : Int) : Prop := sortI [a, b] ∈ p.edges

end Go.Proofs.YtfiginahjofdnaaGreat
end

section
/- Colourings of edges, on both sides. -/
namespace Go.Proofs.YtfiginahjofdnaaGreat
open Go.GX Go.RowKit
set_option maxRecDepth 100000

def at2 (l : List (List Int)) (v i : Nat) : Int := (l.getD v []).getD i 0

/-- As many rows as nodes, each as long as the node has ports. -/
def SameRows (E : List (List (Int × Int))) (l : List (List Int)) : Prop := l.length = E.length ∧ ∀ v < l.length, (l.getD v []).length = (E.getD v []).length

def EdgeAt (E : List (List (Int × Int))) (l : List (List Int)) (v i : Nat) : Prop :=
  at2 l ((E.getD v []).getD i (0, 0)).1.toNat ((E.getD v []).getD i (0, 0)).2.toNat = at2 l v i

structure EdgeOk (E : List (List (Int × Int))) (l : List (List Int)) : Prop where
  rows : SameRows E l
  cols : ∀ v < l.length, AllIn (l.getD v []) 0 1000000000000 ∧ (l.getD v []).Nodup
  ends : ∀ v < l.length, ∀ i < (E.getD v []).length, EdgeAt E l v i

theorem rowD {α : Type} {l : List (List α)} {v : Nat} (hv : v < l.length) : l.getD v [] = l[v] := by
  rw [List.getD_eq_getElem?_getD, List.getElem?_eq_getElem hv]; rfl
end Go.Proofs.YtfiginahjofdnaaGreat
end

section
/- Faults of labelings, in plain words: no program in sight. -/
namespace Go.Proofs.YtfiginahjofdnaaGreat

def NodeBad (p : Prob) (L : List (List Int)) (v : Nat) : Prop := ((L.getD v []).length : Int) = p.degree ∧ ¬ NodeOk p (L.getD v [])
def endOf (E : Ends) (v k : Nat) : Int × Int := (E.getD v []).getD k (0, 0)
def PortBad (p : Prob) (E : Ends) (L : List (List Int)) (v k : Nat) : Prop := k < (E.getD v []).length ∧ isFirst v k (endOf E v k) = true ∧ ¬ EdgeIs p (at2 L v k) (at2 L (endOf E v k).1.toNat (endOf E v k).2.toNat)
def NoneAt (p : Prob) (E : Ends) (L : List (List Int)) (v : Nat) : Prop := ¬ NodeBad p L v ∧ ∀ k, ¬ PortBad p E L v k
def Clean (p : Prob) (E : Ends) (L : List (List Int)) : Prop := ∀ v < E.length, NoneAt p E L v
def FirstAt (p : Prob) (E : Ends) (L : List (List Int)) (v i : Int) : Prop := ∃ m : Nat, v = m ∧ m < E.length ∧ (∀ u < m, NoneAt p E L u) ∧
  ((i = -1 ∧ NodeBad p L m) ∨ ∃ k : Nat, i = k ∧ ¬ NodeBad p L m ∧ PortBad p E L m k ∧ ∀ j < k, ¬ PortBad p E L m j)

theorem FirstAt.eq {p : Prob} {E : Ends} {L : List (List Int)} {v i v' i' : Int} (h : FirstAt p E L v i) (h' : FirstAt p E L v' i') : v = v' ∧ i = i' := by
  obtain ⟨m, rfl, hm, hn, hb⟩ := h
  obtain ⟨m', rfl, hm', hn', hb'⟩ := h'
  have key : ∀ {m : Nat} {i : Int}, NoneAt p E L m → ((i = -1 ∧ NodeBad p L m) ∨ ∃ k : Nat, i = k ∧ ¬ NodeBad p L m ∧ PortBad p E L m k ∧ ∀ j < k, ¬ PortBad p E L m j) → False := by
    rintro m i ⟨h1, h2⟩ (⟨_, h⟩ | ⟨k, _, _, h, _⟩)
    · exact h1 h
    · exact h2 k h
  rcases Nat.lt_trichotomy m m' with hlt | heq | hgt
  · exact (key (hn' m hlt) hb).elim
  · subst heq
    refine ⟨rfl, ?_⟩
    rcases hb with ⟨rfl, h1⟩ | ⟨k, rfl, h1, h2, h3⟩
    · rcases hb' with ⟨rfl, _⟩ | ⟨k', rfl, h1', _⟩
      · rfl
      · exact absurd h1 h1'
    · rcases hb' with ⟨rfl, h1'⟩ | ⟨k', rfl, _, h2', h3'⟩
      · exact absurd h1' h1
      · rcases Nat.lt_trichotomy k k' with hlt | heq | hgt
        · exact absurd h2 (h3' k hlt)
        · rw [heq]
        · exact absurd h2' (h3 k' hgt)
  · exact (key (hn m' hgt) hb').elim

/-- What is asked of a labeling. -/
structure LabOk (p : Prob) (E : Ends) (L : List (List Int)) : Prop where
  rows : SameRows E L
  labs : ∀ r ∈ L, AllIn r 0 (p.labels - 1)

structure SolAsked (p : Prob) (n : Net) (L : List (List Int)) : Prop where
  prob : PGood p
  good : Good n
  lab : LabOk p n.ends L

structure AnsFF (p : Prob) (n : Net) (L : List (List Int)) (v i : Int) (b : Bool) : Prop where
  ok : b = true ↔ SolAsked p n L ∧ ¬ Clean p n.ends L
  yes : b = true → FirstAt p n.ends L v i
  no : b = false → v = 0 ∧ i = 0

theorem AnsFF.eq {p : Prob} {n : Net} {L : List (List Int)} {v i v' i' : Int} {b b' : Bool} (h : AnsFF p n L v i b) (h' : AnsFF p n L v' i' b') : v = v' ∧ i = i' ∧ b = b' := by
  have hoo : b = b' := by rw [Bool.eq_iff_iff, h.ok, h'.ok]
  subst hoo
  cases b with
  | false =>
    obtain ⟨rfl, rfl⟩ := h.no rfl
    obtain ⟨rfl, rfl⟩ := h'.no rfl
    exact ⟨rfl, rfl, rfl⟩
  | true =>
    obtain ⟨rfl, rfl⟩ := (h.yes rfl).eq (h'.yes rfl)
    exact ⟨rfl, rfl, rfl⟩

theorem AnsFF.none {p : Prob} {n : Net} {L : List (List Int)} (h : ¬ (SolAsked p n L ∧ ¬ Clean p n.ends L)) : AnsFF p n L 0 0 false := ⟨by simp only [Bool.false_eq_true, false_iff]; exact h, fun hh => (by cases hh), fun _ => ⟨rfl, rfl⟩⟩

end Go.Proofs.YtfiginahjofdnaaGreat
end

section
/- Products of problems, in plain words: no program in sight. -/
namespace Go.Proofs.YtfiginahjofdnaaGreat
open Go.GX

/-- The labels from a number on, below another one. -/
def labsFrom (a n : Nat) : List Int := (List.range (n - a)).map fun (i : Nat) => ((a + i : Nat) : Int)

theorem mem_labsFrom {a n : Nat} {x : Int} : x ∈ labsFrom a n ↔ ∃ u : Nat, x = u ∧ a ≤ u ∧ u < n := by
  unfold labsFrom
  rw [List.mem_map]
  constructor
  · rintro ⟨i, hi, rfl⟩
    rw [List.mem_range] at hi
    exact ⟨a + i, rfl, by omega, by omega⟩
  · rintro ⟨u, rfl, h1, h2⟩
    exact ⟨u - a, by rw [List.mem_range]; omega, by congr 1; omega⟩

theorem labsFrom_rise (a n : Nat) : (labsFrom a n).Pairwise (· < ·) := by
  unfold labsFrom
  rw [List.pairwise_map]
  exact List.pairwise_lt_range.imp fun h => by omega

def lastOf (c : List Int) : Nat := (c.getLastD 0).toNat

/-- The lists of labels of a length, none less than the one before it, in order. -/
def msets (n : Nat) : Nat → List (List Int)
  | 0 => [[]]
  | k + 1 => (msets n k).flatMap fun c => (labsFrom (lastOf c) n).map fun a => c ++ [a]

structure InM (n k : Nat) (c : List Int) : Prop where
  len : c.length = k
  sorted : c.Pairwise (· ≤ ·)
  labs : ∀ x ∈ c, 0 ≤ x ∧ x < n

theorem le_last {c : List Int} (h : c.Pairwise (· ≤ ·)) (h0 : ∀ x ∈ c, 0 ≤ x) : ∀ x ∈ c, x ≤ lastOf c := by
  intro x hx
  obtain ⟨i, hi, rfl⟩ := List.mem_iff_getElem.1 hx
  have e : c.getLastD 0 = c[c.length - 1]'(by omega) := by
    rw [List.getLastD_eq_getLast?, List.getLast?_eq_getElem?, List.getElem?_eq_getElem (by omega)]; rfl
  have hp := h0 _ (List.getElem_mem (show c.length - 1 < c.length by omega))
  unfold lastOf
  rw [e]
  by_cases hl : i = c.length - 1
  · subst hl; omega
  · have := List.pairwise_iff_getElem.1 h i (c.length - 1) hi (by omega) (by omega)
    omega

theorem mem_msets {n : Nat} : ∀ {k : Nat} {c : List Int}, c ∈ msets n k ↔ InM n k c
  | 0, c => by
    simp only [msets, List.mem_singleton]
    constructor
    · rintro rfl; exact ⟨rfl, List.Pairwise.nil, by simp⟩
    · intro h; exact List.eq_nil_of_length_eq_zero h.len
  | k + 1, c => by
    simp only [msets, List.mem_flatMap, List.mem_map]
    constructor
    · rintro ⟨b, hb, a, ha, rfl⟩
      have hB := mem_msets.1 hb
      obtain ⟨u, rfl, h1, h2⟩ := mem_labsFrom.1 ha
      have hle := le_last hB.sorted fun x hx => (hB.labs x hx).1
      refine ⟨by simp [hB.len], ?_, ?_⟩
      · rw [List.pairwise_append]
        exact ⟨hB.sorted, List.pairwise_singleton _ _, fun x hx y hy => by rw [List.mem_singleton.1 hy]; have := hle x hx; omega⟩
      · intro x hx
        rcases List.mem_append.1 hx with h | h
        · exact hB.labs x h
        · rw [List.mem_singleton.1 h]; omega
    · intro h
      have hne : c ≠ [] := by rintro rfl; have := h.len; simp at this
      obtain ⟨b, a, rfl⟩ : ∃ b a, c = b ++ [a] := ⟨c.dropLast, c.getLast hne, (List.dropLast_concat_getLast hne).symm⟩
      have hs := h.sorted
      rw [List.pairwise_append] at hs
      have hal := h.labs a (by simp)
      refine ⟨b, mem_msets.2 ⟨by have := h.len; simp at this; exact this, hs.1, fun x hx => h.labs x (by simp [hx])⟩, a, mem_labsFrom.2 ⟨a.toNat, by omega, ?_, by omega⟩, rfl⟩
      by_cases hb : b = []
      · subst hb; simp [lastOf]
      · have e : b.getLastD 0 = b.getLast hb := by rw [List.getLastD_eq_getLast?, List.getLast?_eq_some_getLast hb]; rfl
        have h3 := hs.2.2 (b.getLast hb) (List.getLast_mem hb) a (by simp)
        unfold lastOf
        rw [e]
        omega

theorem cmpL_snoc_left : ∀ {a b : List Int} {x y : Int}, a.length = b.length → cmpL a b < 0 → cmpL (a ++ [x]) (b ++ [y]) < 0
  | [], [], _, _, _, h => by simp [cmpL] at h
  | u :: a, v :: b, x, y, hl, h => by
    rw [cmpL] at h
    rw [List.cons_append, List.cons_append, cmpL]
    by_cases h1 : u < v
    · rw [if_pos h1]; omega
    · rw [if_neg h1] at h ⊢
      by_cases h2 : v < u
      · rw [if_pos h2] at h; omega
      · rw [if_neg h2] at h ⊢
        exact cmpL_snoc_left (by simpa using hl) h

theorem cmpL_snoc_right : ∀ {a : List Int} {x y : Int}, x < y → cmpL (a ++ [x]) (a ++ [y]) < 0
  | [], x, y, h => by simp [cmpL, h]
  | u :: a, x, y, h => by
    rw [List.cons_append, List.cons_append, cmpL, if_neg (by omega), if_neg (by omega)]
    exact cmpL_snoc_right h

theorem msets_rise (n : Nat) : ∀ k, (msets n k).Pairwise fun a b => cmpL a b < 0
  | 0 => List.pairwise_singleton _ _
  | k + 1 => by
    unfold msets
    rw [List.pairwise_flatMap]
    refine ⟨fun c _ => ?_, ?_⟩
    · rw [List.pairwise_map]
      exact (labsFrom_rise _ _).imp fun h => cmpL_snoc_right h
    · have ih := msets_rise n k
      refine ih.imp_of_mem fun {a b} ha hb hab => ?_
      intro x hx y hy
      obtain ⟨u, _, rfl⟩ := List.mem_map.1 hx
      obtain ⟨v, _, rfl⟩ := List.mem_map.1 hy
      exact cmpL_snoc_left (by rw [(mem_msets.1 ha).len, (mem_msets.1 hb).len]) hab

/-- A part of the lists in order is a list of configurations. -/
theorem conf_filter {n k : Nat} (f : List Int → Bool) : ConfOk ((msets n k).filter f) k n := by
  have hp : ((msets n k).filter f).Pairwise fun a b => cmpL a b < 0 := (msets_rise n k).filter _
  refine ⟨fun i hi => ?_, fun i hi => ?_⟩
  · have hm := (List.mem_filter.1 (List.getElem_mem hi)).1
    have hM := mem_msets.1 hm
    exact ⟨by rw [hM.len], hM.sorted, fun x hx => by have := hM.labs x hx; omega⟩
  · exact List.pairwise_iff_getElem.1 hp i (i + 1) (by omega) hi (by omega)

/-! ### Products -/

def firsts (k : Int) (c : List Int) : List Int := c.map fun a => Int.tdiv a k
def seconds (k : Int) (c : List Int) : List Int := c.map fun a => Int.tmod a k

def prodNodes (p q : Prob) : List (List Int) := (msets (p.labels * q.labels).toNat p.degree.toNat).filter fun c => decide (sortI (firsts q.labels c) ∈ p.nodes) && decide (sortI (seconds q.labels c) ∈ q.nodes)
def prodEdges (p q : Prob) : List (List Int) := (msets (p.labels * q.labels).toNat 2).filter fun c => decide (sortI (firsts q.labels c) ∈ p.edges) && decide (sortI (seconds q.labels c) ∈ q.edges)
def prodP (p q : Prob) : Prob := ⟨p.labels * q.labels, p.degree, prodNodes p q, prodEdges p q⟩

structure SpAsked (p q : Prob) (n : Net) (L : List (List Int)) : Prop where
  left : PGood p
  right : PGood q
  deg : p.degree = q.degree
  few : p.labels * q.labels ≤ 8
  good : Good n
  lab : LabOk (prodP p q) n.ends L

end Go.Proofs.YtfiginahjofdnaaGreat
end

section
/- Labelings and their first faults, both sides. -/
namespace Go.Proofs.YtfiginahjofdnaaGreat
open Go.GX Go.RowKit
set_option maxRecDepth 100000

def edgeB (p : Prob) (a b : Int) : Bool := decide (sortI [a, b] ∈ p.edges)
def nodeB (p : Prob) (l : List Int) : Bool := decide (sortI l ∈ p.nodes)
/-! ### The first fault -/

structure FaultIn (p : Prob) (n : Net) (L : List (List Int)) : Prop where
  prob : PGood p
  good : Good n
  lab : LabOk p n.ends L

theorem SolAsked.fin {p : Prob} {n : Net} {L : List (List Int)} (h : SolAsked p n L) : FaultIn p n L := ⟨h.prob, h.good, h.lab⟩

theorem FaultIn.row {p : Prob} {n : Net} {L : List (List Int)} (h : FaultIn p n L) {v : Nat} (hv : v < L.length) (hve : v < n.ends.length) : L[v].length = n.ends[v].length ∧ (∀ x ∈ L[v], I64 x) ∧ L[v].length ≤ 6 := by
  have h1 := h.lab.rows.2 v hv
  rw [rowD hv, rowD hve] at h1
  have h2 := h.good.deg hve
  refine ⟨h1, fun x hx => ?_, by omega⟩
  have := h.lab.labs _ (List.getElem_mem hv) x hx
  have := h.prob.lab
  unfold I64; omega

/-! ### The statements' answers -/

end Go.Proofs.YtfiginahjofdnaaGreat
end

section
/- Round elimination, in plain words: no program in sight. -/
namespace Go.Proofs.YtfiginahjofdnaaGreat
open Go.GX

/-- The labels that are allowed at edges with each label of a set. -/
def near (p : Prob) (m : Nat) : Nat := maskOf p.labels.toNat fun b => (labsOf m).all fun a => edgeB p a b

/-- The sets that are in lists, increasing. -/
def setsOf (L : List (List Int)) : List Int := ((List.range 256).filter fun (m : Nat) => L.any fun x => x.contains (m : Int)).map fun (m : Nat) => (m : Int)

def numsOf (sets x : List Int) : List Int := sortI (x.map fun s => ((sets.idxOf s : Nat) : Int))

/-- The lists of labels that are among lists, in order. -/
def confOf (n k : Nat) (L : List (List Int)) : List (List Int) := (msets n k).filter fun c => L.contains c

def ownOf (full : List (List Int)) (k : Nat) : List (List Int) := confOf (setsOf full).length k (full.map (numsOf (setsOf full)))

def listsAt (sets c : List Int) : List (List Int) := c.map fun x => labsOf (sets.getD x.toNat 0).toNat

def someOf (good : List Int → Bool) (sets : List Int) (size : Nat) : List (List Int) := (msets sets.length size).filter fun c => (prodL (listsAt sets c)).any good

def edgeFull (p : Prob) : List (List Int) := ((List.range (2 ^ p.labels.toNat)).filter fun (m : Nat) => decide (1 ≤ m) && decide (near p m ≠ 0) && decide (near p (near p m) = m)).map fun (m : Nat) => [(m : Int), (near p m : Int)]

def edgeSets (p : Prob) : List Int := setsOf (edgeFull p)
def edgeP (p : Prob) : Prob := ⟨((edgeSets p).length : Nat), p.degree, someOf (nodeB p) (edgeSets p) p.degree.toNat, ownOf (edgeFull p) 2⟩

/-- Whether two labels are allowed at an edge. -/
def nodeB2 (p : Prob) (c : List Int) : Bool := decide (sortI c ∈ p.edges)

/-- The labels that complete each choice from sets, as a set. -/
def complM (p : Prob) (ms : List Int) : Int := ((maskOf p.labels.toNat fun b => (prodL (ms.map fun m => labsOf m.toNat)).all fun c => nodeB p (c ++ [(b : Int)]) : Nat) : Int)

def fullB (p : Prob) (l : List Int) : Bool := (List.range l.length).all fun i => complM p (l.eraseIdx i) == l.getD i 0

def setLists (n d : Nat) : List (List Int) := (msets (2 ^ n - 1) d).map fun c => c.map (· + 1)

def nodeFull (p : Prob) : List (List Int) := (setLists p.labels.toNat p.degree.toNat).filter (fullB p)
def nodeSets (p : Prob) : List Int := setsOf (nodeFull p)
def nodeP (p : Prob) : Prob := ⟨((nodeSets p).length : Nat), p.degree, ownOf (nodeFull p) p.degree.toNat, someOf (nodeB2 p) (nodeSets p) 2⟩

/-! ### Lists that are told by what is in them -/

/-! ### Full lists in any order -/

/-- What is asked of a list of sets. -/
structure SetL (n d : Nat) (l : List Int) : Prop where
  len : l.length = d
  sorted : l.Pairwise (· ≤ ·)
  vals : ∀ x ∈ l, 1 ≤ x ∧ x < (2 ^ n : Nat)

/-! ### The problems after the steps are problems -/

structure EdAsked (p : Prob) : Prop where
  good : PGood p
  few : 1 ≤ (edgeSets p).length ∧ (edgeSets p).length ≤ 8

structure NdAsked (p : Prob) : Prop where
  good : PGood p
  fits : ¬ (p.degree = 4 ∧ 6 < p.labels)
  few : 1 ≤ (nodeSets p).length ∧ (nodeSets p).length ≤ 8

theorem EdAsked.made {p : Prob} (h : EdAsked p) : PGood (edgeP p) := by
  have e2 : (p.degree.toNat : Int) = p.degree := by have := h.good.deg; omega
  have hn := conf_filter (n := (edgeSets p).length) (k := p.degree.toNat) fun c => (prodL (listsAt (edgeSets p) c)).any (nodeB p)
  have he := conf_filter (n := (edgeSets p).length) (k := 2) fun c => ((edgeFull p).map (numsOf (edgeSets p))).contains c
  rw [e2] at hn
  have hf := h.few
  exact ⟨⟨by show (1 : Int) ≤ ((edgeSets p).length : Nat); omega, by show ((edgeSets p).length : Int) ≤ 8; omega⟩, h.good.deg, hn, he⟩

theorem NdAsked.made {p : Prob} (h : NdAsked p) : PGood (nodeP p) := by
  have e2 : (p.degree.toNat : Int) = p.degree := by have := h.good.deg; omega
  have hn := conf_filter (n := (nodeSets p).length) (k := p.degree.toNat) fun c => ((nodeFull p).map (numsOf (nodeSets p))).contains c
  have he := conf_filter (n := (nodeSets p).length) (k := 2) fun c => (prodL (listsAt (nodeSets p) c)).any (nodeB2 p)
  rw [e2] at hn
  have hf := h.few
  exact ⟨⟨by show (1 : Int) ≤ ((nodeSets p).length : Nat); omega, by show ((nodeSets p).length : Int) ≤ 8; omega⟩, h.good.deg, hn, he⟩

/-- What both steps ask, and what they give. -/
structure ElAsked (p : Prob) : Prop where
  edge : EdAsked p
  node : NdAsked (edgeP p)

end Go.Proofs.YtfiginahjofdnaaGreat
end
