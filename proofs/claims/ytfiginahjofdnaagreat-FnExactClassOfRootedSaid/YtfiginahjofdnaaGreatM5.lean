/- Own texts, merged: Insert, RootI2, RootI3, RootI4, RootI5, Far, Dom, RootI6, RootI7, Trod2, RootIn, ClassOfRootedWalk, Door, PruneRootedWalk. -/
import Derived.Test.YtfiginahjofdnaaGreatM4
import Derived.Test.YtfiginahjofdnaaGreatRows
import Derived.KernelRfl
import Derived.JoinedOf
set_option linter.unusedVariables false
section
/- Lists that are inserted in order: the reference. (The first part of XElimS2, for seats without elimination.) -/
namespace Go.Proofs.YtfiginahjofdnaaGreat
open Go.GX Go.RowKit
set_option maxRecDepth 100000

/-- Slices that read as lists, in blocks from a number on. -/
def Al (w : World) (base : Nat) (ss : List Sl) (L : List (List Int)) : Prop := ss.length = L.length ∧ ∀ i (h1 : i < ss.length) (h2 : i < L.length), SlR (fun b => base ≤ b) w ss[i] L[i]

theorem Al.ext {w w' : World} {base : Nat} {ss : List Sl} {L : List (List Int)} (h : Al w base ss L) (hE : Ext w w') : Al w' base ss L := ⟨h.1, fun i h1 h2 => (h.2 i h1 h2).ext hE⟩
theorem Al.keep {w w' : World} {base : Nat} {ss : List Sl} {L : List (List Int)} (h : Al w base ss L) {g : Option Nat} (hs : Step w w' g) (hg : ∀ k, g = some k → k < base) : Al w' base ss L := ⟨h.1, fun i h1 h2 => (h.2 i h1 h2).stepD hs fun b hb he => by have := hg b he; omega⟩

theorem al_insert {w : World} {base : Nat} {ss : List Sl} {L : List (List Int)} {x : Sl} {xl : List Int} (h : Al w base ss L) (hx : SlR (fun b => base ≤ b) w x xl) {k : Nat} (hk : k ≤ L.length) : Al w base (ss.take k ++ [x] ++ ss.drop k) (L.take k ++ [xl] ++ L.drop k) := by
  have hl := h.1
  refine ⟨by simp; omega, fun i h1 h2 => ?_⟩
  simp only [List.length_append, List.length_take, List.length_cons, List.length_nil, List.length_drop] at h1 h2
  simp only [List.append_assoc, List.singleton_append]
  by_cases h3 : i < k
  · rw [List.getElem_append_left (by simp; omega), List.getElem_append_left (by simp; omega)]
    simp only [List.getElem_take]
    exact h.2 i (by omega) (by omega)
  · rw [List.getElem_append_right (by simp; omega), List.getElem_append_right (by simp; omega)]
    simp only [List.length_take, Nat.min_eq_left hk, Nat.min_eq_left (show k ≤ ss.length by omega)]
    by_cases h4 : i = k
    · subst h4
      simp only [Nat.sub_self, List.getElem_cons_zero]
      exact hx
    · obtain ⟨j, hj⟩ : ∃ j, i - k = j + 1 := ⟨i - k - 1, by omega⟩
      simp only [hj, List.getElem_cons_succ, List.getElem_drop]
      exact h.2 (k + j) (by omega) (by omega)

theorem insert_rise {L : List (List Int)} {x : List Int} (hr : L.Pairwise fun a b => cmpL a b < 0) {k : Nat} (hk : k ≤ L.length) (hlt : ∀ j (hj : j < L.length), j < k → cmpL L[j] x < 0) (hge : ∀ h : k < L.length, cmpL x L[k] < 0) : (L.take k ++ [x] ++ L.drop k).Pairwise fun a b => cmpL a b < 0 := by
  have hx : ∀ y ∈ L.drop k, cmpL x y < 0 := fun y hy => by
    obtain ⟨j, hj, rfl⟩ := List.mem_iff_getElem.1 hy
    simp only [List.length_drop] at hj
    rw [List.getElem_drop]
    have h1 := hge (by omega)
    by_cases h0 : j = 0
    · subst h0; simpa using h1
    · exact cmpL_trans h1 (List.pairwise_iff_getElem.1 hr k (k + j) (by omega) (by omega) (by omega))
  have ht : ∀ y ∈ L.take k, cmpL y x < 0 := fun y hy => by
    obtain ⟨j, hj, rfl⟩ := List.mem_take_iff_getElem.1 hy
    exact hlt j (by omega) (by omega)
  have hL : (L.take k ++ L.drop k).Pairwise fun a b => cmpL a b < 0 := by rw [List.take_append_drop]; exact hr
  rw [List.pairwise_append] at hL
  rw [List.append_assoc, List.pairwise_append]
  refine ⟨hL.1, ?_, fun a ha b hb => ?_⟩
  · rw [List.singleton_append, List.pairwise_cons]
    exact ⟨hx, hL.2.1⟩
  · rcases List.mem_append.1 hb with h1 | h1
    · rw [List.mem_singleton.1 h1]; exact ht a ha
    · exact hL.2.2 a ha b h1

theorem insert_mem {L : List (List Int)} {x y : List Int} {k : Nat} : y ∈ L.take k ++ [x] ++ L.drop k ↔ y ∈ L ∨ y = x := by
  have h1 : y ∈ L ↔ y ∈ L.take k ∨ y ∈ L.drop k := by
    conv => lhs; rw [← List.take_append_drop k L]
    exact List.mem_append
  rw [List.mem_append, List.mem_append, List.mem_singleton, h1]
  constructor
  · rintro ((h | h) | h)
    · exact .inl (.inl h)
    · exact .inr h
    · exact .inl (.inr h)
  · rintro ((h | h) | h)
    · exact .inl (.inl h)
    · exact .inr h
    · exact .inl (.inr h)

theorem all_succ2 {L : List (List Int)} {xl : List Int} {k : Nat} (h : ∀ j (hj : j < L.length), j < k → cmpL L[j] xl < 0) (hk : k < L.length) (hx : cmpL L[k] xl < 0) : ∀ j (hj : j < L.length), j < k + 1 → cmpL L[j] xl < 0 := fun j hj hjk => by
  by_cases he : j = k
  · subst he; exact hx
  · exact h j hj (by omega)

/-- What inserting makes of a list. -/
def Ins (w : World) (base : Nat) (L : List (List Int)) (xl : List Int) (r : Sl) (w' : World) : Prop :=
  Ext w w' ∧ ∃ ss' L', OwnL w' base T.t_sl_int r ss' ∧ Al w' base ss' L' ∧ (L'.Pairwise fun a b => cmpL a b < 0) ∧ (∀ y, y ∈ L' ↔ y ∈ L ∨ y = xl) ∧ L'.length ≤ L.length + 1

theorem prInsert_ok {w : World} {base : Nat} {s x : Sl} {ss : List Sl} {L : List (List Int)} {xl : List Int} {c : Int} (h : OwnL w base T.t_sl_int s ss) (ha : Al w base ss L) (hx : SlR (fun b => base ≤ b) w x xl) (hr : L.Pairwise fun a b => cmpL a b < 0)
    (hL : ∀ r ∈ L, r.length = xl.length ∧ AllIn r 0 c) (hxc : AllIn xl 0 c) (hc : c ≤ 1000) (hl : L.length ≤ 1000000) (hb : base ≤ w.heap.size) :
    Calls Tryz.prog F.s_prInsert #[s.v, x.v] w (Ret [.at .sl] (Ins w base L xl)) := by
  refine C_s_prInsert ?_
  unfold V_s_prInsert
  have hls := ha.1
  have hR : R w s L := h.rows ha.1 (fun i h1 h2 => (ha.2 i h1 h2).any) (fun _ _ => trivial)
  have hS : R w s ss := (h.rep fun _ _ => trivial).any
  have k4 : ∀ {w1 : World} (k : Nat), Ext w w1 → k ≤ L.length → (∀ j (hj : j < L.length), j < k → cmpL L[j] xl < 0) → (∀ hk : k < L.length, cmpL xl L[k] < 0) → V_s_prInsert_k4 s x (Ins w base L xl) (k : Int) w1 := fun {w1} k hE1 hk hlt hge => by
    unfold V_s_prInsert_k4
    refine RUN_lit0 (α := Sl) slt_rows fun e w2 hE2 hO2 => ?_
    have hE12 := hE1.trans hE2
    refine SlR.take (hS.ext hE12) (i := k) (by omega) rfl fun s1 hs1 => ?_
    have hz := hE12.size_le
    have hz1 := hE1.size_le
    have hz2 := hE2.size_le
    have hh1 : (ss.take k).length ≤ k := by rw [List.length_take]; omega
    refine RUN_append (α := Sl) slt_rows hO2 (by omega) hs1.any (by simp; omega) (by simp [maxLen]; omega) fun a w3 hO3 hs3 => ?_
    have hE3 : Ext w1 w3 := hs3.ext0 hE2 fun k hk => (hO2.blk k hk).1
    refine RUN_lit1 (α := Sl) slt_rows x rfl (by decide) fun y w4 hE4 hO4 => ?_
    have hE14 := hE3.trans hE4
    have hz4 := hE14.size_le
    refine RUN_append (α := Sl) slt_rows (hO3.ext hE4) (by omega) (hO4.rep fun _ _ => trivial).any (by simp; omega) (by simp [maxLen]; omega) fun a2 w5 hO5 hs5 => ?_
    have hE5 : Ext w1 w5 := hs5.ext0 hE14 fun k hk => ((hO3.ext hE4).blk k hk).1
    have hz5 := hE5.size_le
    refine slr_drop (hS.ext (hE1.trans hE5)) (i := k) (by omega) rfl fun s2 hs2 => ?_
    refine RUN_append (α := Sl) slt_rows hO5 (by omega) hs2.any (by simp; omega) (by simp [maxLen]; omega) fun a3 w6 hO6 hs6 => ?_
    have hE6 : Ext w1 w6 := hs6.ext0 hE5 fun k hk => (hO5.blk k hk).1
    have hE06 := hE1.trans hE6
    refine ⟨hE06, ss.take k ++ [x] ++ ss.drop k, L.take k ++ [xl] ++ L.drop k, ?_, al_insert (ha.ext hE06) (hx.ext hE06) hk, insert_rise hr hk hlt hge, fun y => insert_mem, by simp; omega⟩
    have := hO6.low (base' := base) (by omega)
    simpa using this
  have hRl := hR.len
  rw [hRl]
  have k1 : ∀ {w1 : World} (k : Nat), Ext w w1 → k ≤ L.length → (∀ j (hj : j < L.length), j < k → cmpL L[j] xl < 0) → (∀ hk : k < L.length, ¬ cmpL L[k] xl < 0) → V_s_prInsert_k1 s x (Ins w base L xl) (k : Int) w1 := fun {w1} k hE1 hk hlt hge => by
    unfold V_s_prInsert_k1
    rw [hRl]
    refine cond_dec (fun hlt2 => ?_) (fun hge2 => k4 k hE1 hk hlt fun h => absurd h (by omega))
    have hk' : k < L.length := by omega
    refine (hR.ext hE1).ixL hk' fun q r hRr hc => LD_sl hc ?_
    refine call (l1Same_ok hRr.any (hx.any.ext hE1)) ?_
    rintro _ w2 ⟨rfl, hE2⟩
    have hE02 := hE1.trans hE2
    refine cond_dec (fun heq => ?_) (fun hne => k4 k hE02 hk hlt fun _ => ?_)
    · refine ⟨hE02, ss, L, h.ext hE02, ha.ext hE02, hr, fun y => ⟨fun hy => .inl hy, ?_⟩, by omega⟩
      rintro (hy | rfl)
      · exact hy
      · rw [← heq]; exact List.getElem_mem hk'
    · have h1 := hge hk'
      have h2 := cmpL_neg L[k] xl
      rcases Int.lt_or_eq_of_le (show cmpL xl L[k] ≤ 0 by omega) with h3 | h3
      · exact h3
      · exact absurd (cmpL_zero.1 h3).symm hne
  refine ⟨IN L.length fun k w' => Ext w w' ∧ ∀ j (hj : j < L.length), j < k → cmpL L[j] xl < 0, MN L.length, IN_zero ⟨Ext.refl _, fun j _ h0 => absurd h0 (by omega)⟩, ?_⟩
  rintro _ w1 ⟨k, rfl, hk, hE1, hI⟩
  intros
  refine cond_dec (fun hlt => ?_) (fun hge => k1 k hE1 hk hI fun h => absurd h (by omega))
  have hk' : k < L.length := by omega
  have hLk := hL _ (List.getElem_mem hk')
  refine (hR.ext hE1).ixL hk' fun q r hRr hcell => LD_sl hcell ?_
  refine call (prOrder_ok hRr.any (hx.any.ext hE1) hLk.1 hc hLk.2 hxc) ?_
  rintro _ _ ⟨rfl, rfl⟩
  refine cond_dec (fun hlt2 => ?_) (fun hge2 => k1 k hE1 hk hI fun _ => hge2)
  exact IN_next hR.le hk' ⟨hE1, all_succ2 hI hk' hlt2⟩

end Go.Proofs.YtfiginahjofdnaaGreat
end

section
/- Rooted problems: path forms, both sides. -/
namespace Go.Proofs.YtfiginahjofdnaaGreat
open Go.GX Go.RowKit
set_option maxRecDepth 100000

structure SmallRo (p : RPr) : Prop where
  len : p.lines.length ≤ 1048576
  tot : pre p.lines p.lines.length ≤ 1048576
  row : ∀ r ∈ p.lines, r.length ≤ 1048576

theorem pre_mono {L : List (List Int)} : ∀ {i j : Nat}, i ≤ j → j ≤ L.length → pre L i ≤ pre L j := by
  intro i j hij hj
  obtain ⟨d, rfl⟩ : ∃ d, j = i + d := ⟨j - i, by omega⟩
  clear hij
  induction d with
  | zero => exact Nat.le_refl _
  | succ d ih =>
    have h1 := ih (by omega)
    have h2 := pre_succ (L := L) (i := i + d) (by omega)
    rw [← Nat.add_assoc, h2]
    omega

/-! ### Labels of a set -/

theorem onlyIn_ok {w : World} {t : Sl} {l S : List Int} {n : Nat} (hn : n ≤ 12) (h : R w t l) (hl : ∀ x ∈ l, ∃ a : Nat, x = a ∧ a < n) :
    Calls Tryz.prog F.i_onlyIn #[.int .i64 ((maskP n (fun a : Nat => (a : Int) ∈ S) : Nat) : Int), t.v] w (Ret [.at .bool] fun (b : Bool) w' => (b = true ↔ ∀ y ∈ l, y ∈ S) ∧ Ext w w') := by
  refine C_i_onlyIn ?_
  unfold V_i_onlyIn
  refine NEW_intro fun p1 w1 hp1 hs1 hE1 hb1 => ?_
  classical
  refine call (containsFuncI_ok (p := fun x => !decide (x ∈ S)) (h.ext hE1) ?_) ?_
  · intro x hx w' hw'
    obtain ⟨a, rfl, ha⟩ := hl x hx
    refine CALLV_mk (by kernel_rfl) (C_i_onlyIn_1 ?_)
    unfold V_i_onlyIn_1
    refine LD_bi (hb1.ext hw') ⟨by omega, ?_⟩
    rw [bit_maskP hn ha]
    refine ⟨?_, Ext.refl _⟩
    by_cases hs : (a : Int) ∈ S
    · simp [hs]
    · simp [hs]
  · rintro b w2 ⟨rfl, hE2⟩
    refine ⟨?_, hE1.trans hE2⟩
    rw [Bool.not_eq_true', List.any_eq_false]
    exact ⟨fun hh y hy => by simpa using hh y hy, fun hh y hy => by simpa using hh y hy⟩

theorem prAll_ok {w : World} {s t : Sl} {l S : List Int} (h : R w s l) (hS : R w t S) :
    Calls Tryz.prog F.s_prAll #[s.v, t.v] w (Ret [.at .bool] fun (b : Bool) w' => (b = true ↔ ∀ y ∈ l, y ∈ S) ∧ w = w') := by
  refine C_s_prAll ?_
  unfold V_s_prAll
  rw [h.len]
  refine ⟨IN l.length fun i w' => w = w' ∧ ∀ y ∈ l.take i, y ∈ S, MN l.length, IN_zero ⟨rfl, by simp⟩, ?_⟩
  rintro _ _ ⟨i, rfl, hi, rfl, hall⟩
  intros
  refine cond_dec (fun hlt => ?_) (fun hge => ?_)
  · have hi' : i < l.length := by omega
    refine h.ixI hi' fun q _ hc => LD_int hc ?_
    refine call (l1Has_ok hS _) ?_
    rintro _ _ ⟨rfl, rfl⟩
    refine cond_not (fun hf => ⟨⟨(fun hh => by cases hh), (fun hh => ?_)⟩, rfl⟩) (fun ht => ?_)
    · have := List.contains_iff_mem.2 (hh _ (List.getElem_mem hi'))
      exact absurd (this.symm.trans hf) (by simp)
    · refine IN_next h.le hi' ⟨rfl, fun y hy => ?_⟩
      rw [List.take_succ_eq_append_getElem hi'] at hy
      rcases List.mem_append.1 hy with hy | hy
      · exact hall y hy
      · rw [List.mem_singleton.1 hy]; exact List.contains_iff_mem.1 ht
  · have : i = l.length := by omega
    subst this
    rw [List.take_length] at hall
    exact ⟨⟨fun _ => hall, fun _ => rfl⟩, rfl⟩

/-! ### Arcs of lines -/

def arcsOf (x : List Int) : List (List Int) := x.tail.map fun b => [x.getD 0 0, b]
theorem arcsOf_mem {x : List Int} (hx : 0 < x.length) {y : List Int} : y ∈ arcsOf x ↔ ∃ a, x.head? = some a ∧ ∃ b ∈ x.tail, y = [a, b] := by
  obtain ⟨c, l, rfl⟩ : ∃ c l, x = c :: l := by
    cases x with
    | nil => simp at hx
    | cons c l => exact ⟨c, l, rfl⟩
  unfold arcsOf
  rw [List.mem_map]
  constructor
  · rintro ⟨b, hb, rfl⟩
    exact ⟨c, rfl, b, hb, rfl⟩
  · rintro ⟨a, ha, b, hb, rfl⟩
    cases ha
    exact ⟨b, hb, rfl⟩
noncomputable def arcsTo (lines : List (List Int)) (S : List Int) (i : Nat) : List (List Int) := by
  classical exact ((lines.take i).filter fun x => decide (∀ y ∈ x, y ∈ S)).flatMap arcsOf
theorem arcsTo_yes {lines : List (List Int)} {S : List Int} {i : Nat} (hi : i < lines.length) (h : ∀ y ∈ lines[i], y ∈ S) : arcsTo lines S (i + 1) = arcsTo lines S i ++ arcsOf lines[i] := by
  classical
  unfold arcsTo
  rw [List.take_succ_eq_append_getElem hi, List.filter_append, List.flatMap_append]
  have : ([lines[i]].filter fun x => decide (∀ y ∈ x, y ∈ S)) = [lines[i]] := by
    rw [List.filter_cons, if_pos (by simpa using h)]; rfl
  rw [this]
  simp
theorem arcsTo_no {lines : List (List Int)} {S : List Int} {i : Nat} (hi : i < lines.length) (h : ¬ ∀ y ∈ lines[i], y ∈ S) : arcsTo lines S (i + 1) = arcsTo lines S i := by
  classical
  unfold arcsTo
  rw [List.take_succ_eq_append_getElem hi, List.filter_append]
  have : ([lines[i]].filter fun x => decide (∀ y ∈ x, y ∈ S)) = [] := by
    rw [List.filter_cons, if_neg (by simpa using h)]; rfl
  rw [this, List.append_nil]
theorem arcsTo_mem {R : RPr} (hR : RoGood R) {S : List Int} {y : List Int} : y ∈ arcsTo R.lines S R.lines.length ↔ ∃ x ∈ R.lines, (∀ z ∈ x, z ∈ S) ∧ ∃ a, x.head? = some a ∧ ∃ b ∈ x.tail, y = [a, b] := by
  classical
  unfold arcsTo
  rw [List.take_length, List.mem_flatMap]
  have hpos : ∀ x ∈ R.lines, 0 < x.length := fun x hx => by
    have := hR.up.len x hx
    have := hR.chi
    omega
  constructor
  · rintro ⟨x, hx, hy⟩
    rw [List.mem_filter] at hx
    exact ⟨x, hx.1, by simpa using hx.2, (arcsOf_mem (hpos x hx.1)).1 hy⟩
  · rintro ⟨x, hx, hs, hy⟩
    exact ⟨x, List.mem_filter.2 ⟨hx, by simpa using hs⟩, (arcsOf_mem (hpos x hx)).2 hy⟩
theorem arcsTo_len (lines : List (List Int)) (S : List Int) : ∀ i, i ≤ lines.length → (arcsTo lines S i).length ≤ pre lines i := by
  classical
  intro i
  induction i with
  | zero => intro _; simp [arcsTo, pre_zero]
  | succ i ih =>
    intro hi
    have h1 := ih (by omega)
    rw [pre_succ (by omega)]
    by_cases h : ∀ y ∈ lines[i], y ∈ S
    · rw [arcsTo_yes (by omega) h, List.length_append]
      have : (arcsOf lines[i]).length ≤ lines[i].length := by simp [arcsOf]
      omega
    · rw [arcsTo_no (by omega) h]; omega

theorem lits2_arc {w : World} {a b : Int} {K : Sl → World → Prop} (hk : ∀ s w', Ext w w' → OwnL w' w.heap.size T.t_int s [a, b] → K s w') : RUN Tryz.prog (.at .sl) (Instr.buildSlice T.t_sl_int 2 #[(0, .int .i64 a), (1, .int .i64 b)]) w K :=
  RUN_lits slt_int [a, b] (by simp) (by simp) rfl rfl hk

end Go.Proofs.YtfiginahjofdnaaGreat
end

section
/- Rooted problems: path forms, both sides. -/
namespace Go.Proofs.YtfiginahjofdnaaGreat
open Go.GX Go.RowKit
set_option maxRecDepth 100000

theorem row_two {R : RPr} (hR : RoGood R) {x : List Int} (hx : x ∈ R.lines) : 0 < x.length ∧ (∀ y ∈ x, ∃ a : Nat, y = a ∧ a < R.labels.toNat) ∧ ∀ y ∈ x, I64 y := by
  have h1 := hR.up.len x hx
  have h2 := hR.up.lab x hx
  have h3 := hR.chi
  have h4 := hR.lab
  exact ⟨by omega, fun y hy => by have := h2 y hy; exact ⟨y.toNat, by omega, by omega⟩, fun y hy => by have := h2 y hy; unfold GX.I64; omega⟩

theorem arc_take {x : List Int} {j : Nat} (hj : j < x.tail.length) : (arcsOf x).take (j + 1) = (arcsOf x).take j ++ [[x.getD 0 0, x.tail[j]]] := by
  have hl : j < (arcsOf x).length := by simpa [arcsOf] using hj
  rw [List.take_succ_eq_append_getElem hl]
  simp [arcsOf]

theorem head_get {x : List Int} (h : 0 < x.length) : x.getD 0 0 = x[0] := by rw [List.getD_eq_getElem?_getD, List.getElem?_eq_getElem h]; rfl

theorem pathForm_ok {w : World} {s : Sl} {R0 : RPr} {S : List Int} (h : RRo w s R0) (hg : RoGood R0) (hs : SmallRo R0) :
    Calls Tryz.prog F.i_RootedProblem_pathForm #[.agg #[.int .i64 R0.labels, .int .i64 R0.children, s.v], .int .i64 ((maskP R0.labels.toNat (fun a : Nat => (a : Int) ∈ S) : Nat) : Int)] w (Ret [.agg [.int .i64, .sl]] fun (x : Int) (r : Sl) w' => x = R0.labels ∧ Ext w w' ∧ ∃ A, R w' r A ∧ PathArcs R0.lines S A) := by
  refine C_i_RootedProblem_pathForm ?_
  unfold V_i_RootedProblem_pathForm
  refine NEW_intro fun pp w1 hp1 hs1 hE1 hb1 => NEW_intro fun px4 w2 hp4 hs2 hE2 hb4 => LD_bi0 (hb1.ext hE2) ?_
  have hE12 := hE1.trans hE2
  refine NEW_ST (one2 R0.labels ⟨none, 0, 0⟩) rfl fun po w4 hpo hE4 hbo => ?_
  have hE24 := hE2.trans hE4
  have hE04 := hE1.trans hE24
  have hz1 := hE1.size_le
  have hz2 := hE2.size_le
  have hz4 := hE4.size_le
  have hlto := hbo.lt
  have hlt4 := (hb4.ext hE4).lt
  refine LD_bs2 (hb1.ext hE24) ?_
  have hlab := hg.lab
  have hn12 : R0.labels.toNat ≤ 12 := by omega
  have hL0 : SlR (fun b => b < w.heap.size) w s R0.lines := h.lines.below.weak (fun b hb _ => hb.2) RepP.pos
  have hmax := hs.tot
  have hlen := hs.len
  rw [h.lines.len]
  refine ⟨IN R0.lines.length fun i w' => Chg w4 w' (fun c => c = po.block) ∧ ∃ t ss, Box w' po T.t_i_WalkProblem [.int .i64 R0.labels, t.v] ∧ RowsD w' w4.heap.size T.t_int T.t_sl_int t (arcsTo R0.lines S i) ss ∧ ∀ r ∈ arcsTo R0.lines S i, ∀ x ∈ r, I64 x, MN R0.lines.length, IN_zero ⟨Chg.refl _ _, ⟨none, 0, 0⟩, [], hbo, ?_, ?_⟩, ?_⟩
  · have e : arcsTo R0.lines S 0 = [] := by simp [arcsTo]
    rw [e]; exact RowsD.nil _ _ _ _
  · have e : arcsTo R0.lines S 0 = [] := by simp [arcsTo]
    rw [e]; simp
  rintro _ w5 ⟨i, rfl, hi, hC5, t, ss, hb5, hM5, h64⟩
  intros
  have rd : ∀ {α : Type} [RepP α] {u : Sl} {l : List α} {wa wb : World}, SlR (fun b => b < w.heap.size) wa u l → Chg wa wb (fun c => c = po.block ∨ w4.heap.size ≤ c) → SlR (fun b => b < w.heap.size) wb u l := fun hR hC => hR.chg hC fun b hb _ hD => by have h3 : b < w.heap.size := hb; rcases hD with hD | hD <;> omega
  refine cond_dec (fun hlt => ?_) (fun hge => ?_)
  · have hi' : i < R0.lines.length := by omega
    have hx := hg.row hi'
    obtain ⟨hpos, hnat, hx64⟩ := row_two hg (List.getElem_mem hi')
    have hL5 := rd (hL0.ext hE04) (hC5.mono fun c hc => .inl hc)
    refine hL5.ixL hi' fun q row hrow hc => LD_sl hc ?_
    refine call (onlyIn_ok (S := S) hn12 hrow.any hnat) ?_
    rintro v w6 ⟨hv, hE6⟩
    have hlt1 := arcsTo_len R0.lines S i (by omega)
    have hpm := pre_mono (L := R0.lines) (i := i + 1) (j := R0.lines.length) (by omega) (Nat.le_refl _)
    have hps := pre_succ (L := R0.lines) (i := i) hi'
    refine cond_b (fun ht => ?_) (fun hf => ?_)
    · refine slr_drop (i := 1) (hrow.ext hE6) (by omega) rfl fun dd hd => ?_
      rw [hd.len, List.drop_one]
      rw [List.drop_one] at hd
      have hrow6 := hrow.ext hE6
      have htl : R0.lines[i].tail.length + 1 = R0.lines[i].length := by rw [List.length_tail]; omega
      refine ⟨IN R0.lines[i].tail.length fun j w' => Chg w6 w' (fun c => c = po.block ∨ w4.heap.size ≤ c) ∧ ∃ t ss, Box w' po T.t_i_WalkProblem [.int .i64 R0.labels, t.v] ∧ RowsD w' w4.heap.size T.t_int T.t_sl_int t (arcsTo R0.lines S i ++ (arcsOf R0.lines[i]).take j) ss ∧ ∀ r ∈ arcsTo R0.lines S i ++ (arcsOf R0.lines[i]).take j, ∀ x ∈ r, I64 x, MN R0.lines[i].tail.length, IN_zero ⟨Chg.refl _ _, t, ss, hb5.ext hE6, by simpa using hM5.ext hE6, by simpa using h64⟩, ?_⟩
      rintro _ w7 ⟨j, rfl, hj, hC7, t7, ss7, hb7, hM7, h647⟩
      intros
      refine cond_dec (fun hlt2 => ?_) (fun hge2 => ?_)
      · have hj' : j < R0.lines[i].tail.length := by omega
        have hdd7 : R w7 dd R0.lines[i].tail := (rd hd hC7).any
        refine hdd7.ixI hj' fun q2 h64b hc2 => LD_int hc2 ?_
        intro w8 hE8 _
        have hb8 := hb7.ext hE8
        have hM8 := hM7.ext hE8
        have hrow8 := (rd hrow6 hC7).ext hE8
        have hnt : ¬ oB t7 po.block := fun hh => by have := (hM7.own.blk _ hh).1; omega
        have hlt2 : (arcsTo R0.lines S i ++ (arcsOf R0.lines[i]).take j).length ≤ 1048576 := by
          rw [List.length_append, List.length_take]; omega
        refine ⟨oB t7, hnt, LD_bs1 hb8 ?_⟩
        refine slr_ixW hrow8 (i := 0) hpos fun q3 hq3 hc3 => ⟨fun hh => by have h3 := (hM7.own.blk _ hh).1; have h4 : q3.block < w.heap.size := hq3; omega, LD_int hc3 ⟨Chg.refl _ _, ?_⟩⟩
        refine lits2_arc fun y9 w9 hE9 hO9 => ⟨.of_ext hE9, ?_⟩
        refine RUN_lit1 (α := Sl) slt_rows y9 rfl (by decide) fun y10 w10 hE10 hO10 => ⟨.of_ext (hE9.trans hE10), ?_⟩
        have hC48 : Chg w4 w8 (fun c => c = po.block) := ((hC5.trans (.of_ext hE6)).then' hC7 fun k hk hd => hd.resolve_right fun hh => by omega).trans (.of_ext hE8)
        have hz8 := hC48.size
        have hz9 := hE9.size_le
        have hz10 := hE10.size_le
        refine RUN_append_rowD slt_rows (by decide) (hM8.ext (hE9.trans hE10)) (by omega) ((hO9.ext hE10).low hz8) (hM8.fresh hO9 (Nat.le_refl _)) hO10 (by omega) (by unfold maxLen; omega) fun t11 w11 hM11 hs11 => ?_
        have hC811 : Chg w8 w11 (oB t7) := (Chg.of_ext (hE9.trans hE10)).trans (.of_step hs11 fun k hk => hk)
        refine ⟨hC811, ?_⟩
        have hz11 := hs11.size
        have hC4_11 : Chg w4 w11 (fun c => c = po.block) := hC48.then' hC811 fun k hk hd => by have := (hM7.own.blk k hd).1; omega
        have hE0_11 : Ext w w11 := hC4_11.ext0 hE04 fun k hk => by omega
        refine ST_boxC (hb8.chg hC811 hnt) (by simp) rfl hE0_11 (by omega) fun w12 hC12 _ hb12 => ?_
        have hM12 := hM11.keep (w' := w12) fun k hk hk2 => hC12.block k hk2 fun he => by omega
        refine IN_next (by omega) hj' ⟨((hC7.trans (.of_ext hE8)).trans (hC811.mono fun c hc => .inr (hM7.own.blk c hc).1)).trans (hC12.mono fun c hc => .inl hc), t11, ss7 ++ [y9], hb12, ?_, ?_⟩
        · rw [arc_take hj', ← List.append_assoc, head_get hpos]; exact hM12
        · rw [arc_take hj', ← List.append_assoc]
          intro r hr
          rcases List.mem_append.1 hr with hr | hr
          · exact h647 r hr
          · rw [List.mem_singleton.1 hr]
            intro x hx
            simp only [List.mem_cons, List.not_mem_nil, or_false] at hx
            rcases hx with rfl | rfl
            · rw [head_get hpos]; exact hx64 _ (List.getElem_mem hpos)
            · exact hx64 _ (List.mem_of_mem_tail (List.getElem_mem hj'))
      · have : j = R0.lines[i].tail.length := by omega
        subst this
        have e : (arcsOf R0.lines[i]).take R0.lines[i].tail.length = arcsOf R0.lines[i] := List.take_of_length_le (by simp [arcsOf])
        rw [e, ← arcsTo_yes hi' (hv.1 ht)] at hM7 h647
        exact IN_next (by omega) hi' ⟨(hC5.trans (.of_ext hE6)).then' hC7 fun k hk hd => hd.resolve_right fun hh => by omega, t7, ss7, hb7, hM7, h647⟩
    · have hno : ¬ ∀ y ∈ R0.lines[i], y ∈ S := fun hh => by rw [hv.2 hh] at hf; cases hf
      rw [← arcsTo_no hi' hno] at hM5 h64
      exact IN_next (by omega) hi' ⟨hC5.trans (.of_ext hE6), t, ss, hb5.ext hE6, hM5.ext hE6, h64⟩
  · have : i = R0.lines.length := by omega
    subst this
    refine LD_bs1 hb5 ?_
    have hL := arcsTo_len R0.lines S R0.lines.length (Nat.le_refl _)
    refine call (sortedLists_ok hM5 h64 (by omega)) ?_
    rintro r w13 ⟨hC13, A, tt, hMA, hAs, hAm, hAl⟩
    have hz5 := hC5.size
    have hnt : ¬ oB t po.block := fun hh => by have := (hM5.own.blk _ hh).1; omega
    have hnt4 : ¬ oB t px4.block := fun hh => by have := (hM5.own.blk _ hh).1; omega
    have hE05 : Ext w w5 := hC5.ext0 hE04 fun k hk => by omega
    have hE0_13 : Ext w w13 := hC13.ext0 hE05 fun k hk => by have := (hM5.own.blk k hk).1; omega
    have hb413 : Box w13 px4 T.t_i_WalkProblem [.int .i64 0, .slice none 0 0] := ((hb4.ext hE4).chg hC5 fun he => by omega).chg hC13 hnt4
    refine ST_boxC (hb5.chg hC13 hnt) (by simp) rfl hE0_13 (by omega) fun w14 hC14 hE0_14 hb14 => LD_is hb14 ?_
    refine ST_all (hb413.chg hC14 (by omega)) (one2 R0.labels r) rfl fun w15 hs15 hz15 hb15 => LD_is hb15 ?_
    have hM14 := hMA.keep (w' := w14) fun k hk hk2 => hC14.block k hk2 fun he => by omega
    have hM15 := hM14.keep (w' := w15) fun k hk hk2 => hs15.block k hk2 fun he => by cases he; omega
    have h64A : ∀ r ∈ A, ∀ x ∈ r, I64 x := fun r hr => h64 r ((hAm r).1 hr)
    exact ⟨rfl, hs15.ext0 hE0_14 fun k hk => by cases hk; omega, A, hM15.rep h64A, hAs, fun y => (hAm y).trans (arcsTo_mem hg)⟩

theorem al_nil (w : World) (base : Nat) : Al w base [] [] := ⟨rfl, fun i h1 => by simp at h1⟩

/-- Rising pairs of few labels are few. -/
theorem pairs_few {L : List (List Int)} {c : Int} (hc : c ≤ 7) (hr : L.Pairwise fun a b => cmpL a b < 0) (hL : ∀ r ∈ L, r.length = 2 ∧ AllIn r 0 c) : L.length ≤ 64 := by
  have key : ∀ r ∈ L, ∃ a b : Nat, r = [(a : Int), (b : Int)] ∧ a < 8 ∧ b < 8 := fun r hr => by
    obtain ⟨h1, h2⟩ := hL r hr
    match r, h1, h2 with
    | [x, y], _, h2 =>
      have h3 := h2 x (by simp)
      have h4 := h2 y (by simp)
      exact ⟨x.toNat, y.toNat, by rw [Int.toNat_of_nonneg h3.1, Int.toNat_of_nonneg h4.1], by omega, by omega⟩
  have := nodup_length 64 (L.map fun r => (r.getD 0 0).toNat * 8 + (r.getD 1 0).toNat) (by
    unfold List.Nodup
    rw [List.pairwise_map]
    refine List.Pairwise.imp_of_mem ?_ hr
    intro r q hr hq hlt he
    obtain ⟨a, b, rfl, ha, hb⟩ := key r hr
    obtain ⟨a', b', rfl, ha', hb'⟩ := key q hq
    simp at he
    have h1 : a = a' := by omega
    have h2 : b = b' := by omega
    subst h1; subst h2
    rw [cmpL_zero.2 rfl] at hlt
    omega) (fun x hx => by
    obtain ⟨r, hr, rfl⟩ := List.mem_map.1 hx
    obtain ⟨a, b, rfl, ha, hb⟩ := key r hr
    simp
    omega)
  rwa [List.length_map] at this

theorem roPath_ok {w : World} {s t0 : Sl} {R0 : RPr} {S : List Int} (h : RRo w s R0) (hg : RoGood R0) (hs : SmallRo R0) (hS : R w t0 S) :
    Calls Tryz.prog F.s_roPath #[.agg #[.int .i64 R0.labels, .int .i64 R0.children, s.v], t0.v] w (Ret [.agg [.int .i64, .sl]] fun (x : Int) (r : Sl) w' => x = R0.labels ∧ Ext w w' ∧ ∃ A, R w' r A ∧ PathArcs R0.lines S A) := by
  refine C_s_roPath ?_
  unfold V_s_roPath
  refine NEW_intro fun pp w1 hp1 hs1 hE1 hb1 => NEW_intro fun px4 w2 hp4 hs2 hE2 hb4 => LD_bi0 (hb1.ext hE2) ?_
  have hE12 := hE1.trans hE2
  refine NEW_ST (one2 R0.labels ⟨none, 0, 0⟩) rfl fun po w4 hpo hE4 hbo => ?_
  have hE24 := hE2.trans hE4
  have hE04 := hE1.trans hE24
  have hz1 := hE1.size_le
  have hz2 := hE2.size_le
  have hz4 := hE4.size_le
  have hlto := hbo.lt
  have hlt4 := (hb4.ext hE4).lt
  refine LD_bs2 (hb1.ext hE24) ?_
  have hlab := hg.lab
  have hL0 : SlR (fun b => b < w.heap.size) w s R0.lines := h.lines.below.weak (fun b hb _ => hb.2) RepP.pos
  have hS0 : SlR (fun b => b < w.heap.size) w t0 S := hS.below.weak (fun b hb _ => hb.2) RepP.pos
  have hmax := hs.tot
  have hlen := hs.len
  rw [h.lines.len]
  have rd : ∀ {α : Type} [RepP α] {u : Sl} {l : List α} {wa wb : World}, SlR (fun b => b < w.heap.size) wa u l → Chg wa wb (fun c => c = po.block) → SlR (fun b => b < w.heap.size) wb u l := fun hR hC => hR.chg hC fun b hb _ hD => by have h3 : b < w.heap.size := hb; have h4 : b = po.block := hD; omega
  -- what is kept, told of the arcs that are there
  let J : List (List Int) → Nat → World → Prop := fun M m w' => ∃ t ss L, Box w' po T.t_i_WalkProblem [.int .i64 R0.labels, t.v] ∧ OwnL w' w4.heap.size T.t_sl_int t ss ∧ Al w' w4.heap.size ss L ∧ (L.Pairwise fun a b => cmpL a b < 0) ∧ (∀ y, y ∈ L ↔ y ∈ M) ∧ L.length ≤ m
  have jext : ∀ {M : List (List Int)} {m : Nat} {wa wb : World}, J M m wa → Ext wa wb → J M m wb := fun ⟨t, ss, L, h1, h2, h3, h4, h5, h6⟩ hE => ⟨t, ss, L, h1.ext hE, h2.ext hE, h3.ext hE, h4, h5, h6⟩
  have e0 : arcsTo R0.lines S 0 = [] := by simp [arcsTo]
  refine ⟨IN R0.lines.length fun i w' => Chg w4 w' (fun c => c = po.block) ∧ J (arcsTo R0.lines S i) (pre R0.lines i) w', MN R0.lines.length, IN_zero ⟨Chg.refl _ _, ⟨none, 0, 0⟩, [], [], hbo, OwnL.nil _ _ _, al_nil _ _, List.Pairwise.nil, fun y => by rw [e0], by simp⟩, ?_⟩
  rintro _ w5 ⟨i, rfl, hi, hC5, hJ5⟩
  intros
  refine cond_dec (fun hlt => ?_) (fun hge => ?_)
  · have hi' : i < R0.lines.length := by omega
    have hx := hg.row hi'
    obtain ⟨hpos, hnat, hx64⟩ := row_two hg (List.getElem_mem hi')
    have hL5 := rd (hL0.ext hE04) hC5
    refine hL5.ixL hi' fun q row hrow hc => LD_sl hc ?_
    refine call (prAll_ok hrow.any (rd (hS0.ext hE04) hC5).any) ?_
    rintro v _ ⟨hv, rfl⟩
    have hpm := pre_mono (L := R0.lines) (i := i + 1) (j := R0.lines.length) (by omega) (Nat.le_refl _)
    have hps := pre_succ (L := R0.lines) (i := i) hi'
    refine cond_not (fun hf => ?_) (fun ht => ?_)
    · have hno : ¬ ∀ y ∈ R0.lines[i], y ∈ S := fun hh => by rw [hv.2 hh] at hf; cases hf
      obtain ⟨t, ss, L, k1, k2, k3, k4, k5, k6⟩ := hJ5
      refine IN_next h.lines.le hi' ⟨hC5, t, ss, L, k1, k2, k3, k4, fun y => by rw [arcsTo_no hi' hno]; exact k5 y, by omega⟩
    refine slr_drop (i := 1) hrow (by omega) rfl fun dd hd => ?_
    rw [hd.len, List.drop_one]
    rw [List.drop_one] at hd
    have htl : R0.lines[i].tail.length + 1 = R0.lines[i].length := by rw [List.length_tail]; omega
    refine ⟨IN R0.lines[i].tail.length fun j w' => Chg w5 w' (fun c => c = po.block) ∧ J (arcsTo R0.lines S i ++ (arcsOf R0.lines[i]).take j) (pre R0.lines i + j) w', MN R0.lines[i].tail.length, IN_zero ⟨Chg.refl _ _, by simpa using hJ5⟩, ?_⟩
    rintro _ w7 ⟨j, rfl, hj, hC7, hJ7⟩
    intros
    refine cond_dec (fun hlt2 => ?_) (fun hge2 => ?_)
    · have hj' : j < R0.lines[i].tail.length := by omega
      refine (rd hd hC7).any.ixI hj' fun q2 h64b hc2 => LD_int hc2 ?_
      intro w8 hE8 _
      obtain ⟨t7, ss7, L7, k1, k2, k3, k4, k5, k6⟩ := jext hJ7 hE8
      have hrow8 := ((rd hrow hC7).ext hE8).any
      refine ⟨fun _ => False, not_false, LD_bs1 k1 ?_⟩
      refine hrow8.ixI (i := 0) hpos fun q3 _ hc3 => ⟨not_false, LD_int hc3 ⟨Chg.refl _ _, ?_⟩⟩
      refine lits2_arc fun y9 w9 hE9 hO9 => ⟨.of_ext hE9, ?_⟩
      have hC48 : Chg w4 w8 (fun c => c = po.block) := (hC5.trans hC7).trans (.of_ext hE8)
      have hz8 := hC48.size
      have hz9 := hE9.size_le
      have hAll : ∀ y ∈ R0.lines[i], 0 ≤ y ∧ y ≤ R0.labels - 1 := hx.2.1
      have hy64 : ∀ x ∈ [R0.lines[i][0], R0.lines[i].tail[j]], I64 x := by
        intro x hx
        simp only [List.mem_cons, List.not_mem_nil, or_false] at hx
        rcases hx with rfl | rfl
        · exact hx64 _ (List.getElem_mem hpos)
        · exact hx64 _ (List.mem_of_mem_tail (List.getElem_mem hj'))
      have hyA : AllIn [R0.lines[i][0], R0.lines[i].tail[j]] 0 (R0.labels - 1) := by
        intro x hx
        simp only [List.mem_cons, List.not_mem_nil, or_false] at hx
        rcases hx with rfl | rfl
        · exact hAll _ (List.getElem_mem hpos)
        · exact hAll _ (List.mem_of_mem_tail (List.getElem_mem hj'))
      have hL7 : ∀ r ∈ L7, r.length = [R0.lines[i][0], R0.lines[i].tail[j]].length ∧ AllIn r 0 (R0.labels - 1) := fun r hr => by
        have hr2 := (k5 r).1 hr
        have two : ∀ (i' : Nat) (hi2 : i' < R0.lines.length), r ∈ arcsOf R0.lines[i'] → r.length = 2 ∧ AllIn r 0 (R0.labels - 1) := fun i' hi2 hm => by
          obtain ⟨p1, p2, p3⟩ := row_two hg (List.getElem_mem hi2)
          obtain ⟨a, ha, b, hb, rfl⟩ := (arcsOf_mem p1).1 hm
          have hAl := (hg.row hi2).2.1
          refine ⟨rfl, fun x hx => ?_⟩
          simp only [List.mem_cons, List.not_mem_nil, or_false] at hx
          rcases hx with rfl | rfl
          · exact hAl _ (List.mem_of_head? ha)
          · exact hAl _ (List.mem_of_mem_tail hb)
        rcases List.mem_append.1 hr2 with hr2 | hr2
        · classical
          unfold arcsTo at hr2
          obtain ⟨x, hx2, hm⟩ := List.mem_flatMap.1 hr2
          obtain ⟨i', hi2, rfl⟩ := List.mem_iff_getElem.1 (List.mem_of_mem_take (List.mem_filter.1 hx2).1)
          exact two i' hi2 hm
        · exact two i hi' (List.mem_of_mem_take hr2)
      refine call (prInsert_ok (c := R0.labels - 1) (k2.ext hE9) (k3.ext hE9) ((hO9.rep hy64).weak (fun b hb _ => by have h3 : w8.heap.size ≤ b := hb; omega) RepP.pos) k4 hL7 hyA (by omega) (by have := pairs_few (c := R0.labels - 1) (by omega) k4 (fun r hr => hL7 r hr); omega) (by omega)) ?_
      rintro t10 w10 ⟨hE10, ss10, L10, m1, m2, m3, m4, m5⟩
      have hE810 := hE9.trans hE10
      refine ⟨.of_ext hE810, ?_⟩
      have hC4_10 : Chg w4 w10 (fun c => c = po.block) := hC48.trans (.of_ext hE810)
      have hE0_10 : Ext w w10 := hC4_10.ext0 hE04 fun k hk => by omega
      refine ST_boxC (k1.ext hE810) (by simp) rfl hE0_10 (by omega) fun w11 hC11 _ hb11 => ?_
      refine IN_next (by omega) hj' ⟨(hC7.trans (.of_ext (hE8.trans hE810))).trans hC11, t10, ss10, L10, hb11, m1.keep fun k hk => hC11.block k (m1.blk k hk).2 fun he => by have := (m1.blk k hk).1; omega, ⟨m2.1, fun k p1 p2 => (m2.2 k p1 p2).chg hC11 fun b hb _ he => by have h3 : w4.heap.size ≤ b := hb; have h4 : b = po.block := he; omega⟩, m3, fun y => ?_, by omega⟩
      rw [m4, k5, arc_take hj', head_get hpos, List.mem_append, List.mem_append, List.mem_append, List.mem_singleton, or_assoc]
    · have : j = R0.lines[i].tail.length := by omega
      subst this
      have e : (arcsOf R0.lines[i]).take R0.lines[i].tail.length = arcsOf R0.lines[i] := List.take_of_length_le (by simp [arcsOf])
      rw [e, ← arcsTo_yes hi' (hv.1 ht)] at hJ7
      obtain ⟨t, ss, L, k1, k2, k3, k4, k5, k6⟩ := hJ7
      exact IN_next h.lines.le hi' ⟨hC5.trans hC7, t, ss, L, k1, k2, k3, k4, k5, by omega⟩
  · have : i = R0.lines.length := by omega
    subst this
    obtain ⟨t, ss, L, k1, k2, k3, k4, k5, k6⟩ := hJ5
    have hE05 : Ext w w5 := hC5.ext0 hE04 fun k hk => by omega
    have hb45 : Box w5 px4 T.t_i_WalkProblem [.int .i64 0, .slice none 0 0] := (hb4.ext hE4).chg hC5 fun he => by omega
    refine LD_is k1 ?_
    refine ST_all hb45 (one2 R0.labels t) rfl fun w12 hs12 hz12 hb12 => LD_is hb12 ?_
    have hO12 : OwnL w12 w4.heap.size T.t_sl_int t ss := k2.keep fun k hk => hs12.block k (k2.blk k hk).2 fun he => by cases he; have := (k2.blk _ hk).1; omega
    refine ⟨rfl, hs12.ext0 hE05 fun k hk => by cases hk; omega, L, OwnL.rows (D := fun _ => True) hO12 k3.1 (fun k p1 p2 => ((k3.2 k p1 p2).stepD hs12 fun b hb he => by cases he; have h3 : w4.heap.size ≤ px4.block := hb; omega).any) (fun _ _ => trivial), k4, fun y => (k5 y).trans (arcsTo_mem hg)⟩

end Go.Proofs.YtfiginahjofdnaaGreat
end

section
/- Rooted problems: labels of roots, both sides. -/
namespace Go.Proofs.YtfiginahjofdnaaGreat
open Go.GX Go.RowKit
set_option maxRecDepth 100000

theorem maskP_inj {n : Nat} {P Q : Nat → Prop} : maskP n P = maskP n Q ↔ ∀ a < n, P a ↔ Q a := by
  constructor
  · intro h a ha
    have h1 := testBit_maskP (n := n) (P := P) (a := a)
    rw [h, testBit_maskP] at h1
    exact ⟨fun hp => (h1.2 ⟨ha, hp⟩).2, fun hq => (h1.1 ⟨ha, hq⟩).2⟩
  · exact maskP_congr

noncomputable def maskL (n : Nat) (S : List Int) : Nat := maskP n fun a : Nat => (a : Int) ∈ S

theorem maskL_eq {n : Nat} {S T0 : List Int} (hS : S.Pairwise (· < ·)) (hT : T0.Pairwise (· < ·)) (h1 : ∀ x ∈ S, ∃ a : Nat, x = a ∧ a < n) (h2 : ∀ x ∈ T0, ∃ a : Nat, x = a ∧ a < n) : maskL n S = maskL n T0 ↔ S = T0 := by
  constructor
  · intro h
    have h3 := maskP_inj.1 h
    refine sorted_ext hS hT fun x => ⟨fun hx => ?_, fun hx => ?_⟩
    · obtain ⟨a, rfl, ha⟩ := h1 x hx
      exact (h3 a ha).1 hx
    · obtain ⟨a, rfl, ha⟩ := h2 x hx
      exact (h3 a ha).2 hx
  · intro h; rw [h]
theorem maskL_all (n : Nat) : maskL n (allL n) = 2 ^ n - 1 := by
  refine (maskP_eq (by have := Nat.two_pow_pos n; omega) fun a ha => ?_).symm
  rw [Nat.testBit_two_pow_sub_one]
  simp only [decide_eq_true_eq]
  exact ⟨fun _ => allL_mem.2 ⟨a, rfl, ha⟩, fun _ => ha⟩
theorem maskL_zero {n : Nat} {S : List Int} (h1 : ∀ x ∈ S, ∃ a : Nat, x = a ∧ a < n) : maskL n S = 0 ↔ S = [] := by
  constructor
  · intro h
    have h2 := maskP_zero h
    cases S with
    | nil => rfl
    | cons x S =>
      obtain ⟨a, rfl, ha⟩ := h1 x (by simp)
      exact absurd (by simp) (h2 a ha)
  · rintro rfl
    exact maskP_none fun a _ => by simp

theorem rootsAbove_ok {w : World} {s : Sl} {R0 : RPr} {S : List Int} (h : RRo w s R0) (hg : RoGood R0) :
    Calls Tryz.prog F.i_RootedProblem_rootsAbove #[.agg #[.int .i64 R0.labels, .int .i64 R0.children, s.v], .int .i64 ((maskL R0.labels.toNat S : Nat) : Int)] w (Ret [.at (.int .i64)] fun (x : Int) w' => x = ((maskL R0.labels.toNat (aboveL R0.lines S R0.labels.toNat) : Nat) : Int) ∧ Ext w w') := by
  refine C_i_RootedProblem_rootsAbove ?_
  unfold V_i_RootedProblem_rootsAbove
  refine NEW_intro fun pp w1 hp1 hs1 hE1 hb1 => LD_bs2 hb1 ?_
  have hlab := hg.lab
  have hn12 : R0.labels.toNat ≤ 12 := by omega
  rw [h.lines.len]
  refine ⟨IN2 R0.lines.length fun i (x : Int) w' => Ext w w' ∧ x = ((maskP R0.labels.toNat (fun a => Above (R0.lines.take i) S a) : Nat) : Int), MN2 R0.lines.length, IN2_zero ⟨hE1, by rw [maskP_none (fun a _ ⟨x, hx, _⟩ => by simp at hx)]; rfl⟩, ?_⟩
  rintro _ _ w2 ⟨i, rfl, hi, hE2, rfl⟩
  intros
  refine cond_dec (fun hlt => ?_) (fun hge => ?_)
  · have hi' : i < R0.lines.length := by omega
    obtain ⟨hpos, hnat, hx64⟩ := row_two hg (List.getElem_mem hi')
    refine (h.lines.ext hE2).ixL hi' fun q row hrow hc => LD_sl hc ?_
    refine slr_drop (i := 1) hrow.any (by omega) rfl fun dd hd => ?_
    rw [List.drop_one] at hd
    refine call (onlyIn_ok (S := S) hn12 hd fun x hx => hnat x (List.mem_of_mem_tail hx)) ?_
    rintro v w3 ⟨hv, hE3⟩
    have hE03 := hE2.trans hE3
    have hhead : R0.lines[i].head? = some R0.lines[i][0] := by rw [List.head?_eq_getElem?, List.getElem?_eq_getElem hpos]
    have hstep : ∀ a, Above (R0.lines.take (i + 1)) S a ↔ Above (R0.lines.take i) S a ∨ (R0.lines[i][0] = (a : Int) ∧ ∀ y ∈ R0.lines[i].tail, y ∈ S) := fun a => by
      unfold Above
      rw [List.take_succ_eq_append_getElem hi']
      constructor
      · rintro ⟨x, hx, h1, h2⟩
        rcases List.mem_append.1 hx with hx | hx
        · exact .inl ⟨x, hx, h1, h2⟩
        · rw [List.mem_singleton.1 hx] at h1 h2
          rw [hhead] at h1
          exact .inr ⟨Option.some.inj h1, h2⟩
      · rintro (⟨x, hx, h1⟩ | ⟨h1, h2⟩)
        · exact ⟨x, List.mem_append_left _ hx, h1⟩
        · exact ⟨_, List.mem_append_right _ (List.mem_singleton.2 rfl), by rw [hhead, h1], h2⟩
    refine cond_b (fun ht => ?_) (fun hf => IN2_next h.lines.le hi' ⟨hE03, ?_⟩)
    · refine (hrow.any.ext hE3).ixI (i := 0) hpos fun q2 _ hc2 => LD_int hc2 ?_
      obtain ⟨b, hb, hbn⟩ := hnat _ (List.getElem_mem hpos)
      rw [hb]
      refine ⟨by omega, ?_⟩
      rw [shl_maskP hn12 hbn, or_maskP hn12]
      refine IN2_next h.lines.le hi' ⟨hE03, ?_⟩
      congr 1
      refine maskP_congr fun a _ => ?_
      rw [hstep, hb]
      constructor
      · rintro (h1 | rfl)
        · exact .inl h1
        · exact .inr ⟨rfl, hv.1 ht⟩
      · rintro (h1 | ⟨h1, _⟩)
        · exact .inl h1
        · exact .inr (by omega)
    · congr 1
      refine maskP_congr fun a _ => ?_
      rw [hstep]
      exact ⟨.inl, fun hh => hh.resolve_right fun ⟨_, h2⟩ => by rw [hv.2 h2] at hf; cases hf⟩
  · have : i = R0.lines.length := by omega
    subst this
    rw [List.take_length]
    refine ⟨?_, hE2⟩
    congr 1
    refine maskP_congr fun a ha => ?_
    rw [aboveL_mem]
    constructor
    · intro hh
      exact ⟨a, rfl, ha, hh⟩
    · rintro ⟨b, hb, _, hh⟩
      have : a = b := by omega
      subst this
      exact hh

theorem rootsOfDepth_ok {w : World} {s : Sl} {R0 : RPr} (h : RRo w s R0) (hg : RoGood R0) :
    Calls Tryz.prog F.i_RootedProblem_rootsOfDepth #[.agg #[.int .i64 R0.labels, .int .i64 R0.children, s.v], .int .i64 (-1)] w (Ret [.at (.int .i64)] fun (x : Int) w' => (x = 0 ↔ lastingL R0 = []) ∧ Ext w w') := by
  refine C_i_RootedProblem_rootsOfDepth ?_
  unfold V_i_RootedProblem_rootsOfDepth
  refine NEW_intro fun pp w1 hp1 hs1 hE1 hb1 => LD_bi0 hb1 ?_
  have hlab := hg.lab
  obtain ⟨n, hn⟩ : ∃ n : Nat, R0.labels = n := ⟨R0.labels.toNat, by omega⟩
  have hnt : R0.labels.toNat = n := by omega
  have hn12 : n ≤ 12 := by omega
  refine ⟨by omega, ?_⟩
  have e0 : IntKind.i64.wrap (shlI .i64 1 R0.labels - 1) = ((maskL n (rootsL R0 0) : Nat) : Int) := by
    show _ = ((maskL n (allL R0.labels.toNat) : Nat) : Int)
    rw [hnt, maskL_all, hn, shl_one (by omega)]
    have h1 := Nat.two_pow_pos n
    have h2 : 2 ^ n ≤ 2 ^ 12 := Nat.pow_le_pow_right (by decide) hn12
    have h3 : (2 : Nat) ^ 12 = 4096 := by decide
    rw [wrap_of (by omega) (by omega)]
    omega
  rw [e0]
  have hin : ∀ k, ∀ x ∈ rootsL R0 k, ∃ a : Nat, x = a ∧ a < n := fun k x hx => by have := rootsL_lab R0 k x hx; rwa [hnt] at this
  refine ⟨fun (d x : Int) w' => ∃ k : Nat, d = -1 - k ∧ x = ((maskL n (rootsL R0 k) : Nat) : Int) ∧ Ext w1 w' ∧ ∀ j, j < k → rootsL R0 (j + 1) ≠ rootsL R0 j, fun d _ _ => (n + 2 + (d + 1)).toNat, ⟨0, by omega, rfl, Ext.refl _, fun j hj => by omega⟩, ?_⟩
  rintro _ _ w2 ⟨k, rfl, rfl, hE2', hnf⟩
  intros
  have hE2 := hE1.trans hE2'
  have hkn : k ≤ n := by
    rcases rootsL_len R0 k with h1 | ⟨j, hj, he⟩
    · omega
    · exact absurd he (hnf j hj)
  refine cond_ne (fun _ => LD_iis (hb1.ext hE2') ?_) (fun he => by omega)
  · have hcall := rootsAbove_ok (S := rootsL R0 k) (h.ext hE2) hg
    rw [hnt] at hcall
    refine call hcall ?_
    rintro _ w3 ⟨rfl, hE3⟩
    have hE03 := hE2.trans hE3
    have e1 : maskL n (aboveL R0.lines (rootsL R0 k) n) = maskL n (rootsL R0 (k + 1)) := by
      show _ = maskL n (aboveL R0.lines (rootsL R0 k) R0.labels.toNat)
      rw [hnt]
    rw [e1]
    refine cond_eq (fun heq => ⟨?_, hE03⟩) (fun hne => ?_)
    · have h1 : maskL n (rootsL R0 (k + 1)) = maskL n (rootsL R0 k) := by omega
      have h2 := (maskL_eq (rootsL_sorted R0 _) (rootsL_sorted R0 _) (hin _) (hin _)).1 h1
      rw [← lasting_of h2, ← maskL_zero (hin k)]
      omega
    · rw [wrap_of (by omega) (by omega)]
      refine ⟨⟨k + 1, by omega, rfl, hE2'.trans hE3, fun j hj he => ?_⟩, by simp only []; omega⟩
      by_cases hjk : j = k
      · subst hjk; exact hne (by rw [he])
      · exact hnf j (by omega) he

end Go.Proofs.YtfiginahjofdnaaGreat
end

section
/- Rooted problems: labels of roots by the reference; pruning, both sides. -/
namespace Go.Proofs.YtfiginahjofdnaaGreat
open Go.GX Go.RowKit
set_option maxRecDepth 100000

theorem roAll_ok {w : World} {s : Sl} {R0 : RPr} (h1 : 0 ≤ R0.labels ∧ R0.labels ≤ 1000) :
    Calls Tryz.prog F.s_roAll #[.agg #[.int .i64 R0.labels, .int .i64 R0.children, s.v]] w (Ret [.at .sl] fun (r : Sl) w' => Ext w w' ∧ OwnL w' w.heap.size T.t_int r (allL R0.labels.toNat)) := by
  refine C_s_roAll ?_
  unfold V_s_roAll
  refine NEW_intro fun pp w1 hp1 hs1 hE1 hb1 => ?_
  obtain ⟨n, hn⟩ : ∃ n : Nat, R0.labels = n := ⟨R0.labels.toNat, by omega⟩
  have hnt : R0.labels.toNat = n := by omega
  rw [hnt]
  have hz1 := hE1.size_le
  refine ⟨fun (out : Sl) (x : Int) w' => ∃ a : Nat, x = a ∧ a ≤ n ∧ Ext w1 w' ∧ OwnL w' w1.heap.size T.t_int out (allL a), fun _ x _ => n - x.toNat, ⟨0, rfl, by omega, Ext.refl _, OwnL.nil _ _ _⟩, ?_⟩
  rintro out _ w2 ⟨a, rfl, ha, hE2, hO2⟩
  intros
  refine LD_bi0 (hb1.ext hE2) (cond_dec (fun hlt => ?_) (fun hge => ?_))
  · refine RUN_lit1 (α := Int) slt_int (a : Int) rfl (by decide) fun y w3 hE3 hO3 => ?_
    have hz2 := hE2.size_le
    have hz3 := hE3.size_le
    have hal : (allL a).length = a := by simp [allL]
    refine RUN_append (α := Int) slt_int (hO2.ext hE3) (by omega) (hO3.rep (by intro x hx; rw [List.mem_singleton.1 hx]; show I64 _; unfold GX.I64; omega)).any (by simp; omega) (by simp [maxLen]; omega) fun r w4 hO4 hs4 => ?_
    rw [wrap_of (by omega) (by omega)]
    refine ⟨⟨a + 1, by omega, by omega, hs4.ext0 (hE2.trans hE3) fun k hk => (hO2.blk k hk).1, ?_⟩, by simp only []; omega⟩
    unfold allL
    rw [List.range_succ, List.map_append, List.map_singleton]
    exact hO4
  · have : a = n := by omega
    subst this
    exact ⟨hE1.trans hE2, hO2.low hz1⟩

theorem labs64 {n : Nat} {S : List Int} (hn : n ≤ 1000) (h : ∀ x ∈ S, ∃ a : Nat, x = a ∧ a < n) : ∀ x ∈ S, I64 x := fun x hx => by
  obtain ⟨a, rfl, ha⟩ := h x hx
  unfold GX.I64; omega
theorem labs_few {n : Nat} {S : List Int} (hs : S.Pairwise (· < ·)) (h : ∀ x ∈ S, ∃ a : Nat, x = a ∧ a < n) : S.length ≤ n := by
  have := (lt_sub_sublist hs (show (allL n).Pairwise (· < ·) by unfold allL; rw [List.pairwise_map]; exact List.pairwise_lt_range.imp fun h => by omega) fun x hx => by
    obtain ⟨a, rfl, ha⟩ := h x hx
    exact allL_mem.2 ⟨a, rfl, ha⟩).length_le
  simpa [allL] using this

theorem roAbove_ok {w : World} {s t : Sl} {R0 : RPr} {S : List Int} (h : RRo w s R0) (hg : RoGood R0) (hS : R w t S) :
    Calls Tryz.prog F.s_roAbove #[.agg #[.int .i64 R0.labels, .int .i64 R0.children, s.v], t.v] w (Ret [.at .sl] fun (r : Sl) w' => Ext w w' ∧ R w' r (aboveL R0.lines S R0.labels.toNat)) := by
  refine C_s_roAbove ?_
  unfold V_s_roAbove
  refine NEW_intro fun pp w1 hp1 hs1 hE1 hb1 => LD_bs2 hb1 ?_
  have hlab := hg.lab
  rw [h.lines.len]
  refine ⟨IN2 R0.lines.length fun i (out : Sl) w' => Ext w w' ∧ ∃ m : List Int, R w' out m ∧ m.Pairwise (· < ·) ∧ ∀ x : Int, x ∈ m ↔ ∃ a : Nat, x = a ∧ a < R0.labels.toNat ∧ Above (R0.lines.take i) S a, MN2 R0.lines.length, IN2_zero ⟨hE1, [], slr_nil _ _, List.Pairwise.nil, fun x => ⟨fun hh => by simp at hh, fun ⟨a, _, _, y, hy, _⟩ => by simp at hy⟩⟩, ?_⟩
  rintro out _ w2 ⟨i, rfl, hi, hE2, m, hm, hms, hmx⟩
  intros
  refine cond_dec (fun hlt => ?_) (fun hge => ?_)
  · have hi' : i < R0.lines.length := by omega
    obtain ⟨hpos, hnat, hx64⟩ := row_two hg (List.getElem_mem hi')
    refine (h.lines.ext hE2).ixL hi' fun q row hrow hc => LD_sl hc ?_
    refine slr_drop (i := 1) hrow.any (by omega) rfl fun dd hd => ?_
    rw [List.drop_one] at hd
    refine call (prAll_ok hd (hS.ext hE2)) ?_
    rintro v _ ⟨hv, rfl⟩
    have hhead : R0.lines[i].head? = some R0.lines[i][0] := by rw [List.head?_eq_getElem?, List.getElem?_eq_getElem hpos]
    have hstep : ∀ a, Above (R0.lines.take (i + 1)) S a ↔ Above (R0.lines.take i) S a ∨ (R0.lines[i][0] = (a : Int) ∧ ∀ y ∈ R0.lines[i].tail, y ∈ S) := fun a => by
      unfold Above
      rw [List.take_succ_eq_append_getElem hi']
      constructor
      · rintro ⟨x, hx, h1, h2⟩
        rcases List.mem_append.1 hx with hx | hx
        · exact .inl ⟨x, hx, h1, h2⟩
        · rw [List.mem_singleton.1 hx] at h1 h2
          rw [hhead] at h1
          exact .inr ⟨Option.some.inj h1, h2⟩
      · rintro (⟨x, hx, h1⟩ | ⟨h1, h2⟩)
        · exact ⟨x, List.mem_append_left _ hx, h1⟩
        · exact ⟨_, List.mem_append_right _ (List.mem_singleton.2 rfl), by rw [hhead, h1], h2⟩
    refine cond_b (fun ht => ?_) (fun hf => IN2_next h.lines.le hi' ⟨hE2, m, hm, hms, fun x => ?_⟩)
    · refine hrow.any.ixI (i := 0) hpos fun q2 h64 hc2 => LD_int hc2 ?_
      obtain ⟨b, hb, hbn⟩ := hnat _ (List.getElem_mem hpos)
      have hml := labs_few hms (n := R0.labels.toNat) fun x hx => by obtain ⟨a, h1, h2, _⟩ := (hmx x).1 hx; exact ⟨a, h1, h2⟩
      refine call (l1Put_ok hm (by omega) hms h64) ?_
      rintro o' w4 ⟨hE4, m4, hm4, hms4, hmx4, _⟩
      refine IN2_next h.lines.le hi' ⟨hE2.trans hE4, m4, hm4, hms4, fun x => ?_⟩
      rw [hmx4, hmx]
      constructor
      · rintro (⟨a, h1, h2, h3⟩ | rfl)
        · exact ⟨a, h1, h2, (hstep a).2 (.inl h3)⟩
        · exact ⟨b, hb, hbn, (hstep b).2 (.inr ⟨hb, hv.1 ht⟩)⟩
      · rintro ⟨a, h1, h2, h3⟩
        rcases (hstep a).1 h3 with h4 | ⟨h4, _⟩
        · exact .inl ⟨a, h1, h2, h4⟩
        · exact .inr (by rw [h1, h4])
    · rw [hmx]
      constructor
      · rintro ⟨a, h1, h2, h3⟩
        exact ⟨a, h1, h2, (hstep a).2 (.inl h3)⟩
      · rintro ⟨a, h1, h2, h3⟩
        exact ⟨a, h1, h2, ((hstep a).1 h3).resolve_right fun ⟨_, h5⟩ => by rw [hv.2 h5] at hf; cases hf⟩
  · have : i = R0.lines.length := by omega
    subst this
    rw [List.take_length] at hmx
    have e : m = aboveL R0.lines S R0.labels.toNat := sorted_ext hms (aboveL_sorted _ _ _) fun x => (hmx x).trans aboveL_mem.symm
    rw [e] at hm
    exact ⟨hE2, hm⟩

theorem roRoots_ok {w : World} {s : Sl} {R0 : RPr} (h : RRo w s R0) (hg : RoGood R0) :
    Calls Tryz.prog F.s_roRoots #[.agg #[.int .i64 R0.labels, .int .i64 R0.children, s.v], .int .i64 (R0.labels + 1)] w (Ret [.at .sl] fun (r : Sl) w' => Ext w w' ∧ R w' r (lastingL R0)) := by
  refine C_s_roRoots ?_
  unfold V_s_roRoots
  refine NEW_intro fun pp w1 hp1 hs1 hE1 hb1 => LD_iis hb1 ?_
  have hlab := hg.lab
  refine call (roAll_ok (R0 := R0) (by omega)) ?_
  rintro t0 w2 ⟨hE2, hO2⟩
  have h64 : ∀ k, ∀ x ∈ rootsL R0 k, I64 x := fun k => labs64 (n := R0.labels.toNat) (by omega) (rootsL_lab R0 k)
  refine ⟨IN2 (R0.labels.toNat + 1) fun k (x : Sl) w' => Ext w1 w' ∧ R w' x (rootsL R0 k), MN2 (R0.labels.toNat + 1), IN2_zero ⟨hE2, (hO2.rep (h64 0)).any⟩, ?_⟩
  rintro x _ w3 ⟨k, rfl, hk, hE3, hR3⟩
  intros
  refine cond_dec (fun hlt => ?_) (fun hge => ?_)
  · have hk' : k < R0.labels.toNat + 1 := by omega
    refine LD_iis (hb1.ext hE3) ?_
    refine call (roAbove_ok (h.ext (hE1.trans hE3)) hg hR3) ?_
    rintro y w4 ⟨hE4, hR4⟩
    refine call (l1Same_ok hR4 (hR3.ext hE4)) ?_
    rintro _ w5 ⟨rfl, hE5⟩
    refine cond_dec (fun heq => ?_) (fun hne => ?_)
    · rw [lasting_of (k := k) heq] at hR3
      exact ⟨(hE1.trans hE3).trans (hE4.trans hE5), hR3.ext (hE4.trans hE5)⟩
    · exact IN2_next (by omega) hk' ⟨hE3.trans (hE4.trans hE5), hR4.ext hE5⟩
  · have : k = R0.labels.toNat + 1 := by omega
    subst this
    exact ⟨hE1.trans hE3, hR3⟩

end Go.Proofs.YtfiginahjofdnaaGreat
end

section
/- The reference's distances from a node. -/
namespace Go.Proofs.YtfiginahjofdnaaGreat
open Go.GX Go.RowKit
set_option maxRecDepth 100000

/-- What the search keeps in memory: distances, queue, apart from each other. -/
structure BfsMem (w1 w' : World) (b1 b2 : Nat) (E : Ends) (v : Nat) (sD sW : Sl) (D W : List Int) (k : Nat) : Prop where
  ext : Ext w1 w'
  dist : OwnL w' b1 T.t_int sD D
  queue : OwnL w' b2 T.t_int sW W
  bfs : Bfs E v W D k
  lo1 : w1.heap.size ≤ b1
  lo12 : b1 ≤ b2
  lo2 : b2 ≤ w'.heap.size
  sep : ∀ g, sD.v.ownBlock = some g → g < b2

theorem BfsMem.next {w1 w' w'' : World} {b1 b2 : Nat} {E : Ends} {v : Nat} {sD sW : Sl} {D W : List Int} {k : Nat} (h : BfsMem w1 w' b1 b2 E v sD sW D W k) (hE : Ext w' w'') : BfsMem w1 w'' b1 b2 E v sD sW D W k :=
  { h with ext := h.ext.trans hE, dist := h.dist.ext hE, queue := h.queue.ext hE, lo2 := Nat.le_trans h.lo2 hE.size_le }

end Go.Proofs.YtfiginahjofdnaaGreat
end

section
/- Dominating sets: both sides' tests. -/
namespace Go.Proofs.YtfiginahjofdnaaGreat
open Go.GX Go.RowKit
set_option maxRecDepth 100000

/-! ### The program's side -/

def upTo (n : Nat) : List Int := (List.range n).map fun (k : Nat) => (k : Int)

theorem upTo_len (n : Nat) : (upTo n).length = n := by simp [upTo]
theorem numbersTo_ok (n : Nat) (hn : n ≤ 1048576) (w : World) :
    Calls Tryz.prog F.i_numbersTo #[.int .i64 n] w (Ret [.at .sl] fun (r : Sl) w' => Ext w w' ∧ OwnL w' w.heap.size T.t_int r (upTo n)) := by
  refine C_i_numbersTo ?_
  unfold V_i_numbersTo
  refine RUN_make (α := Int) slt_int (d := 0) rfl (by omega) (by unfold maxLen; omega) fun s w1 hE1 hO1 => ?_
  have hsl : s.len = n := by have := hO1.1; simpa using this
  rw [hsl]
  have hul := upTo_len n
  refine ⟨IN n fun i w' => Ext w w' ∧ OwnL w' w.heap.size T.t_int s ((upTo n).take i ++ List.replicate (n - i) 0), MN n, IN_zero ⟨hE1, by simpa using hO1⟩, ?_⟩
  rintro _ w2 ⟨i, rfl, hi, hE, hO⟩
  intros
  refine cond_dec (fun hlt => ?_) (fun hge => ?_)
  · have hi' : i < n := by omega
    have hfl : ((upTo n).take i ++ List.replicate (n - i) 0).length = n := by simp [hul]; omega
    refine IX_own hO (by rw [hfl]; exact hi') rfl fun q hq => ?_
    refine ST_own hO (by rw [hfl]; exact hi') hq (i : Int) rfl fun w3 hO3 hs3 => ?_
    refine IN_next (by omega) hi' ⟨hs3.ext0 hE (fun k hk => (hO.blk k hk).1), ?_⟩
    have hf := fill_step (l := upTo n) (i := i) (by rw [hul]; exact hi') 0
    have hui : (upTo n)[i]'(by rw [hul]; exact hi') = (i : Int) := by simp [upTo]
    rw [hui, hul] at hf
    rw [← hf]
    exact hO3
  · have : i = n := by omega
    subst this
    refine ⟨hE, ?_⟩
    have h1 : (upTo i).take i = upTo i := List.take_of_length_le (by rw [hul]; exact Nat.le_refl _)
    rw [h1] at hO
    simpa using hO

end Go.Proofs.YtfiginahjofdnaaGreat
end

section
/- Rooted problems: pruning, both sides; PruneRooted, ClassOfRooted. -/
namespace Go.Proofs.YtfiginahjofdnaaGreat
open Go.GX Go.RowKit
set_option maxRecDepth 100000

theorem sharedLabels_ok {w : World} {s t : Sl} {l m : List Int} (h : R w s l) (hm : R w t m) (hl : l.length ≤ 1000) :
    Calls Tryz.prog F.i_sharedLabels #[s.v, t.v] w (Ret [.at .sl] fun (r : Sl) w' => Ext w w' ∧ OwnL w' w.heap.size T.t_int r (l.filter fun x => m.contains x)) := by
  refine C_i_sharedLabels ?_
  unfold V_i_sharedLabels
  rw [h.len]
  refine ⟨IN2 l.length fun i (out : Sl) w' => Ext w w' ∧ OwnL w' w.heap.size T.t_int out ((l.take i).filter fun x => m.contains x), MN2 l.length, IN2_zero ⟨Ext.refl _, OwnL.nil _ _ _⟩, ?_⟩
  rintro out _ w1 ⟨i, rfl, hi, hE1, hO1⟩
  intros
  refine cond_dec (fun hlt => ?_) (fun hge => ?_)
  · have hi' : i < l.length := by omega
    refine (h.ext hE1).ixI hi' fun q hq64 hc => LD_int hc ?_
    refine call (contains_ok (hm.ext hE1) _) ?_
    rintro _ _ ⟨rfl, rfl⟩
    have htk : l.take (i + 1) = l.take i ++ [l[i]] := List.take_succ_eq_append_getElem hi'
    have hfl : ((l.take i).filter fun x => m.contains x).length ≤ 1000 := Nat.le_trans (List.length_filter_le _ _) (by rw [List.length_take]; omega)
    refine cond_b (fun ht => ?_) (fun hf => IN2_next h.le hi' ⟨hE1, ?_⟩)
    · refine RUN_lit1 (α := Int) slt_int l[i] rfl (by decide) fun y w3 hE3 hO3 => ?_
      have hz1 := hE1.size_le
      have hz3 := hE3.size_le
      refine RUN_append (α := Int) slt_int (hO1.ext hE3) (by omega) (hO3.rep (by intro x hx; rw [List.mem_singleton.1 hx]; exact hq64)).any (by rw [List.length_singleton]; omega) (by rw [List.length_singleton]; unfold maxLen; omega) fun r w4 hO4 hs4 => ?_
      refine IN2_next h.le hi' ⟨hs4.ext0 (hE1.trans hE3) fun k hk => (hO1.blk k hk).1, ?_⟩
      have e : (l.take (i + 1)).filter (fun x => m.contains x) = (l.take i).filter (fun x => m.contains x) ++ [l[i]] := by
        rw [htk, List.filter_append, List.filter_cons, if_pos ht]; rfl
      rw [e]; exact hO4
    · have e : (l.take (i + 1)).filter (fun x => m.contains x) = (l.take i).filter (fun x => m.contains x) := by
        rw [htk, List.filter_append, List.filter_cons, if_neg (by rw [hf]; simp)]; simp
      rw [e]; exact hO1
  · have : i = l.length := by omega
    subst this
    rw [List.take_length] at hO1
    exact ⟨hE1, hO1⟩

theorem pruneL_lab {R0 : RPr} : ∀ k, ∀ x ∈ pruneL R0 k, ∃ a : Nat, x = a ∧ a < R0.labels.toNat
  | 0, x, hx => allL_mem.1 hx
  | _ + 1, x, hx => by
    obtain ⟨a, h1, h2, _⟩ := flexL_mem.1 hx
    exact ⟨a, h1, h2⟩
theorem prune_bound {R0 : RPr} {k : Nat} (h : ∀ j, j < k → ¬ PruneEnd R0 j) : k ≤ R0.labels.toNat := by
  rcases prune_len R0 k with h1 | ⟨j, hj, he⟩
  · by_cases hk : k = 0
    · omega
    · obtain ⟨j, rfl⟩ : ∃ j, k = j + 1 := ⟨k - 1, by omega⟩
      have h2 : pruneL R0 (j + 1) ≠ [] := fun hn => h j (by omega) (.inl hn)
      have h3 := List.length_pos_iff.2 h2
      omega
  · exact absurd he (h j hj)
noncomputable def pruneTo (R0 : RPr) (k : Nat) : List (List Int) := (List.range (k + 1)).map (pruneL R0)
theorem pruneTo_len (R0 : RPr) (k : Nat) : (pruneTo R0 k).length = k + 1 := by simp [pruneTo]
theorem pruneTo_get {R0 : RPr} {k i : Nat} (h : i < (pruneTo R0 k).length) : (pruneTo R0 k)[i] = pruneL R0 i := by simp [pruneTo]
theorem pruneTo_snoc (R0 : RPr) (k : Nat) : pruneTo R0 (k + 1) = pruneTo R0 k ++ [pruneL R0 (k + 1)] := by
  unfold pruneTo
  rw [List.range_succ, List.map_append, List.map_singleton]
theorem prune_done {R0 : RPr} {k : Nat} (h : ∀ j, j < k → ¬ PruneEnd R0 j) (he : PruneEnd R0 k) : PruneIs R0 (pruneTo R0 (k + 1)) := ⟨k, he, h, rfl⟩

theorem rowsD_one {w : World} {base b1 : Nat} {s r : Sl} {l : List Int} (hO : OwnL w b1 T.t_sl_int s [r]) (hr : OwnL w base T.t_int r l) (hb : base ≤ b1) : RowsD w base T.t_int T.t_sl_int s [l] [r] :=
  ⟨hO.low hb, rfl, fun i q m hq hm => by
    cases i with
    | zero => simp at hq hm; subst hq; subst hm; exact hr
    | succ i => simp at hq, fun i j q u hq hu hne => by
    cases i with
    | zero =>
      cases j with
      | zero => exact absurd rfl hne
      | succ j => simp at hu
    | succ i => simp at hq⟩

theorem pruned_ok {w : World} {s : Sl} {R0 : RPr} (h : RRo w s R0) (hg : RoGood R0) (hs : SmallRo R0) :
    Calls Tryz.prog F.i_RootedProblem_pruned #[.agg #[.int .i64 R0.labels, .int .i64 R0.children, s.v]] w (Ret [.at .sl] fun (r : Sl) w' => Ext w w' ∧ ∃ L, OutM w.heap.size w' r L ∧ PruneIs R0 L) := by
  refine C_i_RootedProblem_pruned ?_
  unfold V_i_RootedProblem_pruned
  refine NEW_intro fun pp w1 hp1 hs1 hE1 hb1 => LD_bi0 hb1 ?_
  have hlab := hg.lab
  have hn12 : R0.labels.toNat ≤ 12 := by omega
  have hcallN := numbersTo_ok R0.labels.toNat (by omega) w1
  rw [show ((R0.labels.toNat : Nat) : Int) = R0.labels by omega] at hcallN
  refine call hcallN ?_
  rintro r0 w2 ⟨hE2, hO2⟩
  have e0 : upTo R0.labels.toNat = pruneL R0 0 := rfl
  rw [e0] at hO2
  have hz1 := hE1.size_le
  have hz2 := hE2.size_le
  refine RUN_lit1 (α := Sl) slt_rows r0 rfl (by decide) fun y w3 hE3 hO3 => ?_
  have hz3 := hE3.size_le
  have h64 : ∀ k, ∀ x ∈ pruneL R0 k, I64 x := fun k => labs64 (n := R0.labels.toNat) (by omega) (pruneL_lab k)
  have hpl : ∀ k, (pruneL R0 k).length ≤ 12 := fun k => by have := labs_few (pruneL_sorted R0 k) (pruneL_lab k); omega
  have hM3 : RowsD w3 w1.heap.size T.t_int T.t_sl_int y (pruneTo R0 0) [r0] := rowsD_one hO3 (hO2.ext hE3) hz2
  have fin : ∀ {out : Sl} {w' : World} {k : Nat} {ss : List Sl}, Ext w1 w' → RowsD w' w1.heap.size T.t_int T.t_sl_int out (pruneTo R0 (k + 1)) ss → (∀ j, j < k → ¬ PruneEnd R0 j) → PruneEnd R0 k → Ext w w' ∧ ∃ L, OutM w.heap.size w' out L ∧ PruneIs R0 L := fun hE hM hno he => by
    have hk := prune_bound hno
    refine ⟨hE1.trans hE, _, ⟨⟨_, hM.low hz1⟩, fun r hr => ?_, by rw [pruneTo_len]; omega, fun r hr => ?_⟩, prune_done hno he⟩
    · obtain ⟨j, _, rfl⟩ := List.mem_map.1 hr
      exact h64 j
    · obtain ⟨j, _, rfl⟩ := List.mem_map.1 hr
      have := hpl j
      omega
  refine ⟨fun (out : Sl) w' => ∃ (k : Nat) (ss : List Sl), Ext w1 w' ∧ RowsD w' w1.heap.size T.t_int T.t_sl_int out (pruneTo R0 k) ss ∧ ∀ j, j < k → ¬ PruneEnd R0 j, fun out _ => R0.labels.toNat + 2 - out.len, ⟨0, [r0], hE2.trans hE3, hM3, fun j hj => by omega⟩, ?_⟩
  rintro out w4 ⟨k, ss, hE4, hM4, hno⟩
  intros
  have hk := prune_bound hno
  have hol : out.len = k + 1 := by have := hM4.own.1; rw [hM4.len, pruneTo_len] at this; exact this
  rw [hol]
  have e1 : IntKind.i64.wrap (((k + 1 : Nat) : Int) - 1) = (k : Int) := by rw [wrap_of (by omega) (by omega)]; omega
  rw [e1]
  have hkl : k < (pruneTo R0 k).length := by rw [pruneTo_len]; omega
  refine hM4.ix hkl fun q row hrow hOr hc _ => LD_sl hc ?_
  rw [pruneTo_get hkl] at hOr
  intro w5 hE5 _
  have hE15 := hE4.trans hE5
  have hE05 := hE1.trans hE15
  have hR5 : R w5 row (pruneL R0 k) := ((hOr.ext hE5).rep (h64 k)).any
  refine LD_iis (hb1.ext hE15) ⟨Ext.refl _, ?_⟩
  refine call (setOf_ok hR5 hn12 (pruneL_lab k)) ?_
  rintro _ _ ⟨rfl, rfl⟩
  refine ⟨Ext.refl _, call (pathForm_ok (S := pruneL R0 k) (h.ext hE05) hg hs) ?_⟩
  rintro _ rA w7 ⟨rfl, hE7, A, hRA, hPA⟩
  refine ⟨hE7, ?_⟩
  refine call (flexibleLabels_ok (p := ⟨R0.labels, A⟩) ⟨h.lab, hRA⟩ (hPA.good hg)) ?_
  rintro rf w8 ⟨hE8, hOf⟩
  refine ⟨hE7.trans hE8, ?_⟩
  have eF : flexL (arcE A) R0.labels.toNat = pruneL R0 (k + 1) := by rw [hPA.rel]; rfl
  have hOf2 : OwnL w8 w7.heap.size T.t_int rf (pruneL R0 (k + 1)) := by rw [← eF]; exact hOf
  have hE58 := hE7.trans hE8
  refine call (sharedLabels_ok (hR5.ext hE58) (hOf2.rep (h64 (k + 1))).any (by have := hpl k; omega)) ?_
  rintro rn w9 ⟨hE9, hO9⟩
  rw [shared_eq (pruneL_sorted R0 k) (pruneL_sorted R0 (k + 1)) flex_sub] at hO9
  have hE59 := hE58.trans hE9
  refine ⟨hE59, ?_⟩
  refine RUN_lit1 (α := Sl) slt_rows rn rfl (by decide) fun y10 w10 hE10 hO10 => ?_
  have hz5 := hE15.size_le
  have hz58 := hE58.size_le
  have hz9 := hE9.size_le
  have hz10 := hE10.size_le
  have hz45 := hE5.size_le
  refine RUN_append_rowD slt_rows (by decide) (hM4.ext (hE5.trans (hE59.trans hE10))) (by omega) ((hO9.ext hE10).low (by omega)) (hM4.fresh hO9 (by omega)) hO10 (by rw [pruneTo_len]; omega) (by rw [pruneTo_len]; unfold maxLen; omega) fun out' w11 hM11 hs11 => ?_
  rw [← pruneTo_snoc] at hM11
  have hE11 : Ext w1 w11 := hs11.ext0 (hE15.trans (hE59.trans hE10)) fun b hb => (hM4.own.blk b hb).1
  have hnl : rn.len = (pruneL R0 (k + 1)).length := hO9.1
  have hrl : row.len = (pruneL R0 k).length := hOr.1
  rw [hnl, hrl]
  refine cond_eq (fun h0 => fin hE11 hM11 hno (.inl (List.length_eq_zero_iff.1 (by omega)))) (fun hne0 => ?_)
  refine cond_eq (fun heq => fin hE11 hM11 hno (.inr ((prune_sublist R0 k).eq_of_length (by omega)))) (fun hne => ?_)
  have hol' : out'.len = k + 2 := by have := hM11.own.1; rw [hM11.len, pruneTo_len] at this; exact this
  refine ⟨⟨k + 1, _, hE11, hM11, fun j hj he => ?_⟩, by simp only [hol, hol']; omega⟩
  by_cases hjk : j = k
  · subst hjk
    rcases he with he | he
    · exact hne0 (by rw [he]; rfl)
    · exact hne (by rw [he])
  · exact hno j (by omega) he

/-- A row of an array whose parts are only read, with where it lies. -/
theorem _root_.Go.GX.RowsR.ixR {base : Nat} {e : TypeId} {w : World} {s : Sl} {L : List (List Int)} (h : RowsR base e w s L) {i : Nat} (hi : i < L.length) {K : Addr → Prop} (hk : ∀ p r, SlR (fun b => s.v.ownBlock ≠ some b) w r L[i] → w.cell? p = some r.v → K p) : IX s i 1 K := by
  obtain ⟨ss, hO, hl, hr⟩ := h.ex
  have hi' : i < ss.length := by omega
  exact (hO.rep fun _ _ => trivial).ix rfl (by omega) (by omega) fun p cs hrep hc => hk p ss[i] (hr i hi' hi) (hc 0 _ (by
    have : cs = [ss[i].v] := hrep
    rw [this]; rfl))

theorem roPrune_ok {w : World} {s : Sl} {R0 : RPr} (h : RRo w s R0) (hg : RoGood R0) (hs : SmallRo R0) :
    Calls Tryz.prog F.s_roPrune #[.agg #[.int .i64 R0.labels, .int .i64 R0.children, s.v]] w (Ret [.at .sl] fun (r : Sl) w' => Ext w w' ∧ ∃ L, R w' r L ∧ PruneIs R0 L) := by
  refine C_s_roPrune ?_
  unfold V_s_roPrune
  refine NEW_intro fun pp w1 hp1 hs1 hE1 hb1 => LD_iis hb1 ?_
  have hlab := hg.lab
  have hn12 : R0.labels.toNat ≤ 12 := by omega
  refine call (roAll_ok (R0 := R0) (by omega)) ?_
  rintro r0 w2 ⟨hE2, hO2⟩
  have e0 : allL R0.labels.toNat = pruneL R0 0 := rfl
  rw [e0] at hO2
  have hz1 := hE1.size_le
  have hz2 := hE2.size_le
  refine RUN_lit1 (α := Sl) slt_rows r0 rfl (by decide) fun y w3 hE3 hO3 => ?_
  have hz3 := hE3.size_le
  have h64 : ∀ k, ∀ x ∈ pruneL R0 k, I64 x := fun k => labs64 (n := R0.labels.toNat) (by omega) (pruneL_lab k)
  have hX3 : RowsR w1.heap.size T.t_sl_int w3 y (pruneTo R0 0) := RowsR.one hE3 hO3 (Nat.le_refl _) hz2 (hO2.rep (h64 0)).any
  refine ⟨fun (out : Sl) w' => ∃ k : Nat, Ext w1 w' ∧ RowsR w1.heap.size T.t_sl_int w' out (pruneTo R0 k) ∧ ∀ j, j < k → ¬ PruneEnd R0 j, fun out _ => R0.labels.toNat + 2 - out.len, ⟨0, hE2.trans hE3, hX3, fun j hj => by omega⟩, ?_⟩
  rintro out w4 ⟨k, hE4, hX4, hno⟩
  intros
  have hk := prune_bound hno
  have hol : out.len = k + 1 := by have := hX4.rep.len; rw [pruneTo_len] at this; exact this
  rw [hol]
  have e1 : IntKind.i64.wrap (((k + 1 : Nat) : Int) - 1) = (k : Int) := by rw [wrap_of (by omega) (by omega)]; omega
  rw [e1]
  have hkl : k < (pruneTo R0 k).length := by rw [pruneTo_len]; omega
  refine hX4.ixR hkl fun q row hrow hc => LD_sl hc (LD_iis (hb1.ext hE4) ?_)
  rw [pruneTo_get hkl] at hrow
  have hE04 := hE1.trans hE4
  refine call (roPath_ok (h.ext hE04) hg hs hrow.any) ?_
  rintro _ rA w5 ⟨rfl, hE5, A, hRA, hPA⟩
  refine call (waFlexible_ok (p := ⟨R0.labels, A⟩) ⟨h.lab, hRA⟩ (hPA.good hg)) ?_
  rintro rn w6 ⟨hE6, hRn⟩
  have eF : flexL (arcE A) R0.labels.toNat = pruneL R0 (k + 1) := by rw [hPA.rel]; rfl
  have hRn2 : SlR (fun b => w5.heap.size ≤ b) w6 rn (pruneL R0 (k + 1)) := by rw [← eF]; exact hRn
  have hE46 := hE5.trans hE6
  refine RUN_lit1 (α := Sl) slt_rows rn rfl (by decide) fun y7 w7 hE7 hO7 => ?_
  have hz4 := hE4.size_le
  have hz5 := hE5.size_le
  have hE47 := hE46.trans hE7
  have hRn7 : SlR (fun b => out.v.ownBlock ≠ some b) w7 rn (pruneL R0 (k + 1)) := (hRn2.weak (fun b hb _ he => by have h3 : w5.heap.size ≤ b := hb; have := (hX4.blk he).2; omega) RepP.pos).ext hE7
  refine RUN_append_R slt_rows hX4 (by omega) hE47 hRn7 hO7 (by rw [pruneTo_len]; omega) (by rw [pruneTo_len]; unfold maxLen; omega) fun out' w8 hX8 hs8 => ?_
  rw [← pruneTo_snoc] at hX8
  have hE8 : Ext w1 w8 := hs8.ext0 (hE4.trans hE47) fun b hb => (hX4.blk hb).1
  have fin : ∀ {w' : World}, Ext w8 w' → PruneEnd R0 k → Ext w w' ∧ ∃ L, R w' out' L ∧ PruneIs R0 L := fun hE he => ⟨(hE1.trans hE8).trans hE, _, hX8.rep.ext hE, prune_done hno he⟩
  have hnl : rn.len = (pruneL R0 (k + 1)).length := hRn2.len
  rw [hnl]
  refine cond_eq (fun h0 => fin (Ext.refl _) (.inl (List.length_eq_zero_iff.1 (by omega)))) (fun hne0 => ?_)
  refine call (l1Same_ok (hRn7.stepD hs8 fun b hb he => hb he.symm.symm).any ((hrow.ext hE47).stepD hs8 fun b hb he => hb he).any) ?_
  rintro _ w9 ⟨rfl, hE9⟩
  refine cond_dec (fun heq => fin hE9 (.inr heq)) (fun hne => ?_)
  have hol' : out'.len = k + 2 := by have := hX8.rep.len; rw [pruneTo_len] at this; exact this
  refine ⟨⟨k + 1, hE8.trans hE9, hX8.ext hE9, fun j hj he => ?_⟩, by simp only [hol, hol']; omega⟩
  by_cases hjk : j = k
  · subst hjk
    rcases he with he | he
    · exact hne0 (by rw [he]; rfl)
    · exact hne he
  · exact hno j (by omega) he

end Go.Proofs.YtfiginahjofdnaaGreat
end

section
/- Rooted problems: PruneRooted and ClassOfRooted, both sides; problems as arguments. -/
namespace Go.Proofs.YtfiginahjofdnaaGreat
open Go.GX Go.RowKit
set_option maxRecDepth 100000

/-- What PruneRooted answers. -/
structure PrAns (R0 : RPr) (L : List (List Int)) (ok : Bool) : Prop where
  ok : ok = true ↔ RoGood R0
  yes : RoGood R0 → PruneIs R0 L
  no : ¬ RoGood R0 → L = []
theorem PrAns.eq {R0 : RPr} {L M : List (List Int)} {a b : Bool} (h : PrAns R0 L a) (h' : PrAns R0 M b) : L = M ∧ a = b := by
  refine ⟨?_, by rw [Bool.eq_iff_iff, h.ok, h'.ok]⟩
  rcases Classical.em (RoGood R0) with hg | hg
  · exact (h.yes hg).unique (h'.yes hg)
  · rw [h.no hg, h'.no hg]

theorem PruneRooted_ok {w : World} {s : Sl} {R0 : RPr} (h : RRo w s R0) (hs : SmallRo R0) :
    Calls Tryz.prog F.i_PruneRooted #[.agg #[.int .i64 R0.labels, .int .i64 R0.children, s.v]] w (Ret [.at .sl, .at .bool] fun (r : Sl) (ok : Bool) w' => Ext w w' ∧ ∃ L, OutM w.heap.size w' r L ∧ PrAns R0 L ok) := by
  refine C_i_PruneRooted ?_
  unfold V_i_PruneRooted
  refine NEW_intro fun pp w1 hp1 hs1 hE1 hb1 => LD_iis hb1 ?_
  refine call (IsRootedProblem_ok (h.ext hE1)) ?_
  rintro b w2 ⟨hb, hE2⟩
  have hE12 := hE1.trans hE2
  refine cond_not (fun hf => ⟨hE12, [], OutM.nil _ _, ⟨⟨(fun hh => by cases hh), (fun hg => by rw [hb.2 hg] at hf; cases hf)⟩, (fun hg => by rw [hb.2 hg] at hf; cases hf), fun _ => rfl⟩⟩) (fun ht => LD_iis (hb1.ext hE2) ?_)
  have hg := hb.1 ht
  refine call (pruned_ok (h.ext hE12) hg hs) ?_
  rintro r w3 ⟨hE3, L, hO, hP⟩
  exact ⟨hE12.trans hE3, L, hO.low hE12.size_le, ⟨fun _ => hg, fun _ => rfl⟩, fun _ => hP, fun hn => absurd hg hn⟩

theorem sPruneRooted_ok {w : World} {s : Sl} {R0 : RPr} (h : RRo w s R0) (hs : SmallRo R0) :
    Calls Tryz.prog F.s_PruneRooted #[.agg #[.int .i64 R0.labels, .int .i64 R0.children, s.v]] w (Ret [.at .sl, .at .bool] fun (r : Sl) (ok : Bool) w' => Ext w w' ∧ ∃ L, R w' r L ∧ PrAns R0 L ok) := by
  refine C_s_PruneRooted ?_
  unfold V_s_PruneRooted
  refine NEW_intro fun pp w1 hp1 hs1 hE1 hb1 => LD_iis hb1 ?_
  refine call (roGood_ok (h.ext hE1)) ?_
  rintro b w2 ⟨hb, hE2⟩
  have hE12 := hE1.trans hE2
  refine cond_not (fun hf => ⟨hE12, [], slr_nil _ _, ⟨⟨(fun hh => by cases hh), (fun hg => by rw [hb.2 hg] at hf; cases hf)⟩, (fun hg => by rw [hb.2 hg] at hf; cases hf), fun _ => rfl⟩⟩) (fun ht => LD_iis (hb1.ext hE2) ?_)
  have hg := hb.1 ht
  refine call (roPrune_ok (h.ext hE12) hg hs) ?_
  rintro r w3 ⟨hE3, L, hO, hP⟩
  exact ⟨hE12.trans hE3, L, hO, ⟨fun _ => hg, fun _ => rfl⟩, fun _ => hP, fun hn => absurd hg hn⟩

/-- The class by the labels of roots and the lists of pruning. -/
def clsOf (A : List Int) (L : List (List Int)) : Int := if A = [] then 0 else if 0 < (L.getD (L.length - 1) []).length then 2 else 1
/-- What ClassOfRooted answers. -/
structure ClAns (R0 : RPr) (x : Int) (ok : Bool) : Prop where
  ok : ok = true ↔ RoGood R0
  yes : RoGood R0 → ∃ L, PruneIs R0 L ∧ x = clsOf (lastingL R0) L
  no : ¬ RoGood R0 → x = 0
theorem ClAns.eq {R0 : RPr} {x y : Int} {a b : Bool} (h : ClAns R0 x a) (h' : ClAns R0 y b) : x = y ∧ a = b := by
  refine ⟨?_, by rw [Bool.eq_iff_iff, h.ok, h'.ok]⟩
  rcases Classical.em (RoGood R0) with hg | hg
  · obtain ⟨L, h1, h2⟩ := h.yes hg
    obtain ⟨M, h3, h4⟩ := h'.yes hg
    rw [h2, h4, h1.unique h3]
  · rw [h.no hg, h'.no hg]

theorem PruneIs.pos {R0 : RPr} {L : List (List Int)} (h : PruneIs R0 L) (hg : RoGood R0) : 0 < L.length ∧ L.length ≤ 1000 := by
  obtain ⟨k, _, h2, rfl⟩ := h.ex
  have h3 := prune_bound h2
  have h4 := hg.lab
  simp
  omega

theorem cls_last {w : World} {r : Sl} {L : List (List Int)} {A : List Int} (hR : R w r L) (hp : 0 < L.length ∧ L.length ≤ 1000) (hA : A ≠ []) {K : Int → Prop} (hk : ∀ x, x = clsOf A L → K x) : IX r (IntKind.i64.wrap ((r.len : Int) - 1)) 1 fun p => LD [.sl] p w fun (x : Sl) => cond (decide ((x.len : Int) > 0)) (K 2) (K 1) := by
  have e1 : IntKind.i64.wrap ((r.len : Int) - 1) = ((L.length - 1 : Nat) : Int) := by rw [hR.len, wrap_of (by omega) (by omega)]; omega
  rw [e1]
  have hl : L.length - 1 < L.length := by omega
  refine hR.ixL hl fun q row hrow hc => LD_sl hc ?_
  have e2 : L.getD (L.length - 1) [] = L[L.length - 1] := by rw [List.getD_eq_getElem?_getD, List.getElem?_eq_getElem hl]; rfl
  have e3 := hrow.len
  refine cond_dec (fun hpos => hk _ ?_) (fun hz => hk _ ?_)
  · unfold clsOf
    rw [if_neg hA, e2, if_pos (by omega)]
  · unfold clsOf
    rw [if_neg hA, e2, if_neg (by omega)]

theorem ClassOfRooted_ok {w : World} {s : Sl} {R0 : RPr} (h : RRo w s R0) (hs : SmallRo R0) :
    Calls Tryz.prog F.i_ClassOfRooted #[.agg #[.int .i64 R0.labels, .int .i64 R0.children, s.v]] w (Ret [.at (.int .i64), .at .bool] fun (x : Int) (ok : Bool) w' => Ext w w' ∧ ClAns R0 x ok) := by
  refine C_i_ClassOfRooted ?_
  unfold V_i_ClassOfRooted
  refine NEW_intro fun pp w1 hp1 hs1 hE1 hb1 => LD_iis hb1 ?_
  refine call (IsRootedProblem_ok (h.ext hE1)) ?_
  rintro b w2 ⟨hb, hE2⟩
  have hE12 := hE1.trans hE2
  refine cond_not (fun hf => ⟨hE12, ⟨⟨(fun hh => by cases hh), (fun hg => by rw [hb.2 hg] at hf; cases hf)⟩, (fun hg => by rw [hb.2 hg] at hf; cases hf), fun _ => rfl⟩⟩) (fun ht => LD_iis (hb1.ext hE2) ?_)
  have hg := hb.1 ht
  refine call (pruned_ok (h.ext hE12) hg hs) ?_
  rintro r w3 ⟨hE3, L, hO, hP⟩
  have hE03 := hE12.trans hE3
  refine LD_iis (hb1.ext (hE2.trans hE3)) ?_
  refine call (rootsOfDepth_ok (h.ext hE03) hg) ?_
  rintro x w4 ⟨hx, hE4⟩
  have hE04 := hE03.trans hE4
  have mk : ∀ y, y = clsOf (lastingL R0) L → Ext w w4 ∧ ClAns R0 y true := fun y hy => ⟨hE04, ⟨fun _ => hg, fun _ => rfl⟩, fun _ => ⟨L, hP, hy⟩, fun hn => absurd hg hn⟩
  refine cond_eq (fun h0 => mk 0 ?_) (fun hne => ?_)
  · unfold clsOf
    rw [if_pos (hx.1 h0)]
  · exact cls_last (hO.rep.ext hE4) (hP.pos hg) (fun hn => hne (hx.2 hn)) mk

theorem sClassOfRooted_ok {w : World} {s : Sl} {R0 : RPr} (h : RRo w s R0) (hs : SmallRo R0) :
    Calls Tryz.prog F.s_ClassOfRooted #[.agg #[.int .i64 R0.labels, .int .i64 R0.children, s.v]] w (Ret [.at (.int .i64), .at .bool] fun (x : Int) (ok : Bool) w' => Ext w w' ∧ ClAns R0 x ok) := by
  refine C_s_ClassOfRooted ?_
  unfold V_s_ClassOfRooted
  refine NEW_intro fun pp w1 hp1 hs1 hE1 hb1 => LD_iis hb1 ?_
  refine call (roGood_ok (h.ext hE1)) ?_
  rintro b w2 ⟨hb, hE2⟩
  have hE12 := hE1.trans hE2
  refine cond_not (fun hf => ⟨hE12, ⟨⟨(fun hh => by cases hh), (fun hg => by rw [hb.2 hg] at hf; cases hf)⟩, (fun hg => by rw [hb.2 hg] at hf; cases hf), fun _ => rfl⟩⟩) (fun ht => LD_iis (hb1.ext hE2) ?_)
  have hg := hb.1 ht
  refine call (roPrune_ok (h.ext hE12) hg hs) ?_
  rintro r w3 ⟨hE3, L, hO, hP⟩
  have hE03 := hE12.trans hE3
  have hb3 := hb1.ext (hE2.trans hE3)
  have hlab := hg.lab
  refine LD_iis hb3 (LD_bi0 hb3 ?_)
  rw [wrap_of (n := R0.labels + 1) (by omega) (by omega)]
  refine call (roRoots_ok (h.ext hE03) hg) ?_
  rintro x w4 ⟨hE4, hR4⟩
  have hE04 := hE03.trans hE4
  have mk : ∀ y, y = clsOf (lastingL R0) L → Ext w w4 ∧ ClAns R0 y true := fun y hy => ⟨hE04, ⟨fun _ => hg, fun _ => rfl⟩, fun _ => ⟨L, hP, hy⟩, fun hn => absurd hg hn⟩
  have hxl := hR4.len
  refine cond_eq (fun h0 => mk 0 ?_) (fun hne => ?_)
  · unfold clsOf
    rw [if_pos (List.length_eq_zero_iff.1 (by omega))]
  · exact cls_last (hO.ext hE4) (hP.pos hg) (fun hn => hne (by rw [hxl, hn]; rfl)) mk

end Go.Proofs.YtfiginahjofdnaaGreat
end

section
/- Arguments that are small structs, read as data. No program is named here. -/
namespace Go.GX
open Go.RowKit Go.WideShapes Go.ChangeShapes Go.ChangeAt Go.Deep

/-- An argument that is a struct of two numbers and a slice. -/
theorem open_iis {P : Program} {t u0 u1 u2 : TypeId} {α : Type} [RepP α] (hf : fieldsB P t [u0, u1, u2] = true) (h0 : Reads P u0 Int) (h1 : Reads P u1 Int) (h2 : Reads P u2 (List α))
    {H : Type} {enc : TypeId × Value → H} {w : World} {base b0 : Nat} {spare : Nat → Bool} {held : Bool} {r} {v : Value} {d : DataW H} {p : List MemPlace}
    (hv : Value.okWide P w r b0 t v) (h : DataW.Trod enc P w base spare held t v d p) : ∃ (a b : Int) (c : Sl) (y : List α), v = .agg #[.int .i64 a, .int .i64 b, c.v] ∧ I64 a ∧ I64 b ∧ R w c y := by
  obtain ⟨fs, hu, _⟩ := fieldsB_struct hf
  obtain ⟨cs, rfl, _⟩ := okWide_struct hu hv
  obtain ⟨fuel, hx⟩ := h
  obtain ⟨hl, hx⟩ := trod_fields hf hx
  obtain ⟨v0, n0, y0, hv0, ht0⟩ := hx 0 u0 rfl
  obtain ⟨v1, n1, y1, hv1, ht1⟩ := hx 1 u1 rfl
  obtain ⟨v2, n2, y2, hv2, ht2⟩ := hx 2 u2 rfl
  obtain ⟨a, ha, hA⟩ := h0 ht0
  obtain ⟨b, hb, hB⟩ := h1 ht1
  obtain ⟨y, c, hc, hC⟩ := h2 ht2
  simp only [List.cons.injEq, and_true] at ha hb hc
  subst ha; subst hb; subst hc
  refine ⟨a, b, c, y, ?_, hA, hB, hC⟩
  congr 1
  apply Array.ext'
  apply List.ext_getElem?
  intro i
  match i with
  | 0 => simpa [Value.cells] using hv0
  | 1 => simpa [Value.cells] using hv1
  | 2 => simpa [Value.cells] using hv2
  | i + 3 => simp [Value.cells] at hl; simp [hl]

end Go.GX
end

section
/- Rooted problems as arguments: read, counted, copied, held against each other, marked. -/
namespace Go.Proofs.YtfiginahjofdnaaGreat
open Go.GX Go.RowKit
set_option maxRecDepth 100000

theorem szIntS_tot {w : World} {a : Sl} {l : List Int} (h : R w a l) (left : Int) (h0 : 0 ≤ left) (h1 : left ≤ 1048576) :
    Calls Tryz.prog F.l_szIntS #[a.v, .int .i64 left] w (Ret [.at (.int .i64)] fun (x : Int) w' => (0 ≤ x → x + l.length ≤ left) ∧ w = w') := by
  refine C_l_szIntS ?_
  unfold V_l_szIntS
  have := h.le
  rw [h.len, wrap_of (by omega) (by omega)]
  exact cond_dec (fun _ => ⟨by omega, rfl⟩) (fun _ => ⟨by omega, rfl⟩)

theorem szIntSS_tot {w : World} {a : Sl} {l : List (List Int)} (h : R w a l) (left : Int) (h0 : 0 ≤ left) (h1 : left ≤ 1048576) :
    Calls Tryz.prog F.l_szIntSS #[a.v, .int .i64 left] w (Ret [.at (.int .i64)] fun (x : Int) w' => (0 ≤ x → x + l.length + pre l l.length ≤ left ∧ ∀ r ∈ l, r.length ≤ left) ∧ w = w') := by
  refine C_l_szIntSS ?_
  unfold V_l_szIntSS
  have := h.le
  rw [h.len, wrap_of (by omega) (by omega)]
  refine cond_dec (fun _ => ⟨by omega, rfl⟩) (fun hle => ?_)
  refine ⟨fun y x w' => w = w' ∧ 0 ≤ y ∧ ∃ i : Nat, x = i ∧ i ≤ l.length ∧ y + l.length + pre l i ≤ left ∧ ∀ r ∈ l.take i, r.length ≤ left, fun _ x _ => l.length - x.toNat, ⟨rfl, by omega, 0, rfl, by omega, by rw [pre_zero]; omega, by simp⟩, ?_⟩
  rintro y x _ ⟨rfl, hy0, i, rfl, hi, hy, hr⟩
  intros
  refine cond_dec (fun hlt => ?_) (fun hge => ⟨fun _ => ?_, rfl⟩)
  · have hlt' : i < l.length := by omega
    refine h.ixL hlt' fun p s' hs' hc => LD_sl hc ?_
    refine call (szIntS_tot hs'.any y hy0 (by omega)) ?_
    rintro x _ ⟨hx, rfl⟩
    refine cond_dec (fun _ => ⟨by omega, rfl⟩) (fun hn => ?_)
    have hx' := hx (by omega)
    rw [wrap_of (by omega) (by omega)]
    refine ⟨⟨rfl, by omega, i + 1, by omega, hlt', by rw [pre_succ hlt']; omega, fun r hr' => ?_⟩, by simp only []; omega⟩
    rw [List.take_succ_eq_append_getElem hlt'] at hr'
    rcases List.mem_append.1 hr' with h3 | h3
    · exact hr r h3
    · rw [List.mem_singleton.1 h3]; omega
  · have : i = l.length := by omega
    subst this
    rw [List.take_length] at hr
    exact ⟨hy, hr⟩

theorem szRooted_ok {w : World} {s : Sl} {p : RPr} (h : RRo w s p) (left : Int) (h0 : 0 ≤ left) (h1 : left ≤ 1048576) :
    Calls Tryz.prog F.l_szRootedProblem #[.agg #[.int .i64 p.labels, .int .i64 p.children, s.v], .int .i64 left] w (Ret [.at (.int .i64)] fun (x : Int) w' => (0 ≤ x → SmallRo p) ∧ Ext w w') := by
  refine C_l_szRootedProblem ?_
  unfold V_l_szRootedProblem
  refine NEW_intro fun pa w1 hp hs hE hb => LD_bs2 hb ?_
  refine call (szIntSS_tot (h.lines.ext hE) left h0 h1) ?_
  rintro x _ ⟨hx, rfl⟩
  refine cond_dec (fun hn => ⟨fun h => by omega, hE⟩) (fun hnn => ⟨fun _ => ?_, hE⟩)
  obtain ⟨a1, a2⟩ := hx (by omega)
  exact ⟨by omega, by omega, fun r hr => by have := a2 r hr; omega⟩

theorem toRooted_own {w : World} {s : Sl} {p : RPr} (h : RRo w s p) (hs : SmallRo p) :
    Calls Tryz.prog F.l_toRootedProblem #[.agg #[.int .i64 p.labels, .int .i64 p.children, s.v]] w (Ret [.agg [.int .i64, .int .i64, .sl]] fun (x y : Int) (z : Sl) w' => x = p.labels ∧ y = p.children ∧ Ext w w' ∧ RRo w' z p ∧ MIntSS w' z w.heap.size w'.heap.size) := by
  refine C_l_toRootedProblem ?_
  unfold V_l_toRootedProblem
  refine NEW_intro fun pa w1 hp1 hs1 hE1 hb1 => NEW_intro fun px w2 hp2 hs2 hE2 hb2 => NEW_intro fun po w3 hp3 hs3 hE3 hb3 => ?_
  have hE23 := hE2.trans hE3
  have hE03 := hE1.trans hE23
  have hz1 := hE1.size_le
  have hz2 := hE2.size_le
  have hz3 := hE3.size_le
  have ha3 := hb1.ext hE23
  have hx3 := hb2.ext hE3
  have hlt1 := hb1.lt
  have hlt2 := hb2.lt
  have hlt3 := hb3.lt
  refine LD_bi0 ha3 ?_
  refine ST_boxC hb3 (by simp) rfl hE03 (by omega) fun w4 hC4 hE04 hb4 => LD_bi1 (ha3.chg hC4 (by omega)) ?_
  refine ST_boxC hb4 (by simp) rfl hE04 (by omega) fun w5 hC5 hE05 hb5 => LD_bs2 ((ha3.chg hC4 (by omega)).chg hC5 (by omega)) ?_
  have hz4 := hC4.size
  have hz5 := hC5.size
  refine call (toIntSS_own (h.lines.ext hE05) hs.len hs.row) ?_
  rintro z w6 ⟨hE6, hO6⟩
  have hz6 := hE6.size_le
  have hE06 := hE05.trans hE6
  refine ST_boxC (hb5.ext hE6) (by simp) rfl hE06 (by omega) fun w7 hC7 hE07 hb7 => LD_iis hb7 ?_
  have hz7 := hC7.size
  have hx7 := (((hx3.chg hC4 (by omega)).chg hC5 (by omega)).ext hE6).chg hC7 (by omega)
  refine ST_all hx7 (one3r p.labels p.children z) rfl fun w8 hs8 hz8 hb8 => LD_iis hb8 ?_
  have hO8 : Own2 w8 w.heap.size T.t_int T.t_sl_int z p.lines := by
    obtain ⟨ss, k1, k2, k3⟩ := hO6
    have keepB : ∀ k, w5.heap.size ≤ k → k < w6.heap.size → w8.heap[k]? = w6.heap[k]? := fun k h1 h2 => by
      rw [hs8.block k (by omega) (by intro he; cases he; omega), hC7.block k h2 (by omega)]
    exact ⟨ss, (k1.keep fun k hk => keepB k (k1.blk k hk).1 (k1.blk k hk).2).low (by omega), k2, fun i r l hr hl => ((k3 i r l hr hl).keep fun k hk => keepB k ((k3 i r l hr hl).blk k hk).1 ((k3 i r l hr hl).blk k hk).2).low (by omega)⟩
  exact ⟨rfl, rfl, hs8.ext0 hE07 fun k hk => by cases hk; omega, ⟨h.lab, h.chi, hO8.rep (flat_okII h.lines)⟩, mintss_of hO8 hs.len hs.row⟩

theorem toRooted_ok {w : World} {s : Sl} {p : RPr} (h : RRo w s p) (hs : SmallRo p) :
    Calls Tryz.prog F.l_toRootedProblem #[.agg #[.int .i64 p.labels, .int .i64 p.children, s.v]] w (Ret [.agg [.int .i64, .int .i64, .sl]] fun (x y : Int) (z : Sl) w' => x = p.labels ∧ y = p.children ∧ Ext w w' ∧ RRo w' z p) := by
  refine call (toRooted_own h hs) ?_
  rintro x y z w' ⟨h1, h2, h3, h4, _⟩
  exact ⟨h1, h2, h3, h4⟩

theorem eqRooted_ok {w : World} {s t : Sl} {p : RPr} (h : RRo w s p) (h' : RRo w t p) :
    Calls Tryz.prog F.l_eqRootedProblem #[.agg #[.int .i64 p.labels, .int .i64 p.children, s.v], .agg #[.int .i64 p.labels, .int .i64 p.children, t.v]] w (Ret [.at .bool] fun (x : Bool) w' => x = true ∧ Ext w w') := by
  refine C_l_eqRootedProblem ?_
  unfold V_l_eqRootedProblem
  refine NEW_intro fun pa w1 hp1 hs1 hE1 hb1 => NEW_intro fun pb w2 hp2 hs2 hE2 hb2 => ?_
  have ha := hb1.ext hE2
  have hE := hE1.trans hE2
  refine LD_bi0 ha (LD_bi0 hb2 (cond_ne (fun h => absurd rfl h) (fun _ => LD_bi1 ha (LD_bi1 hb2 (cond_ne (fun h => absurd rfl h) (fun _ => LD_bs2 ha (LD_bs2 hb2 ?_)))))))
  refine call (eqIntSS_ok (h.lines.ext hE) (h'.lines.ext hE)) ?_
  rintro _ w3 ⟨rfl, hE3⟩
  exact cond_f (by simp) ⟨rfl, hE.trans hE3⟩

theorem markRooted_ok {w : World} {s : Sl} {lo hi : Nat} {x y : Int} (h : MIntSS w s lo hi) (k : Int) (hk0 : 0 ≤ k) (hk : k ≤ 1125899906842624) :
    Calls Tryz.prog F.l_markRootedProblem #[.agg #[.int .i64 x, .int .i64 y, s.v], .int .i64 k] w (Ret [.at (.int .i64)] fun (r : Int) w' => 0 ≤ r ∧ Chg w w' (fun b => lo ≤ b ∧ b < hi)) := by
  refine C_l_markRootedProblem ?_
  unfold V_l_markRootedProblem
  refine NEW_intro fun p w1 hp hs hE hb => LD_bs2 hb ?_
  refine call (markIntSS_ok (h.ext hE) k hk0 (by omega)) ?_
  rintro r1 w2 ⟨ha, _, _, hC⟩
  exact ⟨ha, (Chg.of_ext hE).trans hC⟩

variable {H : Type} {enc : TypeId × Value → H} {w : World} {base b0 : Nat} {spare : Nat → Bool} {held : Bool} {v : Value} {d : DataW H} {p : List MemPlace}

theorem open_Q {r} (hv : Value.okWide Tryz.prog w r b0 T.t_l_RootedProblem v) (h : DataW.Trod enc Tryz.prog w base spare held T.t_l_RootedProblem v d p) : ∃ (c : Sl) (q : RPr), v = .agg #[.int .i64 q.labels, .int .i64 q.children, c.v] ∧ RRo w c q := by
  obtain ⟨a, b, c, y, rfl, h0, h1, h2⟩ := open_iis (u0 := T.t_int) (u1 := T.t_int) (u2 := T.t_sl_sl_int) (by kernel_rfl) reads_int reads_int reads_intss hv h
  exact ⟨c, ⟨a, b, y⟩, rfl, h0, h1, h2⟩

end Go.Proofs.YtfiginahjofdnaaGreat
end

section
/- The walk of the law FnExactClassOfRooted. -/
namespace Go.Proofs.YtfiginahjofdnaaGreat
open Go.GX Go.RowKit
set_option maxRecDepth 100000
set_option maxHeartbeats 800000

theorem fnExactClassOfRooted_ok {w : World} {s : Sl} {q : RPr} (h : RRo w s q) :
    Calls Tryz.prog F.l_FnExactClassOfRooted #[.agg #[.int .i64 q.labels, .int .i64 q.children, s.v]] w (Ret [.at .bool] fun (x : Bool) w' => x = true ∧ Ext w w') := by
  refine C_l_FnExactClassOfRooted ?_
  unfold V_l_FnExactClassOfRooted
  refine NEW_intro fun p0 u0 hp0 hs0 hA0 hb0 => ?_
  have hE := hA0
  replace h := h.ext hA0
  refine LD_iis hb0 ?_
  refine call (szRooted_ok h 1048576 (by omega) (by omega)) ?_
  rintro z0 x0 ⟨hz0, hB0⟩
  replace hE := hE.ext hB0
  replace h := h.ext hB0
  replace hb0 := hb0.ext hB0
  refine cond_dec (fun _ => ⟨rfl, hE⟩) (fun hzl0 => ?_)
  have hS := hz0 (by omega)
  refine LD_iis hb0 ?_
  refine call (toRooted_ok h hS) ?_
  rintro _ _ z w1 ⟨rfl, rfl, hE1, hR1⟩
  replace hE := hE.ext hE1
  replace h := h.ext hE1
  replace hb0 := hb0.ext hE1
  refine call (sClassOfRooted_ok hR1 hS) ?_
  rintro v1 ok1 w2 ⟨hE2, hA1⟩
  replace hE := hE.ext hE2
  replace h := h.ext hE2
  replace hb0 := hb0.ext hE2
  refine LD_iis hb0 ?_
  refine call (toRooted_ok h hS) ?_
  rintro _ _ z2 w3 ⟨rfl, rfl, hE3, hR3⟩
  replace hE := hE.ext hE3
  replace h := h.ext hE3
  replace hb0 := hb0.ext hE3
  refine NEW_ST (one3r _ _ _) rfl fun p1 w5 hp1 hE5 hb1 => ?_
  replace hE := hE.ext hE5
  replace h := h.ext hE5
  replace hb0 := hb0.ext hE5
  replace hR3 := hR3.ext hE5
  refine LD_iis hb1 ?_
  refine call (ClassOfRooted_ok hR3 hS) ?_
  rintro v2 ok2 w6 ⟨hE6, hA2⟩
  replace hE := hE.ext hE6
  replace h := h.ext hE6
  replace hb0 := hb0.ext hE6
  replace hR3 := hR3.ext hE6
  replace hb1 := hb1.ext hE6
  obtain ⟨rfl, rfl⟩ := ClAns.eq hA1 hA2
  refine cond_f (by simp) ?_
  refine cond_f (by simp) ?_
  unfold V_l_FnExactClassOfRooted_k2
  intro w7 hE7 _
  replace hE := hE.ext hE7
  replace h := h.ext hE7
  replace hb0 := hb0.ext hE7
  replace hR3 := hR3.ext hE7
  replace hb1 := hb1.ext hE7
  refine LD_iis hb1 (LD_iis hb0 ⟨Ext.refl _, ?_⟩)
  refine call (toRooted_ok h hS) ?_
  rintro _ _ z4 w8 ⟨rfl, rfl, hE8, hR8⟩
  replace hE := hE.ext hE8
  replace h := h.ext hE8
  replace hb0 := hb0.ext hE8
  replace hR3 := hR3.ext hE8
  replace hb1 := hb1.ext hE8
  refine ⟨hE8, call (eqRooted_ok hR3 hR8) ?_⟩
  rintro _ w9 ⟨rfl, hE9⟩
  exact ⟨hE8.trans hE9, cond_f (by simp) ⟨rfl, hE.trans hE9⟩⟩

end Go.Proofs.YtfiginahjofdnaaGreat
end

section
/- Facts of this seat's program that every claim's last step asks for, each computed once (together they need more memory than a text may use). -/
namespace Go.Proofs.YtfiginahjofdnaaGreat


theorem door_enters : Tryz.pinned.checked.prog.mayEnter = true := by kernel_rfl

theorem door_lifts : Tryz.pinned.checked.prog.liftsFinal = false := by kernel_rfl

theorem door_heard : Tryz.pinned.checked.prog.stopsHeard = true := by kernel_rfl

theorem door_laid : laidOutB Tryz.pinned.checked.prog = true := by kernel_rfl

theorem door_maps : mapsRowed Tryz.pinned.checked.prog = true := by kernel_rfl

end Go.Proofs.YtfiginahjofdnaaGreat
end

section
/- The walk of the law FnExactPruneRooted. -/
namespace Go.Proofs.YtfiginahjofdnaaGreat
open Go.GX Go.RowKit
set_option maxRecDepth 100000
set_option maxHeartbeats 800000

theorem fnExactPruneRooted_ok {w : World} {s : Sl} {q : RPr} (h : RRo w s q) :
    Calls Tryz.prog F.l_FnExactPruneRooted #[.agg #[.int .i64 q.labels, .int .i64 q.children, s.v]] w (Ret [.at .bool] fun (x : Bool) w' => x = true ∧ Ext w w') := by
  refine C_l_FnExactPruneRooted ?_
  unfold V_l_FnExactPruneRooted
  refine NEW_intro fun p0 u0 hp0 hs0 hA0 hb0 => ?_
  have hE := hA0
  replace h := h.ext hA0
  refine LD_iis hb0 ?_
  refine call (szRooted_ok h 1048576 (by omega) (by omega)) ?_
  rintro z0 x0 ⟨hz0, hB0⟩
  replace hE := hE.ext hB0
  replace h := h.ext hB0
  replace hb0 := hb0.ext hB0
  refine cond_dec (fun _ => ⟨rfl, hE⟩) (fun hzl0 => ?_)
  have hS := hz0 (by omega)
  refine LD_iis hb0 ?_
  refine call (toRooted_ok h hS) ?_
  rintro _ _ z w1 ⟨rfl, rfl, hE1, hR1⟩
  replace hE := hE.ext hE1
  replace h := h.ext hE1
  replace hb0 := hb0.ext hE1
  refine call (sPruneRooted_ok hR1 hS) ?_
  rintro sS okS wA ⟨hE2, L1, hP1, hA1⟩
  replace hE := hE.ext hE2
  replace h := h.ext hE2
  replace hb0 := hb0.ext hE2
  have hX := Ext.refl wA
  refine LD_iis (hb0.ext hX) ?_
  refine call (toRooted_own (h.ext hX) hS) ?_
  rintro _ _ zi wi ⟨rfl, rfl, hEi, hRi, hMi⟩
  have hli := hEi.size_le
  replace hX := hX.ext hEi
  have hH := Ext.refl wi
  refine NEW_ST (one3r _ _ _) rfl fun yi vi hqi hFi hc => ?_
  replace hX := hX.ext hFi
  replace hRi := hRi.ext hFi
  replace hMi := hMi.ext hFi
  replace hH := hH.ext hFi
  refine LD_iis hc ?_
  have hhi := hH.size_le
  refine call (PruneRooted_ok hRi hS) ?_
  rintro sI okI wE ⟨hCE, L2, hO, hA2⟩
  replace hX := hX.ext hCE
  replace hRi := hRi.ext hCE
  replace hMi := hMi.ext hCE
  replace hc := hc.ext hCE
  obtain ⟨rfl, rfl⟩ := PrAns.eq hA1 hA2
  have hHE := Ext.refl wE
  refine call (eqIntSS_ok hO.rep (hP1.ext hX)) ?_
  rintro _ we1 ⟨rfl, hK⟩
  replace hX := hX.ext hK
  replace hRi := hRi.ext hK
  replace hMi := hMi.ext hK
  replace hc := hc.ext hK
  replace hO := hO.ext hK
  replace hHE := hHE.ext hK
  refine cond_f (by simp) ?_
  refine cond_f (by simp) ?_
  unfold V_l_FnExactPruneRooted_k2
  intro m0 hG0 _
  replace hX := hX.ext hG0
  replace hRi := hRi.ext hG0
  replace hMi := hMi.ext hG0
  replace hc := hc.ext hG0
  replace hO := hO.ext hG0
  replace hHE := hHE.ext hG0
  refine LD_iis hc (LD_iis (hb0.ext hX) ?_)
  refine ⟨Ext.refl _, call (toRooted_ok (h.ext hX) hS) ?_⟩
  rintro _ _ ze we0' ⟨rfl, rfl, hHe0, hNe0⟩
  replace hX := hX.ext hHe0
  replace hRi := hRi.ext hHe0
  replace hMi := hMi.ext hHe0
  replace hc := hc.ext hHe0
  replace hO := hO.ext hHe0
  replace hHE := hHE.ext hHe0
  refine ⟨hHe0, call (eqRooted_ok hRi hNe0) ?_⟩
  rintro _ wf0 ⟨rfl, hK0⟩
  replace hX := hX.ext hK0
  replace hRi := hRi.ext hK0
  replace hMi := hMi.ext hK0
  replace hc := hc.ext hK0
  replace hO := hO.ext hK0
  replace hHE := hHE.ext hK0
  refine ⟨hHe0.trans hK0, cond_f (by simp) ?_⟩
  refine LD_iis hc ?_
  have hzHE := hHE.size_le
  refine call (markRooted_ok hMi 1 (by omega) (by omega)) ?_
  rintro k0 wm0 ⟨hk0, hCh⟩
  have hzk0 := hCh.size
  replace hX := hCh.extR hX (by omega)
  replace hO := hO.chgR hCh (by omega)
  refine cond_df (by omega) ?_
  refine call (eqIntSS_ok hO.rep (hP1.ext hX)) ?_
  rintro _ we2 ⟨rfl, hK⟩
  have hzK := hK.size_le
  replace hX := hX.ext hK
  replace hO := hO.ext hK
  refine cond_f (by simp) ?_
  refine cond_f (by simp) ?_
  unfold V_l_FnExactPruneRooted_k5
  have hrows := hO.rows
  have hsmall := hO.small
  refine call (markIntSS_out hO 1 (by omega) (by omega)) ?_
  rintro mk wg ⟨hmk, hMk, hSt⟩
  replace hX := hSt.extB hX (by omega)
  refine call (heldIntSS_ok 1 hMk (by omega) (by omega) hrows hsmall) ?_
  rintro _ _ ⟨rfl, rfl⟩
  refine cond_df (by omega) ?_
  refine cond_ne (fun hne => absurd hmk.symm hne) (fun _ => ?_)
  refine LD_iis (hb0.ext hX) ?_
  refine call (toRooted_ok (h.ext hX) hS) ?_
  rintro _ _ zj wj ⟨rfl, rfl, hEj, hNj⟩
  replace hX := hX.ext hEj
  replace hMk := hMk.ext hEj
  refine call (PruneRooted_ok hNj hS) ?_
  rintro sL okL wL ⟨hCL, L3, hGL, hA3⟩
  replace hX := hX.ext hCL
  replace hMk := hMk.ext hCL
  obtain ⟨rfl, rfl⟩ := PrAns.eq hA1 hA3
  refine call (eqIntSS_ok hGL.rep (hP1.ext hX)) ?_
  rintro _ we3 ⟨rfl, hK4⟩
  replace hX := hX.ext hK4
  replace hMk := hMk.ext hK4
  refine cond_f (by simp) ?_
  refine cond_f (by simp) ?_
  refine call (heldIntSS_ok 1 hMk (by omega) (by omega) hrows hsmall) ?_
  rintro _ _ ⟨rfl, rfl⟩
  refine cond_df (by omega) ?_
  refine cond_ne (fun hne => absurd hmk.symm hne) (fun _ => ?_)
  exact ⟨rfl, hE.trans hX⟩

end Go.Proofs.YtfiginahjofdnaaGreat
end
